/-
  Tree: callers that see a reader; and what the reader's small functions answer.
  Tree: what the reader's small functions answer, shown.
  Tree: what the reader's great functions answer, as plain functions by fuel.
  Tree: callers by what they decode; lex.Scan as one.
  Tree: what a law's frame asks of the program, and a world for the witness.
  Lex: the reference: is it a text?
  Lex: the reference: is it a text? The outer loop.
  Lex: the reference: is it a text? The whole.
  Lex: the reference: signs.
  Lex: the reference: the tokens of a text.
  Lex: the reference: Scan.
  Show: trees as plain data, and how they lie; callers that answer by a plain function.
  Show: names.
  Show: lists of names.
  Show: which trees may be.
-/
import Derived.Test.YtdgdfglbhndjnaaDoorShoPart1

set_option linter.all false
set_option linter.unusedSimpArgs false
set_option linter.unusedVariables false

section
namespace Go.Vai
open Go.Proofs

abbrev R1 := Out × St

def optP (o : Option R1) (K : Out → St → Option R1) : Option R1 := match o with | some (a, s) => K a s | none => none

theorem optP_optK {α : Type} (x : Option α) (F : α → Option R1) (K : Out → St → Option R1) : optP (optK x F) K = optK x fun a => optP (F a) K := by cases x <;> rfl
theorem optP_cond (c : Bool) (a b : Option R1) (K : Out → St → Option R1) : optP (bif c then a else b) K = bif c then optP a K else optP b K := by cases c <;> rfl
theorem optP_some (o : Out) (s : St) (K : Out → St → Option R1) : optP (some (o, s)) K = K o s := rfl

/-- A reader: its tokens, and where it is. -/
abbrev rdSt (l : List D) (i : Int) : St := [(0, .val 2 (.d (.agg [.sl 3 l, .int .i64 i])))]

/-- What a function of a reader answers. -/
structure RF where
  α : Type
  dec : List V → Option α
  go : List D → Int → α → (Out → Int → Option R1) → Option R1
  ok : ∀ l i x (K : Out → St → Option R1), go l i x (fun o j => K o (rdSt l j)) = optP (go l i x fun o j => some (o, rdSt l j)) K

def rdOf : St → Option (List D × Int) | [(0, .val 2 (.d (.agg [.sl 3 l, .int .i64 i])))] => some (l, i) | _ => none
def rdArg : List V → Option (List V) | .ptr 0 0 :: r => some r | _ => none
def rdGo (F : RF) (x : F.α) (K : Out → St → Option R1) : List D × Int → Option R1 | (l, i) => F.go l i x fun o j => K o [(0, .val 2 (.d (.agg [.sl 3 l, .int .i64 j])))]

theorem rdOf_some {σ : St} {q : List D × Int} (h : rdOf σ = some q) : σ = rdSt q.1 q.2 := by
  unfold rdOf at h
  split at h
  · cases h; rfl
  · cases h
theorem rdArg_some {a r : List V} (h : rdArg a = some r) : a = .ptr 0 0 :: r := by
  unfold rdArg at h
  split at h
  · cases h; rfl
  · cases h

/-- What is known, and a reader's function more. -/
def rdr (f : Nat) (F : RF) (S : CK R1) : CK R1 where
  S := fun g args σ => bif Nat.beq g f then optK (rdOf σ) fun q => optK (rdArg args) fun r => optK (F.dec r) fun x => rdGo F x (fun o s => some (o, s)) q else S.S g args σ
  run := fun g args σ K => bif Nat.beq g f then optK (rdOf σ) fun q => optK (rdArg args) fun r => optK (F.dec r) fun x => rdGo F x K q else S.run g args σ K
  ok := fun g a σ K => by
    show _ = optP _ K
    rw [optP_cond, optP_optK]
    simp only [optP_optK]
    cases Nat.beq g f
    · exact S.ok g a σ K
    · simp only [cond_true]
      congr 1
      funext q
      congr 1
      funext r
      congr 1
      funext x
      exact F.ok q.1 q.2 x K

theorem rdr_knows {f : Nat} {F : RF} {S : CK R1} (hS : knows cx S.S (evLim cx))
    (hF : ∀ l i x r args, F.dec args = some x → F.go l i x (fun o j => some (o, rdSt l j)) = some r → evLim cx f (.ptr 0 0 :: args) (rdSt l i) = some r) : knows cx (rdr f F S).S (evLim cx) := by
  intro g args σ r hd h
  simp only [rdr] at h
  cases hg : Nat.beq g f <;> rw [hg] at h
  · exact hS g args σ r hd h
  · obtain rfl := Nat.eq_of_beq_eq_true hg
    simp only [cond_true] at h
    obtain ⟨q, hq, h⟩ := optK_some h
    obtain ⟨u, ha, h⟩ := optK_some h
    obtain ⟨x, hx, h⟩ := optK_some h
    rw [rdOf_some hq, rdArg_some ha]
    exact hF q.1 q.2 x r u hx h

def dec0 : List V → Option Unit | [] => some () | _ => none
def decS : List V → Option (List UInt8) | [.d (.str s)] => some s | _ => none
def decI : List V → Option Int | [.d (.int .i64 s)] => some s | _ => none
theorem dec0_some {a : List V} {x : Unit} (h : dec0 a = some x) : a = [] := by
  unfold dec0 at h; split at h <;> first | rfl | cases h
theorem decS_some {a : List V} {x : List UInt8} (h : decS a = some x) : a = [.d (.str x)] := by
  unfold decS at h; split at h <;> cases h; rfl
theorem decI_some {a : List V} {x : Int} (h : decI a = some x) : a = [.d (.int .i64 x)] := by
  unfold decI at h; split at h <;> cases h; rfl

/- Tokens: the kind, the text, the place. -/
abbrev Tk3 := Int × List UInt8 × Int
abbrev up (i : Int) : Int := IntKind.i64.wrap (i + 1)
def Sp.tok (l : List D) (i : Int) : Option Tk3 :=
  bif decide (0 ≤ i) && decide (i < 4294967296) then (match l[i.toNat]? with | some (.agg [.int .i64 k, .str t, .int .i64 a]) => some (k, t, a) | _ => none) else none
def Sp.isS (p : Tk3) (s : List UInt8) : Bool := decide (p.1 = 2) && decide (p.2.1 = s)
def Sp.arr (p : Tk3) : Int := bif Sp.isS p [45, 62] then 4 else bif Sp.isS p [42] then 5 else 0
def Sp.binds (l : List D) (i : Int) : Option Bool := optK (Sp.tok l i) fun p => bif Sp.isS p [40] then
    optK (Sp.tok l (i + 1)) fun q => bif decide (q.1 = 1) then optK (Sp.tok l (i + 2)) fun r => some (decide (r.2.1 = [58])) else some false
  else some false

theorem tok_spec {l : List D} {i : Int} {p : Tk3} (h : Sp.tok l i = some p) : 0 ≤ i ∧ i < l.length ∧ i < 4294967296 ∧ l[i.toNat]? = some (tokD p.1 p.2.1 p.2.2) := by
  unfold Sp.tok at h
  cases hc : (decide (0 ≤ i) && decide (i < 4294967296)) <;> rw [hc] at h
  · cases h
  · simp only [Bool.and_eq_true, decide_eq_true_eq] at hc
    simp only [cond_true] at h
    split at h
    · rename_i k t a hg
      cases h
      have := (List.getElem?_eq_some_iff.1 hg).1
      exact ⟨hc.1, by omega, hc.2, hg⟩
    · cases h

theorem up_tok {l : List D} {i : Int} {p : Tk3} (h : Sp.tok l i = some p) : IntKind.i64.wrap (i + 1) = i + 1 := by
  obtain ⟨h1, _, h3, _⟩ := tok_spec h
  exact IntWalk.i64_in _ (by omega)

def wrongV (a e : Int) : V := .d (.iface 79 (.agg [.int .i64 a, .int .i64 e]))

def F27 : RF := ⟨Unit, dec0, fun l i _ K => optK (Sp.tok l i) fun p => K (.ret (.d (tokD p.1 p.2.1 p.2.2))) i, by intros; simp only [optP_optK, optP_some]⟩
noncomputable def T1 : CK R1 := rdr 27 F27 (CK.plain none1)
def F48 : RF := ⟨List UInt8, decS, fun l i s K => optK (Sp.tok l i) fun p => K (.ret (.d (.bool (Sp.isS p s)))) i, by intros; simp only [optP_optK, optP_some]⟩
def F46 : RF := ⟨Int, decI, fun l i e K => optK (Sp.tok l i) fun p => K (.pan (wrongV p.2.2 e)) i, by intros; simp only [optP_optK, optP_some]⟩
def F52 : RF := ⟨Unit, dec0, fun l i _ K => optK (Sp.tok l i) fun p => K (.ret (.d (tokD p.1 p.2.1 p.2.2))) (up i), by intros; simp only [optP_optK, optP_some]⟩
noncomputable def T2 : CK R1 := rdr 46 F46 (rdr 48 F48 (rdr 52 F52 T1))
def F47 : RF := ⟨Int, decI, fun l i v K => bif decide (200 < v) then optK (Sp.tok l i) fun p => K (.pan (wrongV p.2.2 62)) i else K (.ret (.tup [])) i, by intros; simp only [optP_optK, optP_cond, optP_some]⟩
def F50 : RF := ⟨List UInt8, decS, fun l i s K => optK (Sp.tok l i) fun p => bif Sp.isS p s then K (.ret (.tup [])) (up i) else K (.pan (wrongV p.2.2 61)) i, by intros; simp only [optP_optK, optP_cond, optP_some]⟩
def F57 : RF := ⟨Unit, dec0, fun l i _ K => optK (Sp.tok l i) fun p => bif decide (p.1 = 1) then K (.ret (.d (.str p.2.1))) (up i) else K (.pan (wrongV p.2.2 61)) i, by intros; simp only [optP_optK, optP_cond, optP_some]⟩
def F53 : RF := ⟨Unit, dec0, fun l i _ K => optK (Sp.tok l i) fun p => K (.ret (.d (.int .i64 (Sp.arr p)))) i, by intros; simp only [optP_optK, optP_some]⟩
def F51 : RF := ⟨Unit, dec0, fun l i _ K => optK (Sp.binds l i) fun b => K (.ret (.d (.bool b))) i, by intros; simp only [optP_optK, optP_some]⟩
noncomputable def T3 : CK R1 := rdr 47 F47 (rdr 50 F50 (rdr 57 F57 (rdr 53 F53 (rdr 51 F51 T2))))

end Go.Vai
end

section
namespace Go.Vai
open Go.Proofs

theorem b27 (n : Nat) (S : CK R1) (l : List D) (i : Int) :
    evBody cx S n 27 [.ptr 0 0] [(0, .val 2 (.d (.agg [.sl 3 l, .int .i64 i])))] =
  must (decide (0 ≤ i) && decide (i < (↑l.length : Int)))
    (nthD l i.toNat fun y =>
      DRW cx S n 27 1 1 9
        [{ i := 8, fp := [], w := [] }, { i := 7, fp := [0], w := [] }, { i := 6, fp := [], w := [] },
          { i := 5, fp := [], w := [] }, { i := 4, fp := [], w := [] }, { i := 3, fp := [0], w := [] },
          { i := 2, fp := [], w := [] }, { i := 1, fp := [], w := [] }, { i := 0, fp := [], w := [] }]
        [(11, V.eptr y 0), (10, V.d (D.int IntKind.i64 i)), (9, V.ptr 0 1), (8, V.ptr 0 0), (7, V.ptr 0 0),
          (6, V.d (D.sl 3 l)), (5, V.ptr 0 0), (4, V.ptr 0 0), (3, V.ptr 0 0), (2, V.ptr 3 0), (0, V.ptr 0 0)]
        [(0, Ob.val 2 (V.d (D.agg [D.sl 3 l, D.int IntKind.i64 i]))),
          (3, Ob.val 3 (V.d (D.agg [D.int IntKind.i64 (0 : Int), D.str [], D.int IntKind.i64 (0 : Int)])))]
        (AR cx S n 27 1 1 (EK cx 27 1))) := by kernel_rfl

theorem b48 (n : Nat) (l : List D) (i : Int) (s : List UInt8) :
    evBody cx T1 n 48 [.ptr 0 0, .d (.str s)] [(0, .val 2 (.d (.agg [.sl 3 l, .int .i64 i])))] =
  optK (Sp.tok l i) fun p =>
    bif decide (p.fst = (2 : Int)) then
      optK (Sp.tok l i) fun p =>
        some
          (Out.ret (V.d (D.bool (decide (p.snd.1 = s)))), [(0, Ob.val 2 (V.d (D.agg [D.sl 3 l, D.int IntKind.i64 i])))])
    else some (Out.ret (V.d (D.bool false)), [(0, Ob.val 2 (V.d (D.agg [D.sl 3 l, D.int IntKind.i64 i])))]) := by kernel_rfl

theorem b46 (n : Nat) (l : List D) (i e : Int) :
    evBody cx T1 n 46 [.ptr 0 0, .d (.int .i64 e)] [(0, .val 2 (.d (.agg [.sl 3 l, .int .i64 i])))] =
  optK (Sp.tok l i) fun p =>
    some
      (Out.pan (V.d (D.iface 79 (D.agg [D.int IntKind.i64 p.snd.snd, D.int IntKind.i64 e]))),
        [(0, Ob.val 2 (V.d (D.agg [D.sl 3 l, D.int IntKind.i64 i])))]) := by kernel_rfl

theorem b52 (n : Nat) (l : List D) (i : Int) :
    evBody cx T1 n 52 [.ptr 0 0] [(0, .val 2 (.d (.agg [.sl 3 l, .int .i64 i])))] =
  optK (Sp.tok l i) fun p =>
    some
      (Out.ret (V.d (D.agg [D.int IntKind.i64 p.fst, D.str p.snd.1, D.int IntKind.i64 p.snd.snd])),
        [(0, Ob.val 2 (V.d (D.agg [D.sl 3 l, D.int IntKind.i64 (IntKind.i64.wrap (i + (1 : Int)))])))]) := by kernel_rfl

theorem b50 (n : Nat) (l : List D) (i : Int) (s : List UInt8) :
    evBody cx T2 n 50 [.ptr 0 0, .d (.str s)] [(0, .val 2 (.d (.agg [.sl 3 l, .int .i64 i])))] =
  optK (Sp.tok l i) fun p =>
    bif !Sp.isS p s then
      optK (Sp.tok l i) fun p =>
        some
          (Out.pan (V.d (D.iface 79 (D.agg [D.int IntKind.i64 p.snd.snd, D.int IntKind.i64 (61 : Int)]))),
            [(0, Ob.val 2 (V.d (D.agg [D.sl 3 l, D.int IntKind.i64 i])))])
    else
      some
        (Out.ret (V.tup []),
          [(0, Ob.val 2 (V.d (D.agg [D.sl 3 l, D.int IntKind.i64 (IntKind.i64.wrap (i + (1 : Int)))])))]) := by kernel_rfl

theorem b57 (n : Nat) (l : List D) (i : Int) :
    evBody cx T2 n 57 [.ptr 0 0] [(0, .val 2 (.d (.agg [.sl 3 l, .int .i64 i])))] =
  optK (Sp.tok l i) fun p =>
    bif !decide (p.fst = (1 : Int)) then
      optK (Sp.tok l i) fun p =>
        some
          (Out.pan (V.d (D.iface 79 (D.agg [D.int IntKind.i64 p.snd.snd, D.int IntKind.i64 (61 : Int)]))),
            [(0, Ob.val 2 (V.d (D.agg [D.sl 3 l, D.int IntKind.i64 i])))])
    else
      optK (Sp.tok l i) fun p =>
        some (Out.ret (V.d (D.str p.snd.1)), [(0, Ob.val 2 (V.d (D.agg [D.sl 3 l, D.int IntKind.i64 (up i)])))]) := by kernel_rfl

theorem b47 (n : Nat) (l : List D) (i v : Int) :
    evBody cx T2 n 47 [.ptr 0 0, .d (.int .i64 v)] [(0, .val 2 (.d (.agg [.sl 3 l, .int .i64 i])))] =
  bif decide ((200 : Int) < v) then
    optK (Sp.tok l i) fun p =>
      some
        (Out.pan (V.d (D.iface 79 (D.agg [D.int IntKind.i64 p.snd.snd, D.int IntKind.i64 (62 : Int)]))),
          [(0, Ob.val 2 (V.d (D.agg [D.sl 3 l, D.int IntKind.i64 i])))])
  else some (Out.ret (V.tup []), [(0, Ob.val 2 (V.d (D.agg [D.sl 3 l, D.int IntKind.i64 i])))]) := by kernel_rfl

theorem b53 (n : Nat) (l : List D) (i : Int) :
    evBody cx T2 n 53 [.ptr 0 0] [(0, .val 2 (.d (.agg [.sl 3 l, .int .i64 i])))] =
  optK (Sp.tok l i) fun p =>
    bif Sp.isS p [45, 62] then
      some
        (Out.ret (V.d (D.int IntKind.i64 (4 : Int))), [(0, Ob.val 2 (V.d (D.agg [D.sl 3 l, D.int IntKind.i64 i])))])
    else
      optK (Sp.tok l i) fun p =>
        bif Sp.isS p [42] then
          some
            (Out.ret (V.d (D.int IntKind.i64 (5 : Int))),
              [(0, Ob.val 2 (V.d (D.agg [D.sl 3 l, D.int IntKind.i64 i])))])
        else
          some
            (Out.ret (V.d (D.int IntKind.i64 (0 : Int))),
              [(0, Ob.val 2 (V.d (D.agg [D.sl 3 l, D.int IntKind.i64 i])))]) := by kernel_rfl

theorem b51 (n : Nat) (l : List D) (i : Int) :
    evBody cx T2 n 51 [.ptr 0 0] [(0, .val 2 (.d (.agg [.sl 3 l, .int .i64 i])))] =
  optK (Sp.tok l i) fun p =>
    bif Sp.isS p [40] then
      must
        (decide (0 ≤ IntKind.i64.wrap (i + (1 : Int))) &&
          decide (IntKind.i64.wrap (i + (1 : Int)) < (↑l.length : Int)))
        (nthD l (IntKind.i64.wrap (i + (1 : Int))).toNat fun y =>
          nthD y.cells 0 fun c =>
            match c with
            | D.int k' n =>
              bif decide (k' = IntKind.i64) then
                bif decide (n = (1 : Int)) then
                  must
                    (decide (0 ≤ IntKind.i64.wrap (i + (2 : Int))) &&
                      decide (IntKind.i64.wrap (i + (2 : Int)) < (↑l.length : Int)))
                    (nthD l (IntKind.i64.wrap (i + (2 : Int))).toNat fun y =>
                      nthD y.cells 1 fun c =>
                        match c with
                        | D.str s =>
                          some
                            (Out.ret (V.d (D.bool (decide (s = [58])))),
                              [(0, Ob.val 2 (V.d (D.agg [D.sl 3 l, D.int IntKind.i64 i])))])
                        | x => none)
                else some (Out.ret (V.d (D.bool false)), [(0, Ob.val 2 (V.d (D.agg [D.sl 3 l, D.int IntKind.i64 i])))])
              else none
            | x => none)
    else some (Out.ret (V.d (D.bool false)), [(0, Ob.val 2 (V.d (D.agg [D.sl 3 l, D.int IntKind.i64 i])))]) := by kernel_rfl

theorem d27 (n : Nat) (S : CK R1) (l : List D) (i k : Int) (t : List UInt8) (a : Int) :
    DRW cx S n 27 1 1 9 [{ i := 8, fp := [], w := [] }, { i := 7, fp := [0], w := [] }, { i := 6, fp := [], w := [] }, { i := 5, fp := [], w := [] }, { i := 4, fp := [], w := [] }, { i := 3, fp := [0], w := [] }, { i := 2, fp := [], w := [] }, { i := 1, fp := [], w := [] }, { i := 0, fp := [], w := [] }] [(11, V.eptr (tokD k t a) 0), (10, V.d (D.int IntKind.i64 i)), (9, V.ptr 0 1), (8, V.ptr 0 0), (7, V.ptr 0 0), (6, V.d (D.sl 3 l)), (5, V.ptr 0 0), (4, V.ptr 0 0), (3, V.ptr 0 0), (2, V.ptr 3 0), (0, V.ptr 0 0)] [(0, Ob.val 2 (V.d (D.agg [D.sl 3 l, D.int IntKind.i64 i]))), (3, Ob.val 3 (V.d (D.agg [D.int IntKind.i64 (0 : Int), D.str [], D.int IntKind.i64 (0 : Int)])))] (AR cx S n 27 1 1 (EK cx 27 1)) =
  some
    (Out.ret (V.d (D.agg [D.int IntKind.i64 k, D.str t, D.int IntKind.i64 a])),
      [(0, Ob.val 2 (V.d (D.agg [D.sl 3 l, D.int IntKind.i64 i])))]) := by kernel_rfl

theorem nthD_at {R : Type} {l : List D} {i : Nat} {x : D} {K : D → Option R} (h : l[i]? = some x) : nthD l i K = K x := by unfold nthD; rw [h]

theorem in_l {l : List D} {i : Int} {p : Tk3} (h : Sp.tok l i = some p) : (decide (0 ≤ i) && decide (i < (l.length : Int))) = true := by
  obtain ⟨h1, h2, _⟩ := tok_spec h
  rw [decide_eq_true h1, decide_eq_true h2]; rfl

theorem none1K_knows : knows cx (CK.plain (R := R1) none1).S (evLim cx) := none1_knows cx

theorem lim27 (l : List D) (i : Int) (x : Unit) (r : R1) (a : List V) (hd : dec0 a = some x) (h : F27.go l i x (fun o j => some (o, rdSt l j)) = some r) : evLim cx 27 (.ptr 0 0 :: a) (rdSt l i) = some r := by
  rw [dec0_some hd]
  obtain ⟨p, hp, h⟩ := optK_some h
  refine lim_bodyK (call := CK.plain none1) none1K_knows (N := 0) ?_
  rw [b27, in_l hp, must, cond_true, nthD_at (tok_spec hp).2.2.2, d27]
  exact h

theorem T1_knows : knows cx T1.S (evLim cx) := rdr_knows none1K_knows lim27

theorem lim48 (l : List D) (i : Int) (s : List UInt8) (r : R1) (a : List V) (hd : decS a = some s) (h : F48.go l i s (fun o j => some (o, rdSt l j)) = some r) : evLim cx 48 (.ptr 0 0 :: a) (rdSt l i) = some r := by
  rw [decS_some hd]
  obtain ⟨p, hp, h⟩ := optK_some h
  refine lim_bodyK T1_knows (N := 0) ?_
  rw [b48, hp]
  simp only [optK, hp]
  rw [← h]
  unfold Sp.isS
  cases decide (p.1 = 2) <;> rfl

theorem lim46 (l : List D) (i : Int) (s : Int) (r : R1) (a : List V) (hd : decI a = some s) (h : F46.go l i s (fun o j => some (o, rdSt l j)) = some r) : evLim cx 46 (.ptr 0 0 :: a) (rdSt l i) = some r := by
  rw [decI_some hd]
  obtain ⟨p, hp, h⟩ := optK_some h
  refine lim_bodyK T1_knows (N := 0) ?_
  rw [b46, hp]
  exact h

theorem lim52 (l : List D) (i : Int) (s : Unit) (r : R1) (a : List V) (hd : dec0 a = some s) (h : F52.go l i s (fun o j => some (o, rdSt l j)) = some r) : evLim cx 52 (.ptr 0 0 :: a) (rdSt l i) = some r := by
  rw [dec0_some hd]
  obtain ⟨p, hp, h⟩ := optK_some h
  refine lim_bodyK T1_knows (N := 0) ?_
  rw [b52, hp]
  exact h

theorem T2_knows : knows cx T2.S (evLim cx) := rdr_knows (rdr_knows (rdr_knows T1_knows lim52) lim48) lim46

theorem lim50 (l : List D) (i : Int) (s : List UInt8) (r : R1) (a : List V) (hd : decS a = some s) (h : F50.go l i s (fun o j => some (o, rdSt l j)) = some r) : evLim cx 50 (.ptr 0 0 :: a) (rdSt l i) = some r := by
  rw [decS_some hd]
  obtain ⟨p, hp, h⟩ := optK_some h
  refine lim_bodyK T2_knows (N := 0) ?_
  rw [b50, hp]
  simp only [optK, hp]
  rw [← h]
  cases Sp.isS p s <;> rfl

theorem lim57 (l : List D) (i : Int) (s : Unit) (r : R1) (a : List V) (hd : dec0 a = some s) (h : F57.go l i s (fun o j => some (o, rdSt l j)) = some r) : evLim cx 57 (.ptr 0 0 :: a) (rdSt l i) = some r := by
  rw [dec0_some hd]
  obtain ⟨p, hp, h⟩ := optK_some h
  refine lim_bodyK T2_knows (N := 0) ?_
  rw [b57, hp]
  simp only [optK, hp]
  rw [← h]
  cases decide (p.1 = 1) <;> rfl

theorem lim47 (l : List D) (i : Int) (s : Int) (r : R1) (a : List V) (hd : decI a = some s) (h : F47.go l i s (fun o j => some (o, rdSt l j)) = some r) : evLim cx 47 (.ptr 0 0 :: a) (rdSt l i) = some r := by
  rw [decI_some hd]
  refine lim_bodyK T2_knows (N := 0) ?_
  rw [b47]
  exact h

theorem lim53 (l : List D) (i : Int) (s : Unit) (r : R1) (a : List V) (hd : dec0 a = some s) (h : F53.go l i s (fun o j => some (o, rdSt l j)) = some r) : evLim cx 53 (.ptr 0 0 :: a) (rdSt l i) = some r := by
  rw [dec0_some hd]
  obtain ⟨p, hp, h⟩ := optK_some h
  refine lim_bodyK T2_knows (N := 0) ?_
  rw [b53, hp]
  simp only [optK, hp]
  rw [← h]
  unfold Sp.arr
  cases Sp.isS p [45, 62] <;> cases Sp.isS p [42] <;> rfl

theorem lim51 (l : List D) (i : Int) (s : Unit) (r : R1) (a : List V) (hd : dec0 a = some s) (h : F51.go l i s (fun o j => some (o, rdSt l j)) = some r) : evLim cx 51 (.ptr 0 0 :: a) (rdSt l i) = some r := by
  rw [dec0_some hd]
  obtain ⟨b, hb, h⟩ := optK_some h
  obtain ⟨p, hp, hb⟩ := optK_some hb
  refine lim_bodyK T2_knows (N := 0) ?_
  have h0 := tok_spec hp
  rw [b51, hp]
  simp only [optK]
  cases hs : Sp.isS p [40] <;> rw [hs] at hb
  · cases hb; exact h
  · simp only [cond_true] at hb ⊢
    obtain ⟨q, hq, hb⟩ := optK_some hb
    have e1 : IntKind.i64.wrap (i + 1) = i + 1 := up_tok hp
    rw [e1, in_l hq, must, cond_true, nthD_at (tok_spec hq).2.2.2]
    show (bif decide (q.1 = 1) then _ else _) = _
    cases hk : decide (q.1 = 1) <;> rw [hk] at hb
    · cases hb; exact h
    · simp only [cond_true] at hb ⊢
      obtain ⟨t, ht, hb⟩ := optK_some hb
      have e2 : IntKind.i64.wrap (i + 2) = i + 2 := IntWalk.i64_in _ (by have := tok_spec ht; omega)
      rw [e2, in_l ht, must, cond_true, nthD_at (tok_spec ht).2.2.2]
      cases hb
      exact h

theorem T3_knows : knows cx T3.S (evLim cx) := rdr_knows (rdr_knows (rdr_knows (rdr_knows (rdr_knows T2_knows lim51) lim53) lim57) lim50) lim47

end Go.Vai
end

section
namespace Go.Vai
open Go.Proofs

/-- A tree. -/
structure Tr where
  k : Int
  nm : List UInt8
  kids : List D
  nms : List D
  pl : Int
instance : Inhabited Tr := ⟨⟨0, [], [], [], 0⟩⟩
def trD (t : Tr) : D := .agg [.int .i64 t.k, .str t.nm, .sl 5 t.kids, .sl 1 t.nms, .int .i64 t.pl]

/-- What is read: a tree, and what comes; or where it fails, and why. -/
inductive PR where
  | ok (t : Tr) (j : Int)
  | bad (a e j : Int)
def Sp.okQ : PR → Bool | .ok _ _ => true | _ => false
def Sp.trOf : PR → Tr | .ok t _ => t | _ => default
def Sp.nxt : PR → Int | .ok _ j => j | .bad _ _ j => j
def Sp.bAt : PR → Int | .bad a _ _ => a | _ => 0
def Sp.bE : PR → Int | .bad _ e _ => e | _ => 0
inductive PN where
  | ok (l : List D) (j : Int)
  | bad (a e j : Int)
def Sp.okN : PN → Bool | .ok _ _ => true | _ => false
def Sp.lN : PN → List D | .ok l _ => l | _ => []
def Sp.nxtN : PN → Int | .ok _ j => j | .bad _ _ j => j
def Sp.bAtN : PN → Int | .bad a _ _ => a | _ => 0
def Sp.bEN : PN → Int | .bad _ e _ => e | _ => 0

def Sp.call (o : Option PR) (K : Tr → Int → Option PR) : Option PR := optK o fun p => bif Sp.okQ p then K (Sp.trOf p) (Sp.nxt p) else some (.bad (Sp.bAt p) (Sp.bE p) (Sp.nxt p))
def Sp.callN (o : Option PN) (K : List D → Int → Option PR) : Option PR := optK o fun p => bif Sp.okN p then K (Sp.lN p) (Sp.nxtN p) else some (.bad (Sp.bAtN p) (Sp.bEN p) (Sp.nxtN p))
def Sp.want (l : List D) (i : Int) (s : List UInt8) (K : Int → Option PR) : Option PR := optK (Sp.tok l i) fun p => bif Sp.isS p s then K (up i) else some (.bad p.2.2 61 i)
def Sp.name (l : List D) (i : Int) (K : List UInt8 → Int → Option PR) : Option PR := optK (Sp.tok l i) fun p => bif decide (p.1 = 1) then K p.2.1 (up i) else some (.bad p.2.2 61 i)

/-- The functions, with some fuel. -/
structure Tb where
  names : List D → Int → Option PN
  face : List D → Int → Option PR
  term : List D → Int → Int → Option PR
  after : List D → Int → Int → Tr → Option PR
  atom : List D → Int → Int → Option PR
  box : List D → Int → Int → Option PR
  join : List D → Int → Int → Option PR
  meet : List D → Int → Int → Option PR
  dim : List D → Int → Int → Option PR

def Sp.short (l : List D) : Bool := decide (l.length < 4294967296)

def Sp.namesL : Nat → List D → Int → List D → Option PN
  | 0, _, _, _ => none
  | r + 1, l, i, ns => optK (Sp.tok l i) fun p => bif decide (p.1 = 1) then must (Sp.short ns) (Sp.namesL r l (up i) (ns ++ [.str p.2.1])) else some (.ok ns i)
def Sp.namesG (r : Nat) (l : List D) (i : Int) : Option PN := optK (Sp.tok l i) fun p => bif decide (p.1 = 1) then Sp.namesL r l (up i) [.str p.2.1] else some (.bad p.2.2 61 i)

def Sp.termG (g : Tb) (l : List D) (i v : Int) : Option PR := optK (Sp.tok l i) fun p =>
  bif decide (200 < v) then some (.bad p.2.2 62 i)
  else bif Sp.isS p [92] then Sp.callN (g.names l (up i)) fun ns j => Sp.want l j [46] fun j => Sp.call (g.term l j (up v)) fun t j => some (.ok ⟨2, [], [trD t], ns, p.2.2⟩ j)
  else bif Sp.isS p [60] then Sp.callN (g.names l (up i)) fun ns j => Sp.want l j [62] fun j => Sp.call (g.term l j (up v)) fun t j => some (.ok ⟨3, [], [trD t], ns, p.2.2⟩ j)
  else optK (Sp.binds l i) fun b => bif b
    then optK (Sp.tok l (up i)) fun x => Sp.call (g.term l (up (up (up i))) (up v)) fun a j => Sp.want l j [41] fun j => optK (Sp.tok l j) fun q =>
      bif !decide (Sp.arr q = 0) then Sp.call (g.term l (up j) (up v)) fun t j => some (.ok ⟨Sp.arr q, [], [trD a, trD t], [.str x.2.1], p.2.2⟩ j)
      else g.after l j v ⟨9, [], [trD ⟨1, x.2.1, [], [], x.2.2⟩, trD a], [], p.2.2⟩
    else Sp.call (g.atom l i v) fun t j => g.after l j v t

def Sp.afterG (g : Tb) : Nat → List D → Int → Int → Tr → Option PR
  | 0, _, _, _, _ => none
  | r + 1, l, i, v, t => optK (Sp.tok l i) fun p =>
    bif Sp.isS p [64] then Sp.call (g.dim l (up i) (up v)) fun u j => Sp.afterG g r l j v ⟨7, [], [trD t, trD u], [], t.pl⟩
    else bif decide (p.1 = 1) || Sp.isS p [40] || Sp.isS p [91] then Sp.call (g.atom l i v) fun u j => Sp.afterG g r l j v ⟨6, [], [trD t, trD u], [], t.pl⟩
    else bif !decide (Sp.arr p = 0) then Sp.call (g.term l (up i) (up v)) fun u j => some (.ok ⟨Sp.arr p, [], [trD t, trD u], [], t.pl⟩ j)
    else some (.ok t i)

def Sp.atomG (g : Tb) (l : List D) (i v : Int) : Option PR := optK (Sp.tok l i) fun p =>
  bif decide (p.1 = 1) then some (.ok ⟨1, p.2.1, [], [], p.2.2⟩ (up i))
  else bif Sp.isS p [91] then g.box l i v
  else bif Sp.isS p [40] then Sp.call (g.term l (up i) (up v)) fun t j => optK (Sp.tok l j) fun q =>
    bif Sp.isS q [44] then Sp.call (g.term l (up j) (up v)) fun u j => Sp.want l j [41] fun j => some (.ok ⟨8, [], [trD t, trD u], [], p.2.2⟩ j)
    else bif Sp.isS q [58] then Sp.call (g.term l (up j) (up v)) fun u j => Sp.want l j [41] fun j => some (.ok ⟨9, [], [trD t, trD u], [], p.2.2⟩ j)
    else bif Sp.isS q [41] then some (.ok t (up j)) else some (.bad q.2.2 61 j)
  else some (.bad p.2.2 61 i)

def Sp.comma (kids l : List D) (i : Int) (K : Int → Option PR) : Option PR := bif decide ((0 : Int) < (kids.length : Int)) then Sp.want l i [44] K else K i
def Sp.boxL (g : Tb) : Nat → List D → Int → Int → List D → Int → Option PR
  | 0, _, _, _, _, _ => none
  | r + 1, l, i, v, kids, a => optK (Sp.tok l i) fun p =>
    bif Sp.isS p [93] then some (.ok ⟨10, [], kids, [], a⟩ (up i))
    else Sp.comma kids l i fun j => optK (Sp.tok l j) fun q => Sp.call (g.face l j) fun f j => optK (Sp.tok l j) fun u =>
      bif Sp.isS u [45, 62] then Sp.call (g.term l (up j) (up v)) fun t j => must (Sp.short kids) (Sp.boxL g r l j v (kids ++ [trD ⟨11, [], [trD f, trD t], [], q.2.2⟩]) a)
      else must (Sp.short kids) (Sp.boxL g r l j v (kids ++ [trD ⟨11, [], [trD f], [], q.2.2⟩]) a)
def Sp.boxG (g : Tb) (r : Nat) (l : List D) (i v : Int) : Option PR := optK (Sp.tok l i) fun p => Sp.boxL g r l (up i) v [] p.2.2

def Sp.faceL : Nat → List D → Int → List D → Int → Option PR
  | 0, _, _, _, _ => none
  | r + 1, l, i, kids, a => optK (Sp.tok l i) fun p =>
    bif Sp.isS p [40] then Sp.name l (up i) fun s j => Sp.want l j [61] fun j => optK (Sp.tok l j) fun q =>
      bif Sp.isS q [48] || Sp.isS q [49] then Sp.want l (up j) [41] fun j => must (Sp.short kids) <| optK (Sp.tok l j) fun u =>
        bif Sp.isS u [40] then Sp.faceL r l j (kids ++ [trD ⟨13, s, [], [.str q.2.1], p.2.2⟩]) a
        else some (.ok ⟨12, [], kids ++ [trD ⟨13, s, [], [.str q.2.1], p.2.2⟩], [], a⟩ j)
      else some (.bad q.2.2 61 j)
    else some (.bad p.2.2 61 i)
def Sp.faceG (r : Nat) (l : List D) (i : Int) : Option PR := optK (Sp.tok l i) fun p => bif Sp.isS p [49] then some (.ok ⟨12, [], [], [], p.2.2⟩ (up i)) else Sp.faceL r l i [] p.2.2

def Sp.joinL (g : Tb) : Nat → List D → Int → Int → Tr → Option PR
  | 0, _, _, _, _ => none
  | r + 1, l, i, v, t => optK (Sp.tok l i) fun p => bif Sp.isS p [92, 47] then Sp.call (g.meet l (up i) v) fun u j => Sp.joinL g r l j v ⟨14, [], [trD t, trD u], [], t.pl⟩ else some (.ok t i)
def Sp.joinG (g : Tb) (r : Nat) (l : List D) (i v : Int) : Option PR := Sp.call (g.meet l i v) fun t j => Sp.joinL g r l j v t
def Sp.meetL (g : Tb) : Nat → List D → Int → Int → Tr → Option PR
  | 0, _, _, _, _ => none
  | r + 1, l, i, v, t => optK (Sp.tok l i) fun p => bif Sp.isS p [47, 92] then Sp.call (g.dim l (up i) v) fun u j => Sp.meetL g r l j v ⟨15, [], [trD t, trD u], [], t.pl⟩ else some (.ok t i)
def Sp.meetG (g : Tb) (r : Nat) (l : List D) (i v : Int) : Option PR := Sp.call (g.dim l i v) fun t j => Sp.meetL g r l j v t

def Sp.dimG (g : Tb) (l : List D) (i v : Int) : Option PR := optK (Sp.tok l i) fun p =>
  bif decide (200 < v) then some (.bad p.2.2 62 i)
  else bif decide (p.1 = 1) then some (.ok ⟨1, p.2.1, [], [], p.2.2⟩ (up i))
  else bif Sp.isS p [48] || Sp.isS p [49] then some (.ok ⟨17, p.2.1, [], [], p.2.2⟩ (up i))
  else bif Sp.isS p [126] then Sp.call (g.dim l (up i) (up v)) fun t j => some (.ok ⟨16, [], [trD t], [], p.2.2⟩ j)
  else bif Sp.isS p [40] then Sp.call (g.join l (up i) (up v)) fun t j => Sp.want l j [41] fun j => some (.ok t j)
  else some (.bad p.2.2 61 i)

def Sp.declG (g : Tb) (l : List D) (i : Int) : Option PR := optK (Sp.tok l i) fun p => Sp.name l i fun s j => Sp.want l j [58] fun j => Sp.call (g.term l j 1) fun a j => Sp.want l j [61] fun j => Sp.call (g.term l j 1) fun t j => Sp.want l j [59] fun j => some (.ok ⟨18, s, [trD a, trD t], [], p.2.2⟩ j)

def Sp.tbl : Nat → Tb
  | 0 => ⟨fun _ _ => none, fun _ _ => none, fun _ _ _ => none, fun _ _ _ _ => none, fun _ _ _ => none, fun _ _ _ => none, fun _ _ _ => none, fun _ _ _ => none, fun _ _ _ => none⟩
  | k + 1 => ⟨Sp.namesG k, Sp.faceG k, Sp.termG (Sp.tbl k), Sp.afterG (Sp.tbl k) k, Sp.atomG (Sp.tbl k), Sp.boxG (Sp.tbl k) k, Sp.joinG (Sp.tbl k) k, Sp.meetG (Sp.tbl k) k, Sp.dimG (Sp.tbl k)⟩
def Sp.names (k : Nat) (l : List D) (i : Int) : Option PN := (Sp.tbl k).names l i
def Sp.face (k : Nat) (l : List D) (i : Int) : Option PR := (Sp.tbl k).face l i
def Sp.term (k : Nat) (l : List D) (i v : Int) : Option PR := (Sp.tbl k).term l i v
def Sp.after (k : Nat) (l : List D) (i v : Int) (t : Tr) : Option PR := (Sp.tbl k).after l i v t
def Sp.atom (k : Nat) (l : List D) (i v : Int) : Option PR := (Sp.tbl k).atom l i v
def Sp.box (k : Nat) (l : List D) (i v : Int) : Option PR := (Sp.tbl k).box l i v
def Sp.join (k : Nat) (l : List D) (i v : Int) : Option PR := (Sp.tbl k).join l i v
def Sp.meet (k : Nat) (l : List D) (i v : Int) : Option PR := (Sp.tbl k).meet l i v
def Sp.dim (k : Nat) (l : List D) (i v : Int) : Option PR := (Sp.tbl k).dim l i v
def Sp.decl (k : Nat) (l : List D) (i : Int) : Option PR := Sp.declG (Sp.tbl k) l i

def prGo (o : Option PR) (K : Out → Int → Option R1) : Option R1 := optK o fun p => bif Sp.okQ p then K (.ret (.d (trD (Sp.trOf p)))) (Sp.nxt p) else K (.pan (wrongV (Sp.bAt p) (Sp.bE p))) (Sp.nxt p)
theorem prGo_ok (o : Option PR) (l : List D) (K : Out → St → Option R1) : prGo o (fun o j => K o (rdSt l j)) = optP (prGo o fun o j => some (o, rdSt l j)) K := by
  unfold prGo; simp only [optP_optK, optP_cond, optP_some]
def decT : List V → Option (Int × Tr) | [.d (.int .i64 s), .d (.agg [.int .i64 k, .str n, .sl 5 kids, .sl 1 nms, .int .i64 a])] => some (s, ⟨k, n, kids, nms, a⟩) | _ => none
theorem decT_some {a : List V} {x : Int × Tr} (h : decT a = some x) : a = [.d (.int .i64 x.1), .d (trD x.2)] := by
  unfold decT at h; split at h <;> cases h; rfl
def F49 (n : Nat) : RF := ⟨Unit, dec0, fun l i _ K => optK (Sp.names n l i) fun p => bif Sp.okN p then K (.ret (.d (.sl 1 (Sp.lN p)))) (Sp.nxtN p) else K (.pan (wrongV (Sp.bAtN p) (Sp.bEN p))) (Sp.nxtN p), by intros; simp only [optP_optK, optP_cond, optP_some]⟩
def F25 (n : Nat) : RF := ⟨Int, decI, fun l i v K => prGo (Sp.term n l i v) K, fun l i v K => prGo_ok _ l K⟩
def afG (n : Nat) (l : List D) (i : Int) (K : Out → Int → Option R1) : Int × Tr → Option R1 | (v, t) => prGo (Sp.after n l i v t) K
def F54 (n : Nat) : RF := ⟨Int × Tr, decT, fun l i v K => afG n l i K v, fun l i v K => prGo_ok _ l K⟩
def F56 (n : Nat) : RF := ⟨Int, decI, fun l i v K => prGo (Sp.atom n l i v) K, fun l i v K => prGo_ok _ l K⟩
def F81 (n : Nat) : RF := ⟨Int, decI, fun l i v K => prGo (Sp.box n l i v) K, fun l i v K => prGo_ok _ l K⟩
def F102 (n : Nat) : RF := ⟨Unit, dec0, fun l i _ K => prGo (Sp.face n l i) K, fun l i v K => prGo_ok _ l K⟩
def F101 (n : Nat) : RF := ⟨Int, decI, fun l i v K => prGo (Sp.join n l i v) K, fun l i v K => prGo_ok _ l K⟩
def F110 (n : Nat) : RF := ⟨Int, decI, fun l i v K => prGo (Sp.meet n l i v) K, fun l i v K => prGo_ok _ l K⟩
def F80 (n : Nat) : RF := ⟨Int, decI, fun l i v K => prGo (Sp.dim n l i v) K, fun l i v K => prGo_ok _ l K⟩
def F28 (n : Nat) : RF := ⟨Unit, dec0, fun l i _ K => prGo (Sp.decl n l i) K, fun l i v K => prGo_ok _ l K⟩

/-- `of`: its kids are given over. -/
def dec55 : List V → St → Option (Int × Int × List D × Option Nat)
  | [.d (.int .i64 k), .d (.int .i64 a), .d (.sl 5 l)], [] => some (k, a, l, none)
  | [.d (.int .i64 k), .d (.int .i64 a), .sl 5 l 0], [(0, .tok m)] => some (k, a, l, some m)
  | _, _ => none
def go55 (K : Out → St → Option R1) : Int × Int × List D × Option Nat → Option R1
  | (k, a, l, some m) => K (.ret (.agg [.d (.int .i64 k), .d (.str []), .sl 5 l 0, .d (.sl 1 []), .d (.int .i64 a)])) [(0, .tok m)]
  | (k, a, l, none) => K (.ret (.d (.agg [.int .i64 k, .str [], .sl 5 l, .sl 1 [], .int .i64 a]))) []
def of55 (S : CK R1) : CK R1 where
  S := fun g args σ => bif Nat.beq g 55 then optK (dec55 args σ) fun q => go55 (fun o s => some (o, s)) q else S.S g args σ
  run := fun g args σ K => bif Nat.beq g 55 then optK (dec55 args σ) fun q => go55 K q else S.run g args σ K
  ok := fun g a σ K => by
    show _ = optP _ K
    rw [optP_cond, optP_optK]
    cases Nat.beq g 55
    · exact S.ok g a σ K
    · simp only [cond_true]
      congr 1
      funext q
      obtain ⟨k, p, l, b⟩ := q
      cases b <;> rfl

noncomputable def T4 (n : Nat) : CK R1 := rdr 25 (F25 n) (rdr 54 (F54 n) (rdr 56 (F56 n) (rdr 81 (F81 n) (rdr 102 (F102 n) (rdr 101 (F101 n) (rdr 110 (F110 n) (rdr 80 (F80 n) (rdr 49 (F49 n) (of55 T3)))))))))

end Go.Vai
end

section
namespace Go.Vai
open Go.Proofs

/-- lex.Scan. -/
def Sp.scL (s : List UInt8) : List D := (Sp.scan s).1
def Sp.scA (s : List UInt8) : Int := (Sp.scan s).2.1
def Sp.scE (s : List UInt8) : Int := (Sp.scan s).2.2
def dec13 : List V → St → Option (List UInt8)
  | [.d (.str s)], [(0, .tok 0)] => some s
  | _, _ => none
def go13 (K : Out → St → Option R1) (s : List UInt8) : Option R1 :=
  bif decide (Sp.scE s = 0) then K (.ret (.tup [.sl 3 (Sp.scL s) 0, .d (.int .i64 (Sp.scA s)), .d (.int .i64 0)])) [(0, .tok (Sp.scL s).length)]
  else K (.ret (.tup [.d (.sl 3 []), .d (.int .i64 (Sp.scA s)), .d (.int .i64 (Sp.scE s))])) [(0, .tok 0)]
theorem go13_ok (K : Out → St → Option R1) (s : List UInt8) : go13 K s = optP (go13 (fun o s => some (o, s)) s) K := by
  unfold go13
  rw [optP_cond]
  rfl

/-- A function with state more, by what it decodes and what it goes on with. -/
def more {α : Type} (f : Nat) (dec : List V → St → Option α) (go : (Out → St → Option R1) → α → Option R1) (ok : ∀ K q, go K q = optP (go (fun o s => some (o, s)) q) K) (S : CK R1) : CK R1 where
  S := fun g args σ => bif Nat.beq g f then optK (dec args σ) fun q => go (fun o s => some (o, s)) q else S.S g args σ
  run := fun g args σ K => bif Nat.beq g f then optK (dec args σ) fun q => go K q else S.run g args σ K
  ok := fun g a σ K => by
    show _ = optP _ K
    rw [optP_cond, optP_optK]
    cases Nat.beq g f
    · exact S.ok g a σ K
    · simp only [cond_true]
      congr 1
      funext q
      exact ok K q
theorem more_knows {α : Type} {f : Nat} {dec : List V → St → Option α} {go : (Out → St → Option R1) → α → Option R1} {ok : ∀ K q, go K q = optP (go (fun o s => some (o, s)) q) K} {S : CK R1} (hS : knows cx S.S (evLim cx))
    (hf : ∀ a σ q r, dec a σ = some q → go (fun o s => some (o, s)) q = some r → evLim cx f a σ = some r) : knows cx (more f dec go ok S).S (evLim cx) := by
  intro g args σ r hd h
  simp only [more] at h
  cases hg : Nat.beq g f <;> rw [hg] at h
  · exact hS g args σ r hd h
  · obtain rfl := Nat.eq_of_beq_eq_true hg
    simp only [cond_true] at h
    obtain ⟨q, hq, h⟩ := optK_some h
    exact hf args σ q r hq h

theorem cov_last {s : List UInt8} {e : Nat} {l : List D} (h : Cov s e l) : ∃ I, l = I ++ [tokD 0 [] (s.length : Int)] := by
  induction h with
  | fin _ _ => exact ⟨[], rfl⟩
  | tok _ _ _ _ _ _ ih => obtain ⟨I, rfl⟩ := ih; exact ⟨_ :: I, rfl⟩

theorem scan_ok {s : List UInt8} (h : decide (Sp.scE s = 0) = true) : ∃ I, Sp.scL s = I ++ [tokD 0 [] (s.length : Int)] := by
  simp only [decide_eq_true_eq] at h
  rcases scan_says s with ⟨_, _, l, hl, hc⟩ | ⟨h1, _⟩
  · obtain ⟨I, rfl⟩ := cov_last hc
    exact ⟨I, by unfold Sp.scL; rw [hl]⟩
  · exact absurd h h1

theorem lim13' (a : List V) (σ : St) (s : List UInt8) (r : R1) (hd : dec13 a σ = some s) (h : go13 (fun o s => some (o, s)) s = some r) : evLim cx 13 a σ = some r := by
  unfold dec13 at hd
  split at hd
  · cases hd
    rw [lim7]
    unfold go13 at h
    cases hs : decide (Sp.scE s = 0) <;> rw [hs] at h
    · rw [cond_false] at h
      simp only [decide_eq_false_iff_not] at hs
      rcases scan_says s with ⟨_, _, l, hl, _⟩ | ⟨_, h2, _⟩
      · exact absurd (by unfold Sp.scE; rw [hl]) hs
      · rw [← h]; unfold scanRes; rw [h2]; rfl
    · obtain ⟨I, hI⟩ := scan_ok hs
      have hz : (Sp.scan s).2.2 = 0 := of_decide_eq_true hs
      rw [cond_true] at h
      rw [← h]
      unfold scanRes
      rw [hz]
      unfold Sp.scL Sp.scA
      have e : givL (Sp.scan s).1 = .sl 3 (Sp.scan s).1 0 := by
        have : (Sp.scan s).1 = I ++ [tokD 0 [] (s.length : Int)] := hI
        rw [this]; exact givL_add _ _
      rw [e]
  · cases hd

end Go.Vai
end

section
namespace Go.Vai
open Go.Proofs

open Go.Proofs.YtdgdfglbhndjnaaDoor in
theorem glob_says : globSays cx.P cx.glob Rows.treePlacesRow.laid := by
  intro g x h
  match g, h with
  | 0, h => cases h; exact ⟨"hypercube/lex.signs", Rows.laid_hypercube_lex_signs, by simp [Rows.treePlacesRow], by kernel_rfl, by kernel_rfl⟩
  | 1, h => cases h; exact ⟨"unicode/utf8.first", Rows.laid_unicode_utf8_first, by simp [Rows.treePlacesRow], by kernel_rfl, by kernel_rfl⟩
  | 2, h => cases h; exact ⟨"unicode/utf8.acceptRanges", Rows.laid_unicode_utf8_acceptRanges, by simp [Rows.treePlacesRow], by kernel_rfl, by kernel_rfl⟩
  | n + 3, h => cases h

theorem no_routines : noRoutines cx.P := by
  have h : (cx.P.funcs.all fun fn => fn.name != "runtime.NumGoroutine") = true := by kernel_rfl
  intro f fn hf
  have := Array.all_eq_true_iff_forall_mem.1 h fn (Array.mem_of_getElem? hf)
  simpa using this

theorem mixed : cx.P.follows .mixedOrders = true := by kernel_rfl

def lits : D → Value
  | .int k n => .int k n
  | .str s => .string (strB s)
  | _ => undef

/-- A world for the witness: the settled one, the listed variables holding what the row lists. -/
noncomputable def laidWorld (os : Os) : World :=
  { World.holding Tryd.prog os ⟨#[], #[], []⟩ with heap := ((((World.holding Tryd.prog os ⟨#[], #[], []⟩).heap.modify 0 fun
      | .cells _ t frozen => .cells (signsD.cells.map lits).toArray t frozen
      | o => o).modify 1 fun
      | .cells _ t frozen => .cells ((unW Go.Pinned.utf8First).map lits).toArray t frozen
      | o => o).modify 2 fun
      | .cells _ t frozen => .cells (acc.cells.map lits).toArray t frozen
      | o => o) }

theorem str_rd {w : World} {own : Own} (s : ByteArray) : RD w own (.string s) (.str s.data.toList) := by
  have h := RD.str (w := w) (own := own) s.data.toList
  have e : strB s.data.toList = s := by simp [strB]
  rwa [e] at h
end Go.Vai
end

section
namespace Go.Vai
open Go.Proofs

def moreF : List V → Option Out | [.d (.int .u8 c)] => some (.ret (.tup [.d (.int .i64 (Sp.moreN c)), .d (.int .i64 (Sp.moreL c))])) | _ => none
noncomputable def S15 : Caller := also 109 moreF none1

theorem S15_knows : knows cx S15 (evLim cx) := also_knows (none1_knows cx) fun args o _ h => by
  unfold moreF at h
  split at h
  · cases h; exact lim23 _
  · cases h

theorem b15 (n : Nat) (s : List UInt8) :
    evBody cx S15 n 95 [.d (.str s)] [] =
  LP cx S15 n 95 0 2 n [(0, V.d (D.str s)), (3, V.d (D.int IntKind.i64 (0 : Int)))] []
    (AK cx S15 n 95 0 2 (EK cx 95 0)) := by kernel_rfl

theorem l15 (n k : Nat) (s : List UInt8) (i : Int) :
    LP cx S15 n 95 0 2 (k+1) [(0, .d (.str s)), (3, .d (.int .i64 i))] [] (AK cx S15 n 95 0 2 (EK cx 95 0)) =
  bif decide (i < (↑s.length : Int)) then
    must (decide (0 ≤ i) && decide (i < (↑s.length : Int)))
      (optK s[i.toNat]? fun b =>
        bif decide (Sp.moreN (↑b.toNat : Int) < (0 : Int)) then some (Out.ret (V.d (D.int IntKind.i64 i)), [])
        else
          bif decide ((↑s.length : Int) ≤ IntKind.i64.wrap (i + Sp.moreN (↑b.toNat : Int))) then
            bif decide ((0 : Int) < Sp.moreN (↑b.toNat : Int)) then some (Out.ret (V.d (D.int IntKind.i64 i)), [])
            else
              must (decide (0 ≤ i) && decide (i < (↑s.length : Int)))
                (optK s[i.toNat]? fun b_1 =>
                  must (decide (0 ≤ Sp.moreN (↑b.toNat : Int)) && decide (Sp.moreN (↑b.toNat : Int) < (↑4 : Int)))
                    (bif (0 + (Sp.moreN (↑b.toNat : Int)).toNat * cx.P.cellsOf 3).beq 0 && false then none
                    else
                      nthV
                        (V.d
                            (D.agg
                              [D.int IntKind.i64 (128 : Int), D.int IntKind.i64 (32 : Int),
                                D.int IntKind.i64 (16 : Int), D.int IntKind.i64 (8 : Int)])).cells
                        (0 + (Sp.moreN (↑b.toNat : Int)).toNat * cx.P.cellsOf 3) fun c =>
                        match c with
                        | V.d x =>
                          match x with
                          | D.int k' n_1 =>
                            bif decide (k' = IntKind.i64) then
                              must (!decide (n_1 = 0))
                                (LP cx S15 n 95 0 9 n
                                  [(0, V.d (D.str s)), (3, V.d (D.int IntKind.i64 i)),
                                    (4, V.d (D.int IntKind.i64 (Sp.moreN (↑b.toNat : Int)))),
                                    (5, V.d (D.int IntKind.i64 (Sp.moreL (↑b.toNat : Int)))),
                                    (7, V.d (D.int IntKind.i64 ((IntKind.i64.wrap (↑b_1.toNat : Int)).tmod n_1))),
                                    (8, V.d (D.int IntKind.i64 (1 : Int)))]
                                  [] (AL cx S15 n 95 0 2 9 (inK cx S15 n 95 0 2 k (AK cx S15 n 95 0 2 (EK cx 95 0)))))
                            else none
                          | x => none
                        | v =>
                          must
                            (decide (v.aggV = aggTy cx.P 3) &&
                              !match v with
                                | V.tup l => true
                                | x => false)
                            (match V.d (D.int IntKind.i64 (IntKind.i64.wrap (↑b_1.toNat : Int))), v with
                            | V.d (D.int k_1 a), V.d (D.int k' b_2) =>
                              bif decide (k_1 = k') then
                                must (!decide (b_2 = 0))
                                  (LP cx S15 n 95 0 9 n
                                    [(0, V.d (D.str s)), (3, V.d (D.int IntKind.i64 i)),
                                      (4, V.d (D.int IntKind.i64 (Sp.moreN (↑b.toNat : Int)))),
                                      (5, V.d (D.int IntKind.i64 (Sp.moreL (↑b.toNat : Int)))),
                                      (7, V.d (D.int k_1 (a.tmod b_2))), (8, V.d (D.int IntKind.i64 (1 : Int)))]
                                    [] (AL cx S15 n 95 0 2 9 (inK cx S15 n 95 0 2 k (AK cx S15 n 95 0 2 (EK cx 95 0)))))
                              else none
                            | V.d (D.str a), V.d (D.str b) => none
                            | V.d (D.bool a), V.d (D.bool b) => none
                            | V.d (D.iface t x), V.d D.nilIface => none
                            | V.iface t v, V.d D.nilIface => none
                            | V.d D.nilIface, V.d D.nilIface => none
                            | V.ptr id off, V.d D.nilptr => none
                            | V.d D.nilptr, V.d D.nilptr => none
                            | x, x_1 => none)))
          else
            must (decide (0 ≤ i) && decide (i < (↑s.length : Int)))
              (optK s[i.toNat]? fun b_1 =>
                must (decide (0 ≤ Sp.moreN (↑b.toNat : Int)) && decide (Sp.moreN (↑b.toNat : Int) < (↑4 : Int)))
                  (bif (0 + (Sp.moreN (↑b.toNat : Int)).toNat * cx.P.cellsOf 3).beq 0 && false then none
                  else
                    nthV
                      (V.d
                          (D.agg
                            [D.int IntKind.i64 (128 : Int), D.int IntKind.i64 (32 : Int),
                              D.int IntKind.i64 (16 : Int), D.int IntKind.i64 (8 : Int)])).cells
                      (0 + (Sp.moreN (↑b.toNat : Int)).toNat * cx.P.cellsOf 3) fun c =>
                      match c with
                      | V.d x =>
                        match x with
                        | D.int k' n_1 =>
                          bif decide (k' = IntKind.i64) then
                            must (!decide (n_1 = 0))
                              (LP cx S15 n 95 0 9 n
                                [(0, V.d (D.str s)), (3, V.d (D.int IntKind.i64 i)),
                                  (4, V.d (D.int IntKind.i64 (Sp.moreN (↑b.toNat : Int)))),
                                  (5, V.d (D.int IntKind.i64 (Sp.moreL (↑b.toNat : Int)))),
                                  (7, V.d (D.int IntKind.i64 ((IntKind.i64.wrap (↑b_1.toNat : Int)).tmod n_1))),
                                  (8, V.d (D.int IntKind.i64 (1 : Int)))]
                                [] (AL cx S15 n 95 0 2 9 (inK cx S15 n 95 0 2 k (AK cx S15 n 95 0 2 (EK cx 95 0)))))
                          else none
                        | x => none
                      | v =>
                        must
                          (decide (v.aggV = aggTy cx.P 3) &&
                            !match v with
                              | V.tup l => true
                              | x => false)
                          (match V.d (D.int IntKind.i64 (IntKind.i64.wrap (↑b_1.toNat : Int))), v with
                          | V.d (D.int k_1 a), V.d (D.int k' b_2) =>
                            bif decide (k_1 = k') then
                              must (!decide (b_2 = 0))
                                (LP cx S15 n 95 0 9 n
                                  [(0, V.d (D.str s)), (3, V.d (D.int IntKind.i64 i)),
                                    (4, V.d (D.int IntKind.i64 (Sp.moreN (↑b.toNat : Int)))),
                                    (5, V.d (D.int IntKind.i64 (Sp.moreL (↑b.toNat : Int)))),
                                    (7, V.d (D.int k_1 (a.tmod b_2))), (8, V.d (D.int IntKind.i64 (1 : Int)))]
                                  [] (AL cx S15 n 95 0 2 9 (inK cx S15 n 95 0 2 k (AK cx S15 n 95 0 2 (EK cx 95 0)))))
                            else none
                          | V.d (D.str a), V.d (D.str b) => none
                          | V.d (D.bool a), V.d (D.bool b) => none
                          | V.d (D.iface t x), V.d D.nilIface => none
                          | V.iface t v, V.d D.nilIface => none
                          | V.d D.nilIface, V.d D.nilIface => none
                          | V.ptr id off, V.d D.nilptr => none
                          | V.d D.nilptr, V.d D.nilptr => none
                          | x, x_1 => none))))
  else some (Out.ret (V.d (D.int IntKind.i64 (Int.negSucc 0))), []) := by kernel_rfl

theorem l15i (n k k' : Nat) (s : List UInt8) (i m low q p : Int) :
    LP cx S15 n 95 0 9 (k+1) [(0, .d (.str s)), (3, .d (.int .i64 i)), (4, .d (.int .i64 m)), (5, .d (.int .i64 low)), (7, .d (.int .i64 q)), (8, .d (.int .i64 p))] [] (AL cx S15 n 95 0 2 9 (inK cx S15 n 95 0 2 k' (AK cx S15 n 95 0 2 (EK cx 95 0)))) =
  bif decide (p ≤ m) then
    must (decide (0 ≤ IntKind.i64.wrap (i + p)) && decide (IntKind.i64.wrap (i + p) < (↑s.length : Int)))
      (optK s[(IntKind.i64.wrap (i + p)).toNat]? fun b =>
        bif decide (IntKind.i64.wrap (↑b.toNat : Int) < (128 : Int)) then
          some (Out.ret (V.d (D.int IntKind.i64 i)), [])
        else
          bif decide ((191 : Int) < IntKind.i64.wrap (↑b.toNat : Int)) then
            some (Out.ret (V.d (D.int IntKind.i64 i)), [])
          else
            LP cx S15 n 95 0 9 k
              [(0, V.d (D.str s)), (3, V.d (D.int IntKind.i64 i)), (4, V.d (D.int IntKind.i64 m)),
                (5, V.d (D.int IntKind.i64 low)),
                (7,
                  V.d
                    (D.int IntKind.i64
                      (IntKind.i64.wrap
                        (IntKind.i64.wrap (IntKind.i64.wrap (q * (64 : Int)) + IntKind.i64.wrap (↑b.toNat : Int)) -
                          (128 : Int))))),
                (8, V.d (D.int IntKind.i64 (IntKind.i64.wrap (p + (1 : Int)))))]
              [] (AL cx S15 n 95 0 2 9 (inK cx S15 n 95 0 2 k' (AK cx S15 n 95 0 2 (EK cx 95 0)))))
  else
    bif decide (q < low) then some (Out.ret (V.d (D.int IntKind.i64 i)), [])
    else
      bif decide ((1114111 : Int) < q) then some (Out.ret (V.d (D.int IntKind.i64 i)), [])
      else
        bif decide ((55296 : Int) ≤ q) then
          bif decide (q ≤ (57343 : Int)) then some (Out.ret (V.d (D.int IntKind.i64 i)), [])
          else
            LP cx S15 n 95 0 2 k'
              [(0, V.d (D.str s)),
                (3, V.d (D.int IntKind.i64 (IntKind.i64.wrap (IntKind.i64.wrap (i + m) + (1 : Int)))))]
              [] (AK cx S15 n 95 0 2 (EK cx 95 0))
        else
          LP cx S15 n 95 0 2 k'
            [(0, V.d (D.str s)),
              (3, V.d (D.int IntKind.i64 (IntKind.i64.wrap (IntKind.i64.wrap (i + m) + (1 : Int)))))]
            [] (AK cx S15 n 95 0 2 (EK cx 95 0)) := by kernel_rfl

theorem wrapN {x : Int} (h0 : -4611686018427387904 ≤ x) (h1 : x ≤ 4711686018427387904) : IntKind.i64.wrap x = x := IntWalk.i64_in _ (by omega)

theorem byteLt (b : UInt8) : b.toNat < 256 := b.toNat_lt

/-- The frame of the loop over what follows in a scalar value. -/
abbrev frI (s : List UInt8) (i m low q p : Int) : Fr := [(0, .d (.str s)), (3, .d (.int .i64 i)), (4, .d (.int .i64 m)), (5, .d (.int .i64 low)), (7, .d (.int .i64 q)), (8, .d (.int .i64 p))]

theorem inner_at {s : List UInt8} (hs : s.length ≤ 4611686018427387904) {n k k' j p : Nat} {m low q : Int} {c : UInt8} (hp : (p : Int) ≤ m) (hm : m ≤ 3) (hg : s[j + p]? = some c) (hq : 0 ≤ q) (hq2 : q ≤ 100000000) :
    LP cx S15 n 95 0 9 (k+1) (frI s j m low q p) [] (AL cx S15 n 95 0 2 9 (inK cx S15 n 95 0 2 k' (AK cx S15 n 95 0 2 (EK cx 95 0)))) =
    bif Sp.cont c then LP cx S15 n 95 0 9 k (frI s j m low (q * 64 + c.toNat - 128) ((p + 1 : Nat) : Int)) [] (AL cx S15 n 95 0 2 9 (inK cx S15 n 95 0 2 k' (AK cx S15 n 95 0 2 (EK cx 95 0))))
    else some (.ret (.d (.int .i64 (j : Int))), []) := by
  have hlt : j + p < s.length := (List.getElem?_eq_some_iff.1 hg).1
  have hc := byteLt c
  rw [l15i]
  have w1 : IntKind.i64.wrap ((j : Int) + (p : Int)) = ((j + p : Nat) : Int) := by rw [wrapN (by omega) (by omega)]; omega
  have w2 : IntKind.i64.wrap (c.toNat : Int) = c.toNat := wrapN (by omega) (by omega)
  have w3 : IntKind.i64.wrap (q * 64) = q * 64 := wrapN (by omega) (by omega)
  have w4 : IntKind.i64.wrap (q * 64 + (c.toNat : Int)) = q * 64 + c.toNat := wrapN (by omega) (by omega)
  have w5 : IntKind.i64.wrap (q * 64 + (c.toNat : Int) - 128) = q * 64 + c.toNat - 128 := wrapN (by omega) (by omega)
  have w6 : IntKind.i64.wrap ((p : Int) + 1) = ((p + 1 : Nat) : Int) := by rw [wrapN (by omega) (by omega)]; omega
  simp only [w1, w2, w3, w4, w5, w6, decide_eq_true hp, decide_eq_true (p := (0 : Int) ≤ ((j + p : Nat) : Int)) (by omega), decide_eq_true (p := ((j + p : Nat) : Int) < (s.length : Int)) (by omega), Bool.and_self, must, cond_true, Int.toNat_natCast, hg, optK]
  unfold Sp.cont
  by_cases h1 : (c.toNat : Int) < 128
  · rw [decide_eq_true h1, decide_eq_false (p := 128 ≤ c.toNat) (by omega)]; rfl
  · rw [decide_eq_false h1, decide_eq_true (p := 128 ≤ c.toNat) (by omega)]
    by_cases h2 : (191 : Int) < (c.toNat : Int)
    · rw [decide_eq_true h2, decide_eq_false (p := c.toNat ≤ 191) (by omega)]; rfl
    · rw [decide_eq_false h2, decide_eq_true (p := c.toNat ≤ 191) (by omega)]; rfl

end Go.Vai
end

section
namespace Go.Vai
open Go.Proofs

abbrev heads : D := .agg [.int .i64 128, .int .i64 32, .int .i64 16, .int .i64 8]

theorem head0 {R : Type} (F : V → Option R) : nthV (V.d heads).cells (0 + (0 : Int).toNat * cx.P.cellsOf 3) F = F (.d (.int .i64 128)) := by kernel_rfl
theorem head1 {R : Type} (F : V → Option R) : nthV (V.d heads).cells (0 + (1 : Int).toNat * cx.P.cellsOf 3) F = F (.d (.int .i64 32)) := by kernel_rfl
theorem head2 {R : Type} (F : V → Option R) : nthV (V.d heads).cells (0 + (2 : Int).toNat * cx.P.cellsOf 3) F = F (.d (.int .i64 16)) := by kernel_rfl
theorem head3 {R : Type} (F : V → Option R) : nthV (V.d heads).cells (0 + (3 : Int).toNat * cx.P.cellsOf 3) F = F (.d (.int .i64 8)) := by kernel_rfl

/-- No scalar value begins so, or too little follows. -/
theorem outer_bad {s : List UInt8} (hs : s.length ≤ 4611686018427387904) {n k j : Nat} {b : UInt8} (hg : s[j]? = some b) (h : Sp.moreN b.toNat < 0 ∨ (0 < Sp.moreN b.toNat ∧ Sp.moreN b.toNat ≤ 3 ∧ (s.length : Int) ≤ j + Sp.moreN b.toNat)) :
    LP cx S15 n 95 0 2 (k+1) [(0, .d (.str s)), (3, .d (.int .i64 (j : Int)))] [] (AK cx S15 n 95 0 2 (EK cx 95 0)) = some (.ret (.d (.int .i64 (j : Int))), []) := by
  have hlt : j < s.length := (List.getElem?_eq_some_iff.1 hg).1
  rw [l15]
  simp only [decide_eq_true (p := (j : Int) < (s.length : Int)) (by omega), decide_eq_true (p := (0 : Int) ≤ (j : Int)) (by omega), Bool.and_self, must, cond_true, Int.toNat_natCast, hg, optK]
  rcases h with h | ⟨h1, h2, h3⟩
  · rw [decide_eq_true h]; rfl
  · rw [decide_eq_false (p := Sp.moreN b.toNat < 0) (by omega), wrapN (x := (j : Int) + Sp.moreN b.toNat) (by omega) (by omega), decide_eq_true h3, decide_eq_true h1]; rfl

theorem outer_in {s : List UInt8} (hs : s.length ≤ 4611686018427387904) {n k j : Nat} {b : UInt8} {m : Int} (hg : s[j]? = some b) (hm : Sp.moreN b.toNat = m) (h0 : 0 ≤ m) (h3 : m ≤ 3) (hle : (j : Int) + m < s.length) :
    LP cx S15 n 95 0 2 (k+1) [(0, .d (.str s)), (3, .d (.int .i64 (j : Int)))] [] (AK cx S15 n 95 0 2 (EK cx 95 0)) =
    LP cx S15 n 95 0 9 n (frI s j m (Sp.moreL b.toNat) ((b.toNat : Int) % (if m = 0 then 128 else if m = 1 then 32 else if m = 2 then 16 else 8)) 1) [] (AL cx S15 n 95 0 2 9 (inK cx S15 n 95 0 2 k (AK cx S15 n 95 0 2 (EK cx 95 0)))) := by
  have hlt : j < s.length := (List.getElem?_eq_some_iff.1 hg).1
  have hb := byteLt b
  have wb : IntKind.i64.wrap (b.toNat : Int) = b.toNat := wrapN (by omega) (by omega)
  rw [l15]
  simp only [decide_eq_true (p := (j : Int) < (s.length : Int)) (by omega), decide_eq_true (p := (0 : Int) ≤ (j : Int)) (by omega), Bool.and_self, must, cond_true, Int.toNat_natCast, hg, optK, hm,
    decide_eq_false (p := m < 0) (by omega), cond_false, wrapN (x := (j : Int) + m) (by omega) (by omega), decide_eq_false (p := (s.length : Int) ≤ (j : Int) + m) (by omega), decide_eq_true h0,
    decide_eq_true (p := m < ((4 : Nat) : Int)) (by omega), Bool.and_false, wb]
  have hk : ∀ d : Int, 0 < d → (b.toNat : Int).tmod d = (b.toNat : Int) % d := fun d _ => Int.tmod_eq_emod_of_nonneg (by omega)
  obtain rfl | rfl | rfl | rfl : m = 0 ∨ m = 1 ∨ m = 2 ∨ m = 3 := by omega
  · rw [head0]; simp [hk]
  · rw [head1]; simp [hk]
  · rw [head2]; simp [hk]
  · rw [head3]; simp [hk]

end Go.Vai
end

section
namespace Go.Vai
open Go.Proofs

abbrev frO (s : List UInt8) (i : Int) : Fr := [(0, .d (.str s)), (3, .d (.int .i64 i))]

theorem inner_end {s : List UInt8} (hs : s.length ≤ 4611686018427387904) {n k k' j : Nat} {m low q p : Int} (hj : j ≤ s.length) (h0 : 0 ≤ m) (h3 : m ≤ 3) (hp : m < p) :
    LP cx S15 n 95 0 9 (k+1) (frI s j m low q p) [] (AL cx S15 n 95 0 2 9 (inK cx S15 n 95 0 2 k' (AK cx S15 n 95 0 2 (EK cx 95 0)))) =
    bif decide (low ≤ q) && decide (q ≤ 1114111) && !(decide (55296 ≤ q) && decide (q ≤ 57343)) then LP cx S15 n 95 0 2 k' (frO s ((j : Int) + m + 1)) [] (AK cx S15 n 95 0 2 (EK cx 95 0))
    else some (.ret (.d (.int .i64 (j : Int))), []) := by
  rw [l15i]
  rw [decide_eq_false (p := p ≤ m) (by omega), cond_false, wrapN (x := (j : Int) + m) (by omega) (by omega), wrapN (x := (j : Int) + m + 1) (by omega) (by omega)]
  by_cases h1 : q < low
  · rw [decide_eq_true h1, decide_eq_false (p := low ≤ q) (by omega)]; rfl
  · rw [decide_eq_false h1, decide_eq_true (p := low ≤ q) (by omega), cond_false]
    by_cases h2 : 1114111 < q
    · rw [decide_eq_true h2, decide_eq_false (p := q ≤ 1114111) (by omega)]; rfl
    · rw [decide_eq_false h2, decide_eq_true (p := q ≤ 1114111) (by omega), cond_false]
      cases decide ((55296 : Int) ≤ q) <;> cases decide (q ≤ (57343 : Int)) <;> rfl

theorem moreN_of {b : UInt8} : Sp.moreN b.toNat = if b.toNat < 128 then 0 else if 194 ≤ b.toNat ∧ b.toNat ≤ 223 then 1 else if 224 ≤ b.toNat ∧ b.toNat ≤ 239 then 2 else if 240 ≤ b.toNat ∧ b.toNat ≤ 244 then 3 else -1 := by
  unfold Sp.moreN
  by_cases h1 : b.toNat < 128
  · rw [decide_eq_true (p := (b.toNat : Int) < 128) (by omega), if_pos h1]; rfl
  · rw [decide_eq_false (p := (b.toNat : Int) < 128) (by omega), if_neg h1, cond_false]
    simp only [Bool.cond_eq_ite, Bool.and_eq_true, decide_eq_true_eq]
    congr 1
    · exact propext ⟨fun h => by omega, fun h => by omega⟩
    · congr 1
      · exact propext ⟨fun h => by omega, fun h => by omega⟩
      · congr 1
        exact propext ⟨fun h => by omega, fun h => by omega⟩

theorem moreL_of {b : UInt8} : Sp.moreL b.toNat = if b.toNat < 128 then 0 else if 194 ≤ b.toNat ∧ b.toNat ≤ 223 then 128 else if 224 ≤ b.toNat ∧ b.toNat ≤ 239 then 2048 else if 240 ≤ b.toNat ∧ b.toNat ≤ 244 then 65536 else 0 := by
  unfold Sp.moreL
  by_cases h1 : b.toNat < 128
  · rw [decide_eq_true (p := (b.toNat : Int) < 128) (by omega), if_pos h1]; rfl
  · rw [decide_eq_false (p := (b.toNat : Int) < 128) (by omega), if_neg h1, cond_false]
    simp only [Bool.cond_eq_ite, Bool.and_eq_true, decide_eq_true_eq]
    congr 1
    · exact propext ⟨fun h => by omega, fun h => by omega⟩
    · congr 1
      · exact propext ⟨fun h => by omega, fun h => by omega⟩
      · congr 1
        exact propext ⟨fun h => by omega, fun h => by omega⟩

theorem drop_at {s : List UInt8} {j i : Nat} {l : List UInt8} (h : s.drop j = l) : s[j + i]? = l[i]? := by
  rw [← h, List.getElem?_drop]

theorem inner_lit {s : List UInt8} (hs : s.length ≤ 4611686018427387904) {n k k' j : Nat} {m low q P P' : Int} {c : UInt8} (p : Nat) (hP : P = p) (hP' : P' = P + 1) (hp : P ≤ m) (hm : m ≤ 3) (hg : s[j + p]? = some c) (hq : 0 ≤ q) (hq2 : q ≤ 100000000) :
    LP cx S15 n 95 0 9 (k+1) (frI s j m low q P) [] (AL cx S15 n 95 0 2 9 (inK cx S15 n 95 0 2 k' (AK cx S15 n 95 0 2 (EK cx 95 0)))) =
    bif Sp.cont c then LP cx S15 n 95 0 9 k (frI s j m low (q * 64 + c.toNat - 128) P') [] (AL cx S15 n 95 0 2 9 (inK cx S15 n 95 0 2 k' (AK cx S15 n 95 0 2 (EK cx 95 0))))
    else some (.ret (.d (.int .i64 (j : Int))), []) := by
  subst hP'
  subst hP
  rw [inner_at hs hp hm hg hq hq2]
  rfl

theorem first_cont {b c : UInt8} (_ : True) (hc : Sp.cont c = false) : (decide ((bif decide (b.toNat = 224) then 160 else 128) ≤ c.toNat) && decide (c.toNat ≤ (bif decide (b.toNat = 237) then 159 else 191))) = false := by
  have hc' : ¬ (128 ≤ c.toNat ∧ c.toNat ≤ 191) := by
    intro h; rw [Sp.cont, decide_eq_true h.1, decide_eq_true h.2] at hc; cases hc
  rw [Bool.eq_false_iff]
  intro hh
  simp only [Bool.and_eq_true, decide_eq_true_eq, Bool.cond_eq_ite] at hh
  apply hc'
  split at hh <;> split at hh <;> omega

theorem first_cont4 {b c : UInt8} (_ : True) (hc : Sp.cont c = false) : (decide ((bif decide (b.toNat = 240) then 144 else 128) ≤ c.toNat) && decide (c.toNat ≤ (bif decide (b.toNat = 244) then 143 else 191))) = false := by
  have hc' : ¬ (128 ≤ c.toNat ∧ c.toNat ≤ 191) := by
    intro h; rw [Sp.cont, decide_eq_true h.1, decide_eq_true h.2] at hc; cases hc
  rw [Bool.eq_false_iff]
  intro hh
  simp only [Bool.and_eq_true, decide_eq_true_eq, Bool.cond_eq_ite] at hh
  apply hc'
  split at hh <;> split at hh <;> omega

theorem cond3 {b c d : UInt8} (hb : 224 ≤ b.toNat ∧ b.toNat ≤ 239) (hc : 128 ≤ c.toNat ∧ c.toNat ≤ 191) (hd : 128 ≤ d.toNat ∧ d.toNat ≤ 191) :
    (decide (2048 ≤ ((b.toNat : Int) % 16 * 64 + c.toNat - 128) * 64 + d.toNat - 128) && decide (((b.toNat : Int) % 16 * 64 + c.toNat - 128) * 64 + d.toNat - 128 ≤ 1114111) && !(decide (55296 ≤ ((b.toNat : Int) % 16 * 64 + c.toNat - 128) * 64 + d.toNat - 128) && decide (((b.toNat : Int) % 16 * 64 + c.toNat - 128) * 64 + d.toNat - 128 ≤ 57343))) =
    (decide ((bif decide (b.toNat = 224) then 160 else 128) ≤ c.toNat) && decide (c.toNat ≤ (bif decide (b.toNat = 237) then 159 else 191))) := by
  rw [Bool.eq_iff_iff]
  simp only [Bool.and_eq_true, decide_eq_true_eq, Bool.cond_eq_ite, Bool.not_eq_true', Bool.and_eq_false_iff, decide_eq_false_iff_not]
  split <;> split <;> constructor <;> intro h <;> omega

theorem cond4 {b c d e : UInt8} (hb : 240 ≤ b.toNat ∧ b.toNat ≤ 244) (hc : 128 ≤ c.toNat ∧ c.toNat ≤ 191) (hd : 128 ≤ d.toNat ∧ d.toNat ≤ 191) (he : 128 ≤ e.toNat ∧ e.toNat ≤ 191) :
    (decide (65536 ≤ (((b.toNat : Int) % 8 * 64 + c.toNat - 128) * 64 + d.toNat - 128) * 64 + e.toNat - 128) && decide ((((b.toNat : Int) % 8 * 64 + c.toNat - 128) * 64 + d.toNat - 128) * 64 + e.toNat - 128 ≤ 1114111) && !(decide (55296 ≤ (((b.toNat : Int) % 8 * 64 + c.toNat - 128) * 64 + d.toNat - 128) * 64 + e.toNat - 128) && decide ((((b.toNat : Int) % 8 * 64 + c.toNat - 128) * 64 + d.toNat - 128) * 64 + e.toNat - 128 ≤ 57343))) =
    (decide ((bif decide (b.toNat = 240) then 144 else 128) ≤ c.toNat) && decide (c.toNat ≤ (bif decide (b.toNat = 244) then 143 else 191))) := by
  rw [Bool.eq_iff_iff]
  simp only [Bool.and_eq_true, decide_eq_true_eq, Bool.cond_eq_ite, Bool.not_eq_true', Bool.and_eq_false_iff, decide_eq_false_iff_not]
  split <;> split <;> constructor <;> intro h <;> omega

/-- One scalar value. -/
theorem utf_step {s : List UInt8} (hs : s.length ≤ 4611686018427387904) {n k j : Nat} (hn : 5 ≤ n) {b : UInt8} {r : List UInt8} (hd : s.drop j = b :: r) :
    LP cx S15 n 95 0 2 (k+1) (frO s (j : Int)) [] (AK cx S15 n 95 0 2 (EK cx 95 0)) =
    bif Nat.beq (Sp.uni (b :: r)) 0 then some (.ret (.d (.int .i64 (j : Int))), []) else LP cx S15 n 95 0 2 k (frO s ((j + Sp.uni (b :: r) : Nat) : Int)) [] (AK cx S15 n 95 0 2 (EK cx 95 0)) := by
  obtain ⟨h1, hg, _⟩ := drop_cons hd
  have hb := byteLt b
  have hlen : (b :: r).length = s.length - j := by rw [← hd]; simp
  obtain ⟨n, rfl⟩ : ∃ i, n = i + 5 := ⟨n - 5, by omega⟩
  by_cases c0 : b.toNat < 128
  · have hN : Sp.moreN b.toNat = 0 := by rw [moreN_of, if_pos c0]
    have hL : Sp.moreL b.toNat = 0 := by rw [moreL_of, if_pos c0]
    have hu : Sp.uni (b :: r) = 1 := by simp only [Sp.uni, decide_eq_true c0, cond_true]
    rw [outer_in hs hg hN (by omega) (by omega) (by omega), hL, inner_end hs (by omega) (by omega) (by omega) (by omega), hu]
    simp only [if_true]
    rw [decide_eq_true (p := (0 : Int) ≤ (b.toNat : Int) % 128) (by omega), decide_eq_true (p := (b.toNat : Int) % 128 ≤ 1114111) (by omega), decide_eq_false (p := 55296 ≤ (b.toNat : Int) % 128) (by omega)]
    simp
    rfl
  · by_cases c1 : 194 ≤ b.toNat ∧ b.toNat ≤ 223
    · have hN : Sp.moreN b.toNat = 1 := by rw [moreN_of, if_neg c0, if_pos c1]
      have hL : Sp.moreL b.toNat = 128 := by rw [moreL_of, if_neg c0, if_pos c1]
      cases r with
      | nil =>
        have hu : Sp.uni [b] = 0 := by simp only [Sp.uni, decide_eq_false c0, decide_eq_true c1.1, decide_eq_true c1.2, cond_false, cond_true, Bool.and_self]
        rw [outer_bad hs hg (.inr ⟨by omega, by omega, by simp at hlen; omega⟩), hu]; rfl
      | cons c r =>
        have hu : Sp.uni (b :: c :: r) = bif Sp.cont c then 2 else 0 := by simp only [Sp.uni, decide_eq_false c0, decide_eq_true c1.1, decide_eq_true c1.2, cond_false, cond_true, Bool.and_self]
        have hc := byteLt c
        rw [outer_in hs hg hN (by omega) (by omega) (by simp at hlen; omega), hL, hu]
        simp only [if_true, show ¬ (1 : Int) = 0 by omega, if_false]
        rw [inner_lit (P := 1) (P' := 2) hs 1 rfl rfl (by omega) (by omega) ((drop_at hd).trans rfl) (by omega) (by omega)]
        cases hcc : Sp.cont c
        · rfl
        · simp only [Sp.cont, Bool.and_eq_true, decide_eq_true_eq] at hcc
          rw [cond_true, inner_end hs (by omega) (by omega) (by omega) (by omega)]
          rw [decide_eq_true (p := (128 : Int) ≤ (b.toNat : Int) % 32 * 64 + c.toNat - 128) (by omega), decide_eq_true (p := (b.toNat : Int) % 32 * 64 + c.toNat - 128 ≤ 1114111) (by omega),
            decide_eq_false (p := 55296 ≤ (b.toNat : Int) % 32 * 64 + c.toNat - 128) (by omega), show (j : Int) + 1 + 1 = ((j + 2 : Nat) : Int) by omega]
          rfl
    · by_cases c2 : 224 ≤ b.toNat ∧ b.toNat ≤ 239
      · have hN : Sp.moreN b.toNat = 2 := by rw [moreN_of, if_neg c0, if_neg c1, if_pos c2]
        have hL : Sp.moreL b.toNat = 2048 := by rw [moreL_of, if_neg c0, if_neg c1, if_pos c2]
        have f1 : (decide (194 ≤ b.toNat) && decide (b.toNat ≤ 223)) = false := by rw [decide_eq_false (p := b.toNat ≤ 223) (by omega), Bool.and_false]
        match r, hd, hlen with
        | [], hd, hlen =>
          have hu : Sp.uni [b] = 0 := by simp only [Sp.uni, decide_eq_false c0, f1, decide_eq_true c2.1, decide_eq_true c2.2, cond_false, cond_true, Bool.and_self]
          rw [outer_bad hs hg (.inr ⟨by omega, by omega, by simp at hlen; omega⟩), hu]; rfl
        | [c], hd, hlen =>
          have hu : Sp.uni [b, c] = 0 := by simp only [Sp.uni, decide_eq_false c0, f1, decide_eq_true c2.1, decide_eq_true c2.2, cond_false, cond_true, Bool.and_self]
          rw [outer_bad hs hg (.inr ⟨by omega, by omega, by simp at hlen; omega⟩), hu]; rfl
        | c :: d :: r, hd, hlen =>
          have hu : Sp.uni (b :: c :: d :: r) = bif decide ((bif decide (b.toNat = 224) then 160 else 128) ≤ c.toNat) && decide (c.toNat ≤ (bif decide (b.toNat = 237) then 159 else 191)) && Sp.cont d then 3 else 0 := by
            simp only [Sp.uni, decide_eq_false c0, f1, decide_eq_true c2.1, decide_eq_true c2.2, cond_false, cond_true, Bool.and_self]
          have hc := byteLt c
          have hdd := byteLt d
          rw [outer_in hs hg hN (by omega) (by omega) (by simp at hlen; omega), hL, hu]
          simp only [if_true, show ¬ (2 : Int) = 0 by omega, show ¬ (2 : Int) = 1 by omega, if_false]
          rw [inner_lit (P := 1) (P' := 2) hs 1 rfl rfl (by omega) (by omega) ((drop_at hd).trans rfl) (by omega) (by omega)]
          cases hcc : Sp.cont c
          · rw [cond_false, first_cont trivial hcc]; rfl
          · rw [cond_true]
            have hcc' := hcc
            simp only [Sp.cont, Bool.and_eq_true, decide_eq_true_eq] at hcc'
            rw [inner_lit (P := 2) (P' := 3) hs 2 rfl rfl (by omega) (by omega) ((drop_at hd).trans rfl) (by omega) (by omega)]
            cases hcd : Sp.cont d
            · rw [Bool.and_false]; rfl
            · have hcd' := hcd
              simp only [Sp.cont, Bool.and_eq_true, decide_eq_true_eq] at hcd'
              rw [cond_true, inner_end hs (by omega) (by omega) (by omega) (by omega), cond3 c2 hcc' hcd', Bool.and_true, show (j : Int) + 2 + 1 = ((j + 3 : Nat) : Int) by omega]
              cases (decide ((bif decide (b.toNat = 224) then 160 else 128) ≤ c.toNat) && decide (c.toNat ≤ (bif decide (b.toNat = 237) then 159 else 191))) <;> rfl
      · by_cases c3 : 240 ≤ b.toNat ∧ b.toNat ≤ 244
        · have hN : Sp.moreN b.toNat = 3 := by rw [moreN_of, if_neg c0, if_neg c1, if_neg c2, if_pos c3]
          have hL : Sp.moreL b.toNat = 65536 := by rw [moreL_of, if_neg c0, if_neg c1, if_neg c2, if_pos c3]
          have f1 : (decide (194 ≤ b.toNat) && decide (b.toNat ≤ 223)) = false := by rw [decide_eq_false (p := b.toNat ≤ 223) (by omega), Bool.and_false]
          have f2 : (decide (224 ≤ b.toNat) && decide (b.toNat ≤ 239)) = false := by rw [decide_eq_false (p := b.toNat ≤ 239) (by omega), Bool.and_false]
          match r, hd, hlen with
          | [], hd, hlen =>
            have hu : Sp.uni [b] = 0 := by simp only [Sp.uni, decide_eq_false c0, f1, f2, decide_eq_true c3.1, decide_eq_true c3.2, cond_false, cond_true, Bool.and_self]
            rw [outer_bad hs hg (.inr ⟨by omega, by omega, by simp at hlen; omega⟩), hu]; rfl
          | [c], hd, hlen =>
            have hu : Sp.uni [b, c] = 0 := by simp only [Sp.uni, decide_eq_false c0, f1, f2, decide_eq_true c3.1, decide_eq_true c3.2, cond_false, cond_true, Bool.and_self]
            rw [outer_bad hs hg (.inr ⟨by omega, by omega, by simp at hlen; omega⟩), hu]; rfl
          | [c, d], hd, hlen =>
            have hu : Sp.uni [b, c, d] = 0 := by simp only [Sp.uni, decide_eq_false c0, f1, f2, decide_eq_true c3.1, decide_eq_true c3.2, cond_false, cond_true, Bool.and_self]
            rw [outer_bad hs hg (.inr ⟨by omega, by omega, by simp at hlen; omega⟩), hu]; rfl
          | c :: d :: e :: r, hd, hlen =>
            have hu : Sp.uni (b :: c :: d :: e :: r) = bif decide ((bif decide (b.toNat = 240) then 144 else 128) ≤ c.toNat) && decide (c.toNat ≤ (bif decide (b.toNat = 244) then 143 else 191)) && Sp.cont d && Sp.cont e then 4 else 0 := by
              simp only [Sp.uni, decide_eq_false c0, f1, f2, decide_eq_true c3.1, decide_eq_true c3.2, cond_false, cond_true, Bool.and_self]
            have hc := byteLt c
            have hdd := byteLt d
            have hee := byteLt e
            rw [outer_in hs hg hN (by omega) (by omega) (by simp at hlen; omega), hL, hu]
            simp only [if_true, show ¬ (3 : Int) = 0 by omega, show ¬ (3 : Int) = 1 by omega, show ¬ (3 : Int) = 2 by omega, if_false]
            rw [inner_lit (P := 1) (P' := 2) hs 1 rfl rfl (by omega) (by omega) ((drop_at hd).trans rfl) (by omega) (by omega)]
            cases hcc : Sp.cont c
            · rw [cond_false, first_cont4 trivial hcc]; rfl
            · rw [cond_true]
              have hcc' := hcc
              simp only [Sp.cont, Bool.and_eq_true, decide_eq_true_eq] at hcc'
              rw [inner_lit (P := 2) (P' := 3) hs 2 rfl rfl (by omega) (by omega) ((drop_at hd).trans rfl) (by omega) (by omega)]
              cases hcd : Sp.cont d
              · rw [Bool.and_false]; rfl
              · have hcd' := hcd
                simp only [Sp.cont, Bool.and_eq_true, decide_eq_true_eq] at hcd'
                rw [cond_true, inner_lit (P := 3) (P' := 4) hs 3 rfl rfl (by omega) (by omega) ((drop_at hd).trans rfl) (by omega) (by omega)]
                cases hce : Sp.cont e
                · rw [Bool.and_false]; rfl
                · have hce' := hce
                  simp only [Sp.cont, Bool.and_eq_true, decide_eq_true_eq] at hce'
                  rw [cond_true, inner_end hs (by omega) (by omega) (by omega) (by omega), cond4 c3 hcc' hcd' hce', Bool.and_true, Bool.and_true, show (j : Int) + 3 + 1 = ((j + 4 : Nat) : Int) by omega]
                  cases (decide ((bif decide (b.toNat = 240) then 144 else 128) ≤ c.toNat) && decide (c.toNat ≤ (bif decide (b.toNat = 244) then 143 else 191))) <;> rfl
        · have hN : Sp.moreN b.toNat = -1 := by rw [moreN_of, if_neg c0, if_neg c1, if_neg c2, if_neg c3]
          have hu : Sp.uni (b :: r) = 0 := by
            have f1 : (decide (194 ≤ b.toNat) && decide (b.toNat ≤ 223)) = false := by simp; omega
            have f2 : (decide (224 ≤ b.toNat) && decide (b.toNat ≤ 239)) = false := by simp; omega
            have f3 : (decide (240 ≤ b.toNat) && decide (b.toNat ≤ 244)) = false := by simp; omega
            simp only [Sp.uni, decide_eq_false c0, f1, f2, f3, cond_false]
          rw [outer_bad hs hg (.inl (by omega)), hu]; rfl

/-- The whole. -/
theorem utf_ref {s : List UInt8} (hs : s.length ≤ 4611686018427387904) {n : Nat} (hn : 5 ≤ n) : ∀ (f j k : Nat), s.length - j ≤ f → f < k → j ≤ s.length →
    LP cx S15 n 95 0 2 k (frO s (j : Int)) [] (AK cx S15 n 95 0 2 (EK cx 95 0)) = some (.ret (.d (.int .i64 (match Sp.utfGo f (s.drop j) j with | some p => (p : Int) | none => -1))), []) := by
  intro f
  induction f with
  | zero =>
    intro j k h hk hj
    obtain ⟨k, rfl⟩ : ∃ i, k = i + 1 := ⟨k - 1, by omega⟩
    have hnil : s.drop j = [] := List.drop_eq_nil_of_le (by omega)
    rw [l15, hnil, decide_eq_false (p := (j : Int) < (s.length : Int)) (by omega)]; rfl
  | succ f ih =>
    intro j k h hk hj
    obtain ⟨k, rfl⟩ : ∃ i, k = i + 1 := ⟨k - 1, by omega⟩
    cases hd : s.drop j with
    | nil =>
      have := List.drop_eq_nil_iff.1 hd
      rw [l15, decide_eq_false (p := (j : Int) < (s.length : Int)) (by omega)]; rfl
    | cons b r =>
      obtain ⟨h1, hg, _⟩ := drop_cons hd
      rw [utf_step hs hn hd]
      have hle := uni_le (b :: r)
      have hlen : (b :: r).length = s.length - j := by rw [← hd]; simp
      by_cases hu : Sp.uni (b :: r) = 0
      · simp only [Sp.utfGo, hu]; rfl
      · have hbq : Nat.beq (Sp.uni (b :: r)) 0 = false := beqF hu
        have step := ih (j + Sp.uni (b :: r)) k (by omega) (by omega) (by omega)
        rw [← List.drop_drop, hd] at step
        simp only [Sp.utfGo, hbq, cond_false]
        exact step

theorem lim15 (s : List UInt8) (hs : s.length ≤ 4611686018427387904) : evLim cx 95 [.d (.str s)] [] = some (.ret (.d (.int .i64 (match Sp.utfGo s.length s 0 with | some p => (p : Int) | none => -1))), []) := by
  refine lim_body (N := s.length + 5) S15_knows ?_
  rw [b15]
  exact utf_ref hs (by omega) s.length 0 (s.length + 5) (by omega) (by omega) (by omega)

end Go.Vai
end

section
namespace Go.Vai
open Go.Proofs

theorem b19 (n : Nat) (s : List UInt8) (i : Int) :
    evBody cx none1 n 99 [.d (.str s), .d (.int .i64 i)] [] =
  bif decide (IntKind.i64.wrap (i + (1 : Int)) < (↑s.length : Int)) then
    must
      (decide (0 ≤ IntKind.i64.wrap (i + (2 : Int))) &&
        decide (IntKind.i64.wrap (i + (2 : Int)) ≤ (↑s.length : Int)))
      (must (decide (0 ≤ i) && decide (i ≤ (↑(IntKind.i64.wrap (i + (2 : Int))).toNat : Int)))
        (bif decide (List.drop i.toNat (List.take (IntKind.i64.wrap (i + (2 : Int))).toNat s) = [45, 62]) then
          some (Out.ret (V.d (D.int IntKind.i64 (2 : Int))), [])
        else
          bif decide (List.drop i.toNat (List.take (IntKind.i64.wrap (i + (2 : Int))).toNat s) = [47, 92]) then
            some (Out.ret (V.d (D.int IntKind.i64 (2 : Int))), [])
          else
            bif decide (List.drop i.toNat (List.take (IntKind.i64.wrap (i + (2 : Int))).toNat s) = [92, 47]) then
              some (Out.ret (V.d (D.int IntKind.i64 (2 : Int))), [])
            else
              LP cx none1 n 99 0 7 n
                [(0, V.d (D.str s)), (1, V.d (D.int IntKind.i64 i)),
                  (6, V.d (D.str [40, 41, 91, 93, 44, 46, 58, 59, 61, 92, 60, 62, 64, 126, 42, 48, 49])),
                  (7, V.d (D.int IntKind.i64 (0 : Int)))]
                [] (AK cx none1 n 99 0 7 (EK cx 99 0))))
  else
    LP cx none1 n 99 0 7 n
      [(0, V.d (D.str s)), (1, V.d (D.int IntKind.i64 i)),
        (6, V.d (D.str [40, 41, 91, 93, 44, 46, 58, 59, 61, 92, 60, 62, 64, 126, 42, 48, 49])),
        (7, V.d (D.int IntKind.i64 (0 : Int)))]
      [] (AK cx none1 n 99 0 7 (EK cx 99 0)) := by kernel_rfl

theorem l19 (n k : Nat) (s : List UInt8) (i j : Int) :
    LP cx none1 n 99 0 7 (k+1) [(0, .d (.str s)), (1, .d (.int .i64 i)), (6, .d (.str [40, 41, 91, 93, 44, 46, 58, 59, 61, 92, 60, 62, 64, 126, 42, 48, 49])), (7, .d (.int .i64 j))] [] (AK cx none1 n 99 0 7 (EK cx 99 0)) =
  bif decide (j < (17 : Int)) then
    must (decide (0 ≤ i) && decide (i < (↑s.length : Int)))
      (optK s[i.toNat]? fun b =>
        must
          (decide (0 ≤ j) &&
            decide (j < (↑([40, 41, 91, 93, 44, 46, 58, 59, 61, 92, 60, 62, 64, 126, 42, 48, 49] : List UInt8).length : Int)))
          (optK ([40, 41, 91, 93, 44, 46, 58, 59, 61, 92, 60, 62, 64, 126, 42, 48, 49] : List UInt8)[j.toNat]? fun b_1 =>
            bif decide ((↑b.toNat : Int) = (↑b_1.toNat : Int)) then
              some (Out.ret (V.d (D.int IntKind.i64 (1 : Int))), [])
            else
              LP cx none1 n 99 0 7 k
                [(0, V.d (D.str s)), (1, V.d (D.int IntKind.i64 i)),
                  (6, V.d (D.str [40, 41, 91, 93, 44, 46, 58, 59, 61, 92, 60, 62, 64, 126, 42, 48, 49])),
                  (7, V.d (D.int IntKind.i64 (IntKind.i64.wrap (j + (1 : Int)))))]
                [] (AK cx none1 n 99 0 7 (EK cx 99 0))))
  else some (Out.ret (V.d (D.int IntKind.i64 (0 : Int))), []) := by kernel_rfl


def Sp.ones : List UInt8 := [40, 41, 91, 93, 44, 46, 58, 59, 61, 92, 60, 62, 64, 126, 42, 48, 49]

theorem signGo_ones (b : UInt8) (r : List UInt8) : ∀ l : List UInt8, Sp.signGo (b :: r) (l.map fun x => [x]) = bif l.any (fun x => decide (b = x)) then (2, [b]) else (0, [])
  | [] => rfl
  | x :: l => by
    have ih := signGo_ones b r l
    simp only [List.map_cons, Sp.signGo, List.any_cons]
    have h : Sp.hasPre (b :: r) [x] = decide (b = x) := by simp [Sp.hasPre]
    rw [h, ih]
    by_cases hx : b = x
    · subst hx; simp
    · rw [decide_eq_false hx]; simp

def Sp.signAt (s : List UInt8) (i : Int) : Int := ((Sp.signGo (s.drop i.toNat) Sp.signs).2.length : Int)

theorem ones_loop {s : List UInt8} {n i : Nat} {b : UInt8} (hg : s[i]? = some b) : ∀ (r : List UInt8) (j k : Nat), Sp.ones.drop j = r → r.length < k →
    LP cx none1 n 99 0 7 k [(0, .d (.str s)), (1, .d (.int .i64 (i : Int))), (6, .d (.str Sp.ones)), (7, .d (.int .i64 (j : Int)))] [] (AK cx none1 n 99 0 7 (EK cx 99 0)) = some (.ret (.d (.int .i64 (bif r.any (fun x => decide (b = x)) then 1 else 0))), [])
  | _, _, 0, _, hk => by omega
  | [], j, k + 1, hr, _ => by
    have h1 := drop_nil hr
    have h2 : (17 : Nat) ≤ j := h1
    unfold Sp.ones
    rw [l19, decide_eq_false (p := (j : Int) < 17) (by omega), cond_false]
    rfl
  | x :: r, j, k + 1, hr, hk => by
    obtain ⟨h1, h2, h3⟩ := drop_cons hr
    have h1' : j < 17 := h1
    have ih := ones_loop (n := n) hg r (j + 1) k h3 (by simpa using hk)
    have hlt : i < s.length := (List.getElem?_eq_some_iff.1 hg).1
    unfold Sp.ones at h2 ih ⊢
    rw [l19]
    simp only [decide_eq_true (p := (j : Int) < 17) (by omega), cond_true, decide_eq_true (p := (0 : Int) ≤ (i : Int)) (by omega), decide_eq_true (p := (i : Int) < (s.length : Int)) (by omega), Bool.and_self, must, Int.toNat_natCast, hg, optK,
      decide_eq_true (p := (0 : Int) ≤ (j : Int)) (by omega), decide_eq_true (p := (j : Int) < ((List.length [(40 : UInt8), 41, 91, 93, 44, 46, 58, 59, 61, 92, 60, 62, 64, 126, 42, 48, 49] : Nat) : Int)) (by simp; omega), h2]
    rw [wrapN (by omega) (by omega), show (j : Int) + 1 = ((j + 1 : Nat) : Int) by omega, ih, List.any_cons]
    by_cases hx : b = x
    · subst hx; simp
    · rw [decide_eq_false hx, decide_eq_false (p := (b.toNat : Int) = (x.toNat : Int)) (by intro h; exact hx (UInt8.toNat_inj.1 (by omega)))]
      simp

theorem signs_ones : Sp.signs = [45, 62] :: [47, 92] :: [92, 47] :: Sp.ones.map fun x => [x] := rfl

theorem lim19 (s : List UInt8) (j : Nat) (hs : s.length ≤ 4611686018427387904) (hj : j < s.length) : evLim cx 99 [.d (.str s), .d (.int .i64 (j : Int))] [] = some (.ret (.d (.int .i64 (Sp.signAt s (j : Int)))), []) := by
  refine lim_body (N := 18) (none1_knows cx) ?_
  obtain ⟨b, hg⟩ : ∃ b, s[j]? = some b := ⟨_, List.getElem?_eq_getElem hj⟩
  obtain ⟨r, hd⟩ : ∃ r, s.drop j = b :: r := ⟨_, by rw [List.drop_eq_getElem_cons hj]; congr 1; exact Option.some.inj ((List.getElem?_eq_getElem hj).symm.trans hg)⟩
  have ho := ones_loop (n := 18) hg Sp.ones 0 18 rfl (by decide)
  have w1 : IntKind.i64.wrap ((j : Int) + 1) = ((j + 1 : Nat) : Int) := by rw [wrapN (by omega) (by omega)]; omega
  have w2 : IntKind.i64.wrap ((j : Int) + 2) = ((j + 2 : Nat) : Int) := by rw [wrapN (by omega) (by omega)]; omega
  have hlen : (b :: r).length = s.length - j := by rw [← hd]; simp
  rw [b19, w1, w2]
  unfold Sp.signAt
  simp only [Int.toNat_natCast, hd, signs_ones, Sp.signGo, signGo_ones, List.drop_take, show j + 2 - j = 2 by omega, Sp.hasPre, List.length_cons, List.length_nil, Nat.zero_add, Nat.reduceAdd]
  by_cases h1 : j + 1 < s.length
  · simp only [decide_eq_true (p := ((j + 1 : Nat) : Int) < (s.length : Int)) (by omega), decide_eq_true (p := (0 : Int) ≤ ((j + 2 : Nat) : Int)) (by omega), decide_eq_true (p := ((j + 2 : Nat) : Int) ≤ (s.length : Int)) (by omega),
      decide_eq_true (p := (0 : Int) ≤ (j : Int)) (by omega), decide_eq_true (p := (j : Int) ≤ ((j + 2 : Nat) : Int)) (by omega), Bool.and_self, must, cond_true]
    cases hA : decide (List.take 2 (b :: r) = [45, 62])
    · cases hB : decide (List.take 2 (b :: r) = [47, 92])
      · cases hC : decide (List.take 2 (b :: r) = [92, 47])
        · simp only [cond_false]
          refine ho.trans ?_
          cases Sp.ones.any (fun x => decide (b = x)) <;> rfl
        · rfl
      · rfl
    · rfl
  · have hr : r = [] := by cases r with | nil => rfl | cons c r => simp at hlen; omega
    subst hr
    rw [decide_eq_false (p := ((j + 1 : Nat) : Int) < (s.length : Int)) (by omega), cond_false]
    simp only [decide_eq_false (p := List.take 2 [b] = [45, 62]) (by simp), decide_eq_false (p := List.take 2 [b] = [47, 92]) (by simp), decide_eq_false (p := List.take 2 [b] = [92, 47]) (by simp), cond_false]
    refine ho.trans ?_
    cases Sp.ones.any (fun x => decide (b = x)) <;> rfl

end Go.Vai
end

section
namespace Go.Vai
open Go.Proofs

def Sp.utfR (s : List UInt8) : Int := match Sp.utfGo s.length s 0 with | some p => (p : Int) | none => -1
def utfRF : List V → Option Out | [.d (.str s)] => some (.ret (.d (.int .i64 (Sp.utfR s)))) | _ => none
def signF : List V → Option Out | [.d (.str s), .d (.int .i64 i)] => some (.ret (.d (.int .i64 (Sp.signAt s i)))) | _ => none
noncomputable def S8 : Caller := also 95 utfRF (also 96 (byteF Sp.blank) (also 97 (byteF Sp.letter) (also 98 (byteF Sp.digit) (also 99 signF none1))))

theorem S8_knows : knows cx S8 (evLim cx) := by
  refine also_knows (also_knows (also_knows (also_knows (also_knows (none1_knows cx) ?_) ?_) ?_) ?_) ?_
  · intro args o hd h
    unfold signF at h
    split at h
    · cases h
      rename_i s a
      have hd' : (decide (s.length ≤ big) && (decide (0 ≤ a) && decide (a < (s.length : Int)))) = true := hd
      simp only [Bool.and_eq_true, decide_eq_true_eq] at hd'
      obtain ⟨h1, h2, h3⟩ := hd'
      have := lim19 s a.toNat h1 (by omega)
      rw [show ((a.toNat : Nat) : Int) = a by omega] at this
      exact this
    · cases h
  · intro args o _ h
    obtain ⟨c, rfl, rfl⟩ := byteF_some h
    exact lim18 c
  · intro args o _ h
    obtain ⟨c, rfl, rfl⟩ := byteF_some h
    exact lim17 c
  · intro args o _ h
    obtain ⟨c, rfl, rfl⟩ := byteF_some h
    exact lim16 c
  · intro args o hd h
    unfold utfRF at h
    split at h
    · cases h; exact lim15 _ (of_decide_eq_true hd)
    · cases h

theorem b8 (n : Nat) (s : List UInt8) :
    evBody cx S8 n 73 [.d (.str s)] [] =
  bif decide ((65536 : Int) < (↑s.length : Int)) then
    some
      (Out.ret (V.tup [V.d (D.sl 3 []), V.d (D.int IntKind.i64 (0 : Int)), V.d (D.int IntKind.i64 (3 : Int))]),
        [])
  else
    must (decide (s.length ≤ big))
      (bif decide ((0 : Int) ≤ Sp.utfR s) then
        some
          (Out.ret
              (V.tup [V.d (D.sl 3 []), V.d (D.int IntKind.i64 (Sp.utfR s)), V.d (D.int IntKind.i64 (60 : Int))]),
            [])
      else
        LP cx S8 n 73 0 8 n [(0, V.d (D.str s)), (6, V.sl 3 [] 6), (7, V.d (D.int IntKind.i64 (0 : Int)))]
          [(6, Ob.tok 0)] (AK cx S8 n 73 0 8 (EK cx 73 0))) := by kernel_rfl

theorem l8 (n k : Nat) (s : List UInt8) (i : Int) (l : List D) :
    LP cx S8 n 73 0 8 (k+1) [(0, .d (.str s)), (6, .sl 3 l 6), (7, .d (.int .i64 i))] [(6, .tok l.length)] (AK cx S8 n 73 0 8 (EK cx 73 0)) =
  bif decide (i < (↑s.length : Int)) then
    must (decide (0 ≤ i) && decide (i < (↑s.length : Int)))
      (optK s[i.toNat]? fun b =>
        bif Sp.blank (↑b.toNat : Int) then
          LP cx S8 n 73 0 8 k
            [(0, V.d (D.str s)), (6, V.sl 3 l 6), (7, V.d (D.int IntKind.i64 (IntKind.i64.wrap (i + (1 : Int)))))]
            [(6, Ob.tok l.length)] (AK cx S8 n 73 0 8 (EK cx 73 0))
        else
          must (decide (0 ≤ i) && decide (i < (↑s.length : Int)))
            (optK s[i.toNat]? fun b =>
              bif decide ((↑b.toNat : Int) = (45 : Int)) then
                bif decide (IntKind.i64.wrap (i + (1 : Int)) < (↑s.length : Int)) then
                  must
                    (decide (0 ≤ IntKind.i64.wrap (i + (1 : Int))) &&
                      decide (IntKind.i64.wrap (i + (1 : Int)) < (↑s.length : Int)))
                    (optK s[(IntKind.i64.wrap (i + (1 : Int))).toNat]? fun b =>
                      bif decide ((↑b.toNat : Int) = (45 : Int)) then
                        LP cx S8 n 73 0 12 n [(0, V.d (D.str s)), (6, V.sl 3 l 6), (7, V.d (D.int IntKind.i64 i))]
                          [(6, Ob.tok l.length)]
                          (AL cx S8 n 73 0 8 12 (inK cx S8 n 73 0 8 k (AK cx S8 n 73 0 8 (EK cx 73 0))))
                      else
                        must (decide (0 ≤ i) && decide (i < (↑s.length : Int)))
                          (optK s[i.toNat]? fun b =>
                            bif Sp.letter (↑b.toNat : Int) then
                              LP cx S8 n 73 0 18 n
                                [(0, V.d (D.str s)), (6, V.sl 3 l 6), (7, V.d (D.int IntKind.i64 i)),
                                  (8, V.d (D.int IntKind.i64 i)), (9, V.d (D.int IntKind.i64 (1 : Int)))]
                                [(6, Ob.tok l.length)]
                                (AL cx S8 n 73 0 8 18 (inK cx S8 n 73 0 8 k (AK cx S8 n 73 0 8 (EK cx 73 0))))
                            else
                              must (decide (s.length ≤ big) && (decide (0 ≤ i) && decide (i < (↑s.length : Int))))
                                (bif decide (IntKind.i64.wrap (i + Sp.signAt s i) = i) then
                                  some
                                    (Out.ret
                                        (V.tup
                                          [V.d (D.sl 3 []), V.d (D.int IntKind.i64 i),
                                            V.d (D.int IntKind.i64 (61 : Int))]),
                                      [])
                                else
                                  must
                                    (decide (0 ≤ IntKind.i64.wrap (i + Sp.signAt s i)) &&
                                      decide (IntKind.i64.wrap (i + Sp.signAt s i) ≤ (↑s.length : Int)))
                                    (must
                                      (decide (0 ≤ i) &&
                                        decide (i ≤ (↑(IntKind.i64.wrap (i + Sp.signAt s i)).toNat : Int)))
                                      (must
                                        (decide (l.length = l.length) &&
                                          decide
                                            (l.length +
                                                [D.agg
                                                      [D.int IntKind.i64 (2 : Int),
                                                        D.str
                                                          (List.drop i.toNat
                                                            (List.take (IntKind.i64.wrap (i + Sp.signAt s i)).toNat s)),
                                                        D.int IntKind.i64 i]].length ≤
                                              4294967296))
                                        (LP cx S8 n 73 0 8 k
                                          [(0, V.d (D.str s)),
                                            (6,
                                              V.sl 3
                                                (l ++
                                                  [D.agg
                                                      [D.int IntKind.i64 (2 : Int),
                                                        D.str
                                                          (List.drop i.toNat
                                                            (List.take (IntKind.i64.wrap (i + Sp.signAt s i)).toNat s)),
                                                        D.int IntKind.i64 i]])
                                                6),
                                            (7, V.d (D.int IntKind.i64 (IntKind.i64.wrap (i + Sp.signAt s i))))]
                                          [(6,
                                              Ob.tok
                                                (l.length +
                                                  [D.agg
                                                        [D.int IntKind.i64 (2 : Int),
                                                          D.str
                                                            (List.drop i.toNat
                                                              (List.take (IntKind.i64.wrap (i + Sp.signAt s i)).toNat
                                                                s)),
                                                          D.int IntKind.i64 i]].length))]
                                          (AK cx S8 n 73 0 8 (EK cx 73 0))))))))
                else
                  must (decide (0 ≤ i) && decide (i < (↑s.length : Int)))
                    (optK s[i.toNat]? fun b =>
                      bif Sp.letter (↑b.toNat : Int) then
                        LP cx S8 n 73 0 18 n
                          [(0, V.d (D.str s)), (6, V.sl 3 l 6), (7, V.d (D.int IntKind.i64 i)),
                            (8, V.d (D.int IntKind.i64 i)), (9, V.d (D.int IntKind.i64 (1 : Int)))]
                          [(6, Ob.tok l.length)]
                          (AL cx S8 n 73 0 8 18 (inK cx S8 n 73 0 8 k (AK cx S8 n 73 0 8 (EK cx 73 0))))
                      else
                        must (decide (s.length ≤ big) && (decide (0 ≤ i) && decide (i < (↑s.length : Int))))
                          (bif decide (IntKind.i64.wrap (i + Sp.signAt s i) = i) then
                            some
                              (Out.ret
                                  (V.tup
                                    [V.d (D.sl 3 []), V.d (D.int IntKind.i64 i),
                                      V.d (D.int IntKind.i64 (61 : Int))]),
                                [])
                          else
                            must
                              (decide (0 ≤ IntKind.i64.wrap (i + Sp.signAt s i)) &&
                                decide (IntKind.i64.wrap (i + Sp.signAt s i) ≤ (↑s.length : Int)))
                              (must
                                (decide (0 ≤ i) && decide (i ≤ (↑(IntKind.i64.wrap (i + Sp.signAt s i)).toNat : Int)))
                                (must
                                  (decide (l.length = l.length) &&
                                    decide
                                      (l.length +
                                          [D.agg
                                                [D.int IntKind.i64 (2 : Int),
                                                  D.str
                                                    (List.drop i.toNat
                                                      (List.take (IntKind.i64.wrap (i + Sp.signAt s i)).toNat s)),
                                                  D.int IntKind.i64 i]].length ≤
                                        4294967296))
                                  (LP cx S8 n 73 0 8 k
                                    [(0, V.d (D.str s)),
                                      (6,
                                        V.sl 3
                                          (l ++
                                            [D.agg
                                                [D.int IntKind.i64 (2 : Int),
                                                  D.str
                                                    (List.drop i.toNat
                                                      (List.take (IntKind.i64.wrap (i + Sp.signAt s i)).toNat s)),
                                                  D.int IntKind.i64 i]])
                                          6),
                                      (7, V.d (D.int IntKind.i64 (IntKind.i64.wrap (i + Sp.signAt s i))))]
                                    [(6,
                                        Ob.tok
                                          (l.length +
                                            [D.agg
                                                  [D.int IntKind.i64 (2 : Int),
                                                    D.str
                                                      (List.drop i.toNat
                                                        (List.take (IntKind.i64.wrap (i + Sp.signAt s i)).toNat s)),
                                                    D.int IntKind.i64 i]].length))]
                                    (AK cx S8 n 73 0 8 (EK cx 73 0)))))))
              else
                must (decide (0 ≤ i) && decide (i < (↑s.length : Int)))
                  (optK s[i.toNat]? fun b =>
                    bif Sp.letter (↑b.toNat : Int) then
                      LP cx S8 n 73 0 18 n
                        [(0, V.d (D.str s)), (6, V.sl 3 l 6), (7, V.d (D.int IntKind.i64 i)),
                          (8, V.d (D.int IntKind.i64 i)), (9, V.d (D.int IntKind.i64 (1 : Int)))]
                        [(6, Ob.tok l.length)]
                        (AL cx S8 n 73 0 8 18 (inK cx S8 n 73 0 8 k (AK cx S8 n 73 0 8 (EK cx 73 0))))
                    else
                      must (decide (s.length ≤ big) && (decide (0 ≤ i) && decide (i < (↑s.length : Int))))
                        (bif decide (IntKind.i64.wrap (i + Sp.signAt s i) = i) then
                          some
                            (Out.ret
                                (V.tup
                                  [V.d (D.sl 3 []), V.d (D.int IntKind.i64 i), V.d (D.int IntKind.i64 (61 : Int))]),
                              [])
                        else
                          must
                            (decide (0 ≤ IntKind.i64.wrap (i + Sp.signAt s i)) &&
                              decide (IntKind.i64.wrap (i + Sp.signAt s i) ≤ (↑s.length : Int)))
                            (must (decide (0 ≤ i) && decide (i ≤ (↑(IntKind.i64.wrap (i + Sp.signAt s i)).toNat : Int)))
                              (must
                                (decide (l.length = l.length) &&
                                  decide
                                    (l.length +
                                        [D.agg
                                              [D.int IntKind.i64 (2 : Int),
                                                D.str
                                                  (List.drop i.toNat
                                                    (List.take (IntKind.i64.wrap (i + Sp.signAt s i)).toNat s)),
                                                D.int IntKind.i64 i]].length ≤
                                      4294967296))
                                (LP cx S8 n 73 0 8 k
                                  [(0, V.d (D.str s)),
                                    (6,
                                      V.sl 3
                                        (l ++
                                          [D.agg
                                              [D.int IntKind.i64 (2 : Int),
                                                D.str
                                                  (List.drop i.toNat
                                                    (List.take (IntKind.i64.wrap (i + Sp.signAt s i)).toNat s)),
                                                D.int IntKind.i64 i]])
                                        6),
                                    (7, V.d (D.int IntKind.i64 (IntKind.i64.wrap (i + Sp.signAt s i))))]
                                  [(6,
                                      Ob.tok
                                        (l.length +
                                          [D.agg
                                                [D.int IntKind.i64 (2 : Int),
                                                  D.str
                                                    (List.drop i.toNat
                                                      (List.take (IntKind.i64.wrap (i + Sp.signAt s i)).toNat s)),
                                                  D.int IntKind.i64 i]].length))]
                                  (AK cx S8 n 73 0 8 (EK cx 73 0)))))))))
  else
    must
      (decide (l.length = l.length) &&
        decide
          (l.length + [D.agg [D.int IntKind.i64 (0 : Int), D.str [], D.int IntKind.i64 (↑s.length : Int)]].length ≤
            4294967296))
      (some
        (Out.ret
            (V.tup
              [V.d
                  (D.sl 3
                    (l ++ [D.agg [D.int IntKind.i64 (0 : Int), D.str [], D.int IntKind.i64 (↑s.length : Int)]])),
                V.d (D.int IntKind.i64 (0 : Int)), V.d (D.int IntKind.i64 (0 : Int))]),
          [])) := by kernel_rfl

theorem l8c (n k k' : Nat) (s : List UInt8) (i : Int) (l : List D) :
    LP cx S8 n 73 0 12 (k+1) [(0, .d (.str s)), (6, .sl 3 l 6), (7, .d (.int .i64 i))] [(6, .tok l.length)] (AL cx S8 n 73 0 8 12 (inK cx S8 n 73 0 8 k' (AK cx S8 n 73 0 8 (EK cx 73 0)))) =
  bif decide (i < (↑s.length : Int)) then
    must (decide (0 ≤ i) && decide (i < (↑s.length : Int)))
      (optK s[i.toNat]? fun b =>
        bif !decide ((↑b.toNat : Int) = (10 : Int)) then
          LP cx S8 n 73 0 12 k
            [(0, V.d (D.str s)), (6, V.sl 3 l 6), (7, V.d (D.int IntKind.i64 (IntKind.i64.wrap (i + (1 : Int)))))]
            [(6, Ob.tok l.length)] (AL cx S8 n 73 0 8 12 (inK cx S8 n 73 0 8 k' (AK cx S8 n 73 0 8 (EK cx 73 0))))
        else
          LP cx S8 n 73 0 8 k' [(0, V.d (D.str s)), (6, V.sl 3 l 6), (7, V.d (D.int IntKind.i64 i))]
            [(6, Ob.tok l.length)] (AK cx S8 n 73 0 8 (EK cx 73 0)))
  else
    LP cx S8 n 73 0 8 k' [(0, V.d (D.str s)), (6, V.sl 3 l 6), (7, V.d (D.int IntKind.i64 i))] [(6, Ob.tok l.length)]
      (AK cx S8 n 73 0 8 (EK cx 73 0)) := by kernel_rfl

theorem l8n (n k k' : Nat) (s : List UInt8) (i e : Int) (l : List D) :
    LP cx S8 n 73 0 18 (k+1) [(0, .d (.str s)), (6, .sl 3 l 6), (7, .d (.int .i64 i)), (8, .d (.int .i64 e)), (9, .d (.int .i64 1))] [(6, .tok l.length)] (AL cx S8 n 73 0 8 18 (inK cx S8 n 73 0 8 k' (AK cx S8 n 73 0 8 (EK cx 73 0)))) =
  bif decide (e < (↑s.length : Int)) then
    must (decide (0 ≤ e) && decide (e < (↑s.length : Int)))
      (optK s[e.toNat]? fun b =>
        bif Sp.letter (↑b.toNat : Int) then
          LP cx S8 n 73 0 18 k
            [(0, V.d (D.str s)), (6, V.sl 3 l 6), (7, V.d (D.int IntKind.i64 i)),
              (8, V.d (D.int IntKind.i64 (IntKind.i64.wrap (e + (1 : Int))))),
              (9, V.d (D.int IntKind.i64 (1 : Int)))]
            [(6, Ob.tok l.length)] (AL cx S8 n 73 0 8 18 (inK cx S8 n 73 0 8 k' (AK cx S8 n 73 0 8 (EK cx 73 0))))
        else
          must (decide (0 ≤ e) && decide (e < (↑s.length : Int)))
            (optK s[e.toNat]? fun b =>
              bif Sp.digit (↑b.toNat : Int) then
                LP cx S8 n 73 0 18 k
                  [(0, V.d (D.str s)), (6, V.sl 3 l 6), (7, V.d (D.int IntKind.i64 i)),
                    (8, V.d (D.int IntKind.i64 (IntKind.i64.wrap (e + (1 : Int))))),
                    (9, V.d (D.int IntKind.i64 (1 : Int)))]
                  [(6, Ob.tok l.length)] (AL cx S8 n 73 0 8 18 (inK cx S8 n 73 0 8 k' (AK cx S8 n 73 0 8 (EK cx 73 0))))
              else
                bif decide (e = i) then
                  some
                    (Out.ret
                        (V.tup [V.d (D.sl 3 []), V.d (D.int IntKind.i64 i), V.d (D.int IntKind.i64 (61 : Int))]),
                      [])
                else
                  must (decide (0 ≤ e) && decide (e ≤ (↑s.length : Int)))
                    (must (decide (0 ≤ i) && decide (i ≤ (↑e.toNat : Int)))
                      (must
                        (decide (l.length = l.length) &&
                          decide
                            (l.length +
                                [D.agg
                                      [D.int IntKind.i64 (1 : Int), D.str (List.drop i.toNat (List.take e.toNat s)),
                                        D.int IntKind.i64 i]].length ≤
                              4294967296))
                        (LP cx S8 n 73 0 8 k'
                          [(0, V.d (D.str s)),
                            (6,
                              V.sl 3
                                (l ++
                                  [D.agg
                                      [D.int IntKind.i64 (1 : Int), D.str (List.drop i.toNat (List.take e.toNat s)),
                                        D.int IntKind.i64 i]])
                                6),
                            (7, V.d (D.int IntKind.i64 e))]
                          [(6,
                              Ob.tok
                                (l.length +
                                  [D.agg
                                        [D.int IntKind.i64 (1 : Int),
                                          D.str (List.drop i.toNat (List.take e.toNat s)),
                                          D.int IntKind.i64 i]].length))]
                          (AK cx S8 n 73 0 8 (EK cx 73 0)))))))
  else
    bif decide (e = i) then
      some (Out.ret (V.tup [V.d (D.sl 3 []), V.d (D.int IntKind.i64 i), V.d (D.int IntKind.i64 (61 : Int))]), [])
    else
      must (decide (0 ≤ e) && decide (e ≤ (↑s.length : Int)))
        (must (decide (0 ≤ i) && decide (i ≤ (↑e.toNat : Int)))
          (must
            (decide (l.length = l.length) &&
              decide
                (l.length +
                    [D.agg
                          [D.int IntKind.i64 (1 : Int), D.str (List.drop i.toNat (List.take e.toNat s)),
                            D.int IntKind.i64 i]].length ≤
                  4294967296))
            (LP cx S8 n 73 0 8 k'
              [(0, V.d (D.str s)),
                (6,
                  V.sl 3
                    (l ++
                      [D.agg
                          [D.int IntKind.i64 (1 : Int), D.str (List.drop i.toNat (List.take e.toNat s)),
                            D.int IntKind.i64 i]])
                    6),
                (7, V.d (D.int IntKind.i64 e))]
              [(6,
                  Ob.tok
                    (l.length +
                      [D.agg
                            [D.int IntKind.i64 (1 : Int), D.str (List.drop i.toNat (List.take e.toNat s)),
                              D.int IntKind.i64 i]].length))]
              (AK cx S8 n 73 0 8 (EK cx 73 0))))) := by kernel_rfl


abbrev fr8 (s : List UInt8) (j : Nat) (l : List D) : Fr := [(0, .d (.str s)), (6, .sl 3 l 6), (7, .d (.int .i64 (j : Int)))]
noncomputable abbrev L8 (n k : Nat) (s : List UInt8) (j : Nat) (l : List D) : Option (Out × St) := LP cx S8 n 73 0 8 k (fr8 s j l) [(6, .tok l.length)] (AK cx S8 n 73 0 8 (EK cx 73 0))

/-- The comment is let by. -/
theorem l8_skip {s : List UInt8} (hs : s.length ≤ 65536) (n k' : Nat) (l : List D) : ∀ (r : List UInt8) (j k : Nat), s.drop j = r → j ≤ s.length → r.length < k →
    ∃ j', LP cx S8 n 73 0 12 k (fr8 s j l) [(6, .tok l.length)] (AL cx S8 n 73 0 8 12 (inK cx S8 n 73 0 8 k' (AK cx S8 n 73 0 8 (EK cx 73 0)))) = L8 n k' s j' l ∧ j ≤ j' ∧ j' ≤ s.length ∧ Sp.pastGo true r j = Sp.past s j' ∧ (∀ b r', r = b :: r' → ¬ (b.toNat : Int) = 10 → j < j')
  | _, _, 0, _, _, hk => by omega
  | [], j, k + 1, hr, hj, _ => by
    have h1 := drop_nil hr
    refine ⟨j, ?_, Nat.le_refl _, hj, ?_, fun b r' h => by cases h⟩
    · rw [l8c, decide_eq_false (p := (j : Int) < (s.length : Int)) (by omega)]; rfl
    · unfold Sp.past; rw [hr]; rfl
  | b :: r, j, k + 1, hr, hj, hk => by
    obtain ⟨h1, h2, h3⟩ := drop_cons hr
    by_cases hb : (b.toNat : Int) = 10
    · refine ⟨j, ?_, Nat.le_refl _, hj, ?_, fun b' r' h hn => by cases h; exact absurd hb hn⟩
      · rw [l8c]
        simp only [decide_eq_true (p := (j : Int) < (s.length : Int)) (by omega), decide_eq_true (p := (0 : Int) ≤ (j : Int)) (by omega), cond_true, Bool.and_self, must, Int.toNat_natCast, h2, optK, decide_eq_true hb, Bool.not_true, cond_false]
      · unfold Sp.past
        rw [hr, Sp.pastGo, Sp.pastGo, decide_eq_true hb, hb]; rfl
    · obtain ⟨j', e1, e2, e3, e4, _⟩ := l8_skip hs n k' l r (j + 1) k h3 h1 (by simpa using hk)
      refine ⟨j', ?_, by omega, e3, ?_, fun _ _ _ _ => by omega⟩
      · rw [l8c]
        simp only [decide_eq_true (p := (j : Int) < (s.length : Int)) (by omega), decide_eq_true (p := (0 : Int) ≤ (j : Int)) (by omega), cond_true, Bool.and_self, must, Int.toNat_natCast, h2, optK, decide_eq_false hb, Bool.not_false]
        rw [wrap1 (by omega)]
        exact e1
      · rw [Sp.pastGo, decide_eq_false hb]; exact e4

theorem l8_stop {s : List UInt8} {n k' j e : Nat} {l : List D} (hje : j < e) (he : e ≤ s.length) (hl : l.length ≤ 65536) :
    (bif decide ((e : Int) = (j : Int)) then
                  some
                    (Out.ret
                        (V.tup [V.d (D.sl 3 []), V.d (D.int IntKind.i64 (j : Int)), V.d (D.int IntKind.i64 (61 : Int))]),
                      [])
                else
                  must (decide (0 ≤ (e : Int)) && decide ((e : Int) ≤ (↑s.length : Int)))
                    (must (decide (0 ≤ (j : Int)) && decide ((j : Int) ≤ (e : Int)))
                      (must
                        (decide (l.length = l.length) &&
                          decide
                            (l.length +
                                [D.agg
                                      [D.int IntKind.i64 (1 : Int), D.str (List.drop j (List.take e s)),
                                        D.int IntKind.i64 (j : Int)]].length ≤
                              4294967296))
                        (LP cx S8 n 73 0 8 k'
                          [(0, V.d (D.str s)),
                            (6,
                              V.sl 3
                                (l ++
                                  [D.agg
                                      [D.int IntKind.i64 (1 : Int), D.str (List.drop j (List.take e s)),
                                        D.int IntKind.i64 (j : Int)]])
                                6),
                            (7, V.d (D.int IntKind.i64 (e : Int)))]
                          [(6,
                              Ob.tok
                                (l.length +
                                  [D.agg
                                        [D.int IntKind.i64 (1 : Int),
                                          D.str (List.drop j (List.take e s)),
                                          D.int IntKind.i64 (j : Int)]].length))]
                          (AK cx S8 n 73 0 8 (EK cx 73 0)))))) = L8 n k' s e (l ++ [tokD 1 ((s.drop j).take (e - j)) (j : Int)]) := by
  rw [List.drop_take]
  simp only [decide_eq_false (p := (e : Int) = (j : Int)) (by omega), cond_false, must, decide_eq_true (p := (0 : Int) ≤ (e : Int)) (by omega), decide_eq_true (p := (e : Int) ≤ (s.length : Int)) (by omega),
    decide_eq_true (p := (0 : Int) ≤ (j : Int)) (by omega), decide_eq_true (p := (j : Int) ≤ (e : Int)) (by omega), Bool.and_self, cond_true, decide_true, List.length_singleton, decide_eq_true (p := l.length + 1 ≤ 4294967296) (by omega)]
  unfold L8
  rw [List.length_append]
  rfl

/-- The name is taken. -/
theorem l8_name {s : List UInt8} (hs : s.length ≤ 65536) (n k' j : Nat) {l : List D} (hl : l.length ≤ 65536) : ∀ (r : List UInt8) (e k : Nat), s.drop e = r → j < e → e ≤ s.length → r.length < k →
    LP cx S8 n 73 0 18 k [(0, .d (.str s)), (6, .sl 3 l 6), (7, .d (.int .i64 (j : Int))), (8, .d (.int .i64 (e : Int))), (9, .d (.int .i64 1))] [(6, .tok l.length)] (AL cx S8 n 73 0 8 18 (inK cx S8 n 73 0 8 k' (AK cx S8 n 73 0 8 (EK cx 73 0)))) =
      L8 n k' s (j + Sp.nameGo r (e - j)) (l ++ [tokD 1 ((s.drop j).take (Sp.nameGo r (e - j))) (j : Int)])
  | _, _, 0, _, _, _, hk => by omega
  | [], e, k + 1, hr, hje, he, _ => by
    have h1 := drop_nil hr
    rw [l8n, decide_eq_false (p := (e : Int) < (s.length : Int)) (by omega), cond_false]
    refine (l8_stop (n := n) (k' := k') hje he hl).trans ?_
    rw [Sp.nameGo, show j + (e - j) = e by omega]
  | b :: r, e, k + 1, hr, hje, he, hk => by
    obtain ⟨h1, h2, h3⟩ := drop_cons hr
    have ih := l8_name hs n k' j hl r (e + 1) k h3 (by omega) h1 (by simpa using hk)
    have hle := nameGo_le (b :: r) (e - j)
    rw [l8n]
    simp only [decide_eq_true (p := (e : Int) < (s.length : Int)) (by omega), decide_eq_true (p := (0 : Int) ≤ (e : Int)) (by omega), cond_true, Bool.and_self, must, Int.toNat_natCast, h2, optK, Sp.nameGo, decide_eq_true (p := 0 < e - j) (by omega), Bool.true_and]
    rw [wrap1 (by omega)]
    cases Sp.letter (b.toNat : Int)
    · cases Sp.digit (b.toNat : Int)
      · have st := l8_stop (n := n) (k' := k') hje he hl
        simp only [decide_eq_true (p := (0 : Int) ≤ (e : Int)) (by omega), decide_eq_true (p := (e : Int) ≤ (s.length : Int)) (by omega), must, cond_true, Bool.and_self] at st
        simp only [cond_false, Bool.or_self, decide_eq_true (p := (e : Int) ≤ (s.length : Int)) (by omega), cond_true]
        rw [show j + (e - j) = e by omega]
        exact st
      · simp only [cond_false, cond_true, Bool.or_true]
        rw [show e - j + 1 = e + 1 - j by omega]; exact ih
    · simp only [cond_true, Bool.true_or]
      rw [show e - j + 1 = e + 1 - j by omega]; exact ih

end Go.Vai
end

section
namespace Go.Vai
open Go.Proofs

def scanResP (r : List D × Int × Int) : Option (Out × St) := some (.ret (.tup [.d (.sl 3 r.1), .d (.int .i64 r.2.1), .d (.int .i64 r.2.2)]), [])

noncomputable def R8 (n k : Nat) (s : List UInt8) (i : Int) (l : List D) : Option (Out × St) :=
                must (decide (0 ≤ i) && decide (i < (↑s.length : Int)))
                  (optK s[i.toNat]? fun b =>
                    bif Sp.letter (↑b.toNat : Int) then
                      LP cx S8 n 73 0 18 n
                        [(0, V.d (D.str s)), (6, V.sl 3 l 6), (7, V.d (D.int IntKind.i64 i)),
                          (8, V.d (D.int IntKind.i64 i)), (9, V.d (D.int IntKind.i64 (1 : Int)))]
                        [(6, Ob.tok l.length)]
                        (AL cx S8 n 73 0 8 18 (inK cx S8 n 73 0 8 k (AK cx S8 n 73 0 8 (EK cx 73 0))))
                    else
                      must (decide (s.length ≤ big) && (decide (0 ≤ i) && decide (i < (↑s.length : Int))))
                        (bif decide (IntKind.i64.wrap (i + Sp.signAt s i) = i) then
                          some
                            (Out.ret
                                (V.tup
                                  [V.d (D.sl 3 []), V.d (D.int IntKind.i64 i), V.d (D.int IntKind.i64 (61 : Int))]),
                              [])
                        else
                          must
                            (decide (0 ≤ IntKind.i64.wrap (i + Sp.signAt s i)) &&
                              decide (IntKind.i64.wrap (i + Sp.signAt s i) ≤ (↑s.length : Int)))
                            (must (decide (0 ≤ i) && decide (i ≤ (↑(IntKind.i64.wrap (i + Sp.signAt s i)).toNat : Int)))
                              (must
                                (decide (l.length = l.length) &&
                                  decide
                                    (l.length +
                                        [D.agg
                                              [D.int IntKind.i64 (2 : Int),
                                                D.str
                                                  (List.drop i.toNat
                                                    (List.take (IntKind.i64.wrap (i + Sp.signAt s i)).toNat s)),
                                                D.int IntKind.i64 i]].length ≤
                                      4294967296))
                                (LP cx S8 n 73 0 8 k
                                  [(0, V.d (D.str s)),
                                    (6,
                                      V.sl 3
                                        (l ++
                                          [D.agg
                                              [D.int IntKind.i64 (2 : Int),
                                                D.str
                                                  (List.drop i.toNat
                                                    (List.take (IntKind.i64.wrap (i + Sp.signAt s i)).toNat s)),
                                                D.int IntKind.i64 i]])
                                        6),
                                    (7, V.d (D.int IntKind.i64 (IntKind.i64.wrap (i + Sp.signAt s i))))]
                                  [(6,
                                      Ob.tok
                                        (l.length +
                                          [D.agg
                                                [D.int IntKind.i64 (2 : Int),
                                                  D.str
                                                    (List.drop i.toNat
                                                      (List.take (IntKind.i64.wrap (i + Sp.signAt s i)).toNat s)),
                                                  D.int IntKind.i64 i]].length))]
                                  (AK cx S8 n 73 0 8 (EK cx 73 0)))))))

theorem l8r (n k : Nat) (s : List UInt8) (i : Int) (l : List D) :
    LP cx S8 n 73 0 8 (k+1) [(0, .d (.str s)), (6, .sl 3 l 6), (7, .d (.int .i64 i))] [(6, .tok l.length)] (AK cx S8 n 73 0 8 (EK cx 73 0)) =
  bif decide (i < (↑s.length : Int)) then
    must (decide (0 ≤ i) && decide (i < (↑s.length : Int)))
      (optK s[i.toNat]? fun b =>
        bif Sp.blank (↑b.toNat : Int) then
          LP cx S8 n 73 0 8 k
            [(0, V.d (D.str s)), (6, V.sl 3 l 6), (7, V.d (D.int IntKind.i64 (IntKind.i64.wrap (i + (1 : Int)))))]
            [(6, Ob.tok l.length)] (AK cx S8 n 73 0 8 (EK cx 73 0))
        else
          must (decide (0 ≤ i) && decide (i < (↑s.length : Int)))
            (optK s[i.toNat]? fun b =>
              bif decide ((↑b.toNat : Int) = (45 : Int)) then
                bif decide (IntKind.i64.wrap (i + (1 : Int)) < (↑s.length : Int)) then
                  must
                    (decide (0 ≤ IntKind.i64.wrap (i + (1 : Int))) &&
                      decide (IntKind.i64.wrap (i + (1 : Int)) < (↑s.length : Int)))
                    (optK s[(IntKind.i64.wrap (i + (1 : Int))).toNat]? fun b =>
                      bif decide ((↑b.toNat : Int) = (45 : Int)) then
                        LP cx S8 n 73 0 12 n [(0, V.d (D.str s)), (6, V.sl 3 l 6), (7, V.d (D.int IntKind.i64 i))]
                          [(6, Ob.tok l.length)]
                          (AL cx S8 n 73 0 8 12 (inK cx S8 n 73 0 8 k (AK cx S8 n 73 0 8 (EK cx 73 0))))
                      else R8 n k s i l)
                else R8 n k s i l
              else R8 n k s i l))
  else
    must
      (decide (l.length = l.length) &&
        decide
          (l.length + [D.agg [D.int IntKind.i64 (0 : Int), D.str [], D.int IntKind.i64 (↑s.length : Int)]].length ≤
            4294967296))
      (some
        (Out.ret
            (V.tup
              [V.d
                  (D.sl 3
                    (l ++ [D.agg [D.int IntKind.i64 (0 : Int), D.str [], D.int IntKind.i64 (↑s.length : Int)]])),
                V.d (D.int IntKind.i64 (0 : Int)), V.d (D.int IntKind.i64 (0 : Int))]),
          [])) := l8 n k s i l

/-- A token, or none. -/
theorem r8 {s : List UInt8} (hs : s.length ≤ 65536) {n k j : Nat} (hn : s.length < n) {l : List D} (hl : l.length ≤ 65536) {b : UInt8} {r : List UInt8} (hd : s.drop j = b :: r) :
    R8 n k s (j : Int) l = bif decide ((Sp.one (s.drop j)).2 = []) then scanResP ([], j, 61) else L8 n k s (j + (Sp.one (s.drop j)).2.length) (l ++ [tokD (Sp.one (s.drop j)).1 (Sp.one (s.drop j)).2 (j : Int)]) := by
  obtain ⟨h1, h2, h3⟩ := drop_cons hd
  have hlen : (b :: r).length = s.length - j := by rw [← hd]; simp
  unfold R8
  simp only [decide_eq_true (p := (j : Int) < (s.length : Int)) (by omega), decide_eq_true (p := (0 : Int) ≤ (j : Int)) (by omega), cond_true, Bool.and_self, must, Int.toNat_natCast, h2, optK]
  rw [hd]
  cases hb : Sp.letter (b.toNat : Int)
  · have hnl : Sp.nameLen (b :: r) = 0 := by simp only [Sp.nameLen, Sp.nameGo, hb]; rfl
    have hone : Sp.one (b :: r) = Sp.signGo (b :: r) Sp.signs := by unfold Sp.one; rw [hnl]; rfl
    have hpre := one_pre (b :: r)
    have hle := one_le (b :: r)
    have hk := signGo_kind (b :: r) Sp.signs
    have hsg : Sp.signAt s (j : Int) = ((Sp.one (b :: r)).2.length : Int) := by unfold Sp.signAt; rw [Int.toNat_natCast, hd, hone]
    rw [← hone] at hk
    generalize Sp.one (b :: r) = o at hpre hle hk hsg hone ⊢
    simp only [cond_false, hsg, decide_eq_true (p := s.length ≤ big) (by simp [big]; omega), decide_eq_true (p := (j : Int) ≤ (s.length : Int)) (by omega), cond_true, Bool.and_self]
    rw [wrapN (x := (j : Int) + (o.2.length : Int)) (by omega) (by omega), show (j : Int) + (o.2.length : Int) = ((j + o.2.length : Nat) : Int) by omega]
    simp only [Int.toNat_natCast]
    by_cases ho : o.2 = []
    · rw [decide_eq_true ho, decide_eq_true (p := ((j + o.2.length : Nat) : Int) = (j : Int)) (by rw [ho]; rfl)]; rfl
    · have hpos : 0 < o.2.length := List.length_pos_iff.2 ho
      have hk2 : o.1 = 2 := hk.resolve_left ho
      rw [decide_eq_false ho, decide_eq_false (p := ((j + o.2.length : Nat) : Int) = (j : Int)) (by omega), List.drop_take, show j + o.2.length - j = o.2.length by omega, hd, ← hpre, hk2]
      simp only [decide_eq_true (p := (0 : Int) ≤ ((j + o.2.length : Nat) : Int)) (by omega), decide_eq_true (p := ((j + o.2.length : Nat) : Int) ≤ (s.length : Int)) (by omega), decide_eq_true (p := (j : Int) ≤ ((j + o.2.length : Nat) : Int)) (by omega),
        cond_true, cond_false, Bool.and_self, List.length_singleton, decide_eq_true (p := l.length + 1 ≤ 4294967296) (by omega)]
      unfold L8
      rw [List.length_append]
      rfl
  · have hnl : Sp.nameLen (b :: r) = Sp.nameGo r 1 := by simp only [Sp.nameLen, Sp.nameGo, hb, Bool.true_or, cond_true, Nat.zero_add]
    have hge := nameGo_ge r 1
    have hle := nameLen_le (b :: r)
    have hone : Sp.one (b :: r) = (1, (b :: r).take (Sp.nameLen (b :: r))) := by unfold Sp.one; rw [decide_eq_true (by omega)]; rfl
    have hl1 : ((b :: r).take (Sp.nameLen (b :: r))).length = Sp.nameLen (b :: r) := by rw [List.length_take]; omega
    obtain ⟨n', hn'⟩ : ∃ i, n = i + 1 := ⟨n - 1, by omega⟩
    have st := l8_name hs n k j hl r (j + 1) n' h3 (by omega) h1 (by simp at hlen; omega)
    rw [show j + 1 - j = 1 by omega, hd, ← hnl] at st
    rw [cond_true, hone]
    simp only []
    rw [hl1, decide_eq_false (p := (b :: r).take (Sp.nameLen (b :: r)) = []) (by intro h; rw [h] at hl1; simp at hl1; omega), cond_false, ← st]
    conv => lhs; arg 7; rw [hn']
    rw [l8n]
    simp only [decide_eq_true (p := (j : Int) < (s.length : Int)) (by omega), decide_eq_true (p := (0 : Int) ≤ (j : Int)) (by omega), cond_true, Bool.and_self, must, Int.toNat_natCast, h2, optK, hb]
    rw [wrap1 (by omega)]

theorem ref_loop {s : List UInt8} (hs : s.length ≤ 65536) {n : Nat} (hn : s.length < n) : ∀ (N j k f : Nat) (l : List D), s.length - j ≤ N → s.length - j < f → s.length - j < k → j ≤ s.length → l.length + (s.length - j) ≤ 65536 →
    L8 n k s j l = scanResP (Sp.toks f s (Sp.past s j) l) := by
  intro N
  induction N with
  | zero =>
    intro j k f l hN hf hk hj hl
    obtain ⟨k, rfl⟩ : ∃ i, k = i + 1 := ⟨k - 1, by omega⟩
    obtain ⟨f, rfl⟩ : ∃ i, f = i + 1 := ⟨f - 1, by omega⟩
    have hb := past_bounds (s := s) hj
    have hll : decide (l.length = l.length) = true := decide_eq_true rfl
    unfold L8
    rw [l8r]
    simp only [decide_eq_false (p := (j : Int) < (s.length : Int)) (by omega), cond_false, Sp.toks, decide_eq_false (p := Sp.past s j < s.length) (by omega), hll, Bool.true_and, must, List.length_singleton, decide_eq_true (p := l.length + 1 ≤ 4294967296) (by omega), cond_true]
    rfl
  | succ N ih =>
    intro j k f l hN hf hk hj hl
    by_cases hlt : s.length - j ≤ N
    · exact ih j k f l hlt hf hk hj hl
    obtain ⟨k, rfl⟩ : ∃ i, k = i + 1 := ⟨k - 1, by omega⟩
    cases hd : s.drop j with
    | nil => have := drop_nil hd; omega
    | cons b r =>
      obtain ⟨h1, h2, h3⟩ := drop_cons hd
      have hlen : (b :: r).length = s.length - j := by rw [← hd]; simp
      unfold L8
      rw [l8r]
      simp only [decide_eq_true (p := (j : Int) < (s.length : Int)) (by omega), decide_eq_true (p := (0 : Int) ≤ (j : Int)) (by omega), cond_true, Bool.and_self, must, Int.toNat_natCast, h2, optK]
      rw [wrap1 (by omega)]
      cases hb : Sp.blank (b.toNat : Int)
      · -- a token, or a comment
        have tok : ∀ (hp : Sp.past s j = j), R8 n k s (j : Int) l = scanResP (Sp.toks f s (Sp.past s j) l) := by
          intro hp
          obtain ⟨f, rfl⟩ : ∃ i, f = i + 1 := ⟨f - 1, by omega⟩
          rw [r8 hs hn (by omega) hd, hp, Sp.toks, decide_eq_true h1, cond_true]
          have hle := one_le (s.drop j)
          rw [List.length_drop] at hle
          by_cases ho : (Sp.one (s.drop j)).2 = []
          · rw [decide_eq_true ho]; rfl
          · have hpos : 0 < (Sp.one (s.drop j)).2.length := List.length_pos_iff.2 ho
            rw [decide_eq_false ho, cond_false, cond_false]
            exact ih _ k f _ (by omega) (by omega) (by omega) (by omega) (by simp; omega)
        have hpast : Sp.past s j = bif decide ((b.toNat : Int) = 45) && Sp.hasPre (b :: r) [45, 45] then Sp.pastGo true r (j + 1) else j := by
          unfold Sp.past; rw [hd, Sp.pastGo, hb]; rfl
        simp only [cond_false]
        by_cases h45 : (b.toNat : Int) = 45
        · rw [decide_eq_true h45, Bool.true_and] at hpast
          have hb45 : b = 45 := UInt8.toNat_inj.1 (by simp; omega)
          rw [decide_eq_true h45, cond_true]
          cases r with
          | nil =>
            rw [decide_eq_false (p := ((j + 1 : Nat) : Int) < (s.length : Int)) (by simp at hlen; omega), cond_false]
            refine tok (hpast.trans ?_)
            rw [show Sp.hasPre [b] [45, 45] = false by simp [Sp.hasPre]]; rfl
          | cons c r =>
            obtain ⟨h4, h5, h6⟩ := drop_cons h3
            simp only [decide_eq_true (p := ((j + 1 : Nat) : Int) < (s.length : Int)) (by omega), decide_eq_true (p := (0 : Int) ≤ ((j + 1 : Nat) : Int)) (by omega), cond_true, Bool.and_self, Int.toNat_natCast, h5]
            by_cases hc : (c.toNat : Int) = 45
            · have hc45 : c = 45 := UInt8.toNat_inj.1 (by simp; omega)
              rw [show Sp.hasPre (b :: c :: r) [45, 45] = true by simp [Sp.hasPre, hb45, hc45], cond_true] at hpast
              rw [decide_eq_true hc, cond_true]
              obtain ⟨j', e1, e2, e3, e4, e5⟩ := l8_skip hs n k l (b :: c :: r) j n hd hj (by omega)
              rw [Sp.pastGo, decide_eq_false (by omega)] at e4
              have hjj := e5 b (c :: r) rfl (by omega)
              refine e1.trans ?_
              rw [hpast]
              refine (ih j' k f l (by omega) (by omega) (by omega) e3 (by omega)).trans ?_
              rw [← e4]; rfl
            · rw [decide_eq_false hc, cond_false]
              refine tok (hpast.trans ?_)
              rw [show Sp.hasPre (b :: c :: r) [45, 45] = false by
                simp only [Sp.hasPre, List.length_cons, List.length_nil, List.take]; exact decide_eq_false fun h => by simp at h; exact hc (by rw [h.2]; rfl)]
              rfl
        · rw [decide_eq_false h45, Bool.false_and] at hpast
          rw [decide_eq_false h45, cond_false]
          exact tok hpast
      · have hpast : Sp.past s j = Sp.past s (j + 1) := by
          unfold Sp.past; rw [hd, Sp.pastGo, hb, h3]; rfl
        rw [cond_true, hpast]
        exact ih (j + 1) k f l (by omega) (by omega) (by omega) h1 (by omega)

theorem lim8 (s : List UInt8) (hb : s.length ≤ big) : evLim cx 73 [.d (.str s)] [] = scanResP (Sp.scan s) := by
  unfold Sp.scan
  refine lim_body (N := s.length + 1) S8_knows ?_
  rw [b8]
  by_cases h : 65536 < s.length
  · rw [decide_eq_true h, cond_true, decide_eq_true (p := (65536 : Int) < (s.length : Int)) (by omega)]
    rfl
  · rw [decide_eq_false h, cond_false, decide_eq_false (p := (65536 : Int) < (s.length : Int)) (by omega), decide_eq_true hb]
    simp only [cond_false, must, cond_true]
    unfold Sp.utfR
    cases Sp.utfGo s.length s 0 with
    | none =>
      have hr := ref_loop (s := s) (by omega) (n := s.length + 1) (by omega) s.length 0 (s.length + 1) (s.length + 1) [] (by omega) (by omega) (by omega) (by omega) (by simp; omega)
      simp only [decide_eq_false (p := (0 : Int) ≤ -1) (by omega), cond_false]
      exact hr
    | some p =>
      simp only [decide_eq_true (p := (0 : Int) ≤ (p : Int)) (by omega)]
      rw [cond_true]

end Go.Vai
end

section
namespace Go.Vai
open Go.Proofs

inductive T where
  | mk (k : Int) (nm : List UInt8) (kids : List T) (nms : List (List UInt8)) (pl : Int)
def T.k : T → Int | .mk k _ _ _ _ => k
def T.nm : T → List UInt8 | .mk _ n _ _ _ => n
def T.kids : T → List T | .mk _ _ l _ _ => l
def T.nms : T → List (List UInt8) | .mk _ _ _ l _ => l
def T.pl : T → Int | .mk _ _ _ _ a => a
instance : Inhabited T := ⟨.mk 0 [] [] [] 0⟩

mutual
def T.d : T → D
  | .mk k nm kids nms pl => .agg [.int .i64 k, .str nm, .sl 5 (T.ds kids), .sl 1 (nms.map .str), .int .i64 pl]
def T.ds : List T → List D
  | [] => []
  | t :: l => t.d :: T.ds l
end
mutual
def T.depth : T → Nat | .mk _ _ kids _ _ => T.depths kids + 1
def T.depths : List T → Nat | [] => 0 | t :: l => max t.depth (T.depths l)
end

theorem ds_map (l : List T) : T.ds l = l.map T.d := by
  induction l with
  | nil => rfl
  | cons t l ih => simp only [T.ds, ih, List.map_cons]
theorem ds_len (l : List T) : (T.ds l).length = l.length := by rw [ds_map, List.length_map]
theorem depth_mem {t : T} : ∀ {l : List T}, t ∈ l → t.depth ≤ T.depths l
  | u :: l, h => by
    simp only [T.depths]
    cases h with
    | head => omega
    | tail _ h => have := depth_mem h; omega

/-- Strings' cells. -/
def strs : List D → Option (List (List UInt8))
  | [] => some []
  | .str s :: r => (match strs r with | some l => some (s :: l) | none => none)
  | _ :: _ => none
theorem strs_map (l : List (List UInt8)) : strs (l.map .str) = some l := by
  induction l with
  | nil => rfl
  | cons s l ih => simp only [List.map_cons, strs, ih]
theorem strs_some : ∀ {l : List D} {m}, strs l = some m → l = m.map .str
  | [], m, h => by cases h; rfl
  | x :: r, m, h => by
    unfold strs at h
    split at h
    · rename_i he; cases he
    · rename_i s q he
      cases he
      split at h
      · rename_i l hl; cases h; rw [strs_some hl]; rfl
      · cases h
    · cases h

def shrt {α : Type} (l : List α) : Bool := decide (l.length < 4294967296)
def toL (f : D → Option T) : List D → Option (List T)
  | [] => some []
  | x :: r => (match f x, toL f r with | some t, some l => some (t :: l) | _, _ => none)
/-- A tree, to some depth, each list in it shrt. -/
def Sp.toT : Nat → D → Option T
  | 0, _ => none
  | n + 1, .agg [.int .i64 k, .str nm, .sl 5 l, .sl 1 ns, .int .i64 pl] =>
    bif shrt nm && shrt l && shrt ns then (match toL (Sp.toT n) l, strs ns with | some kids, some nms => bif nms.all shrt then some (.mk k nm kids nms pl) else none | _, _ => none) else none
  | _, _ => none

theorem toL_some {f : D → Option T} : ∀ {l : List D} {m}, toL f l = some m → l.length = m.length ∧ ∀ (i : Nat) x t, l[i]? = some x → m[i]? = some t → f x = some t
  | [], m, h => by cases h; exact ⟨rfl, fun i x t h => by simp at h⟩
  | x :: r, m, h => by
    unfold toL at h
    split at h
    · rename_i t l ht hl
      cases h
      obtain ⟨h1, h2⟩ := toL_some hl
      refine ⟨by simp [h1], fun i y u hy hu => ?_⟩
      cases i with
      | zero => simp at hy hu; subst hy; subst hu; exact ht
      | succ i => exact h2 i y u (by simpa using hy) (by simpa using hu)
    · cases h

mutual
/-- Each list shrt. -/
def T.ok : T → Bool
  | .mk _ nm kids nms _ => shrt nm && shrt kids && shrt nms && nms.all shrt && T.oks kids
def T.oks : List T → Bool
  | [] => true
  | t :: l => t.ok && T.oks l
end
theorem oks_mem {t : T} : ∀ {l : List T}, T.oks l = true → t ∈ l → t.ok = true
  | u :: l, h, hm => by
    simp only [T.oks, Bool.and_eq_true] at h
    cases hm with
    | head => exact h.1
    | tail _ hm => exact oks_mem h.2 hm

theorem toT_some : ∀ {n : Nat} {x : D} {t : T}, Sp.toT n x = some t → x = t.d ∧ t.depth ≤ n ∧ t.ok = true
  | 0, x, t, h => by cases h
  | n + 1, x, t, h => by
    unfold Sp.toT at h
    split at h
    · rename_i he; cases he
    · rename_i m k nm l ns pl he
      cases he
      cases hc : (shrt nm && shrt l && shrt ns)
      · rw [hc] at h; cases h
      · rw [hc, cond_true] at h
        split at h
        · rename_i kids nms hk hn
          cases hs : nms.all shrt
          · rw [hs] at h; cases h
          · rw [hs, cond_true] at h
            cases h
            obtain ⟨h1, h2⟩ := toL_some hk
            simp only [Bool.and_eq_true] at hc
            have key : ∀ (l : List D) (m : List T), l.length = m.length → (∀ (i : Nat) x t, l[i]? = some x → m[i]? = some t → Sp.toT n x = some t) → l = T.ds m ∧ T.depths m ≤ n ∧ T.oks m = true := by
              intro l
              induction l with
              | nil => intro m hl _; cases m with | nil => exact ⟨rfl, by simp [T.depths], rfl⟩ | cons => simp at hl
              | cons x r ih =>
                intro m hl hx
                cases m with
                | nil => simp at hl
                | cons t m =>
                  obtain ⟨a1, a2, a3⟩ := toT_some (hx 0 x t rfl rfl)
                  obtain ⟨b1, b2, b3⟩ := ih m (by simpa using hl) fun i y u hy hu => hx (i + 1) y u (by simpa using hy) (by simpa using hu)
                  exact ⟨by rw [a1, b1]; rfl, by simp only [T.depths]; omega, by simp only [T.oks, a3, b3]; rfl⟩
            obtain ⟨c1, c2, c3⟩ := key l kids h1 h2
            refine ⟨by rw [c1, strs_some hn]; rfl, by simp only [T.depth]; omega, ?_⟩
            simp only [T.ok, hc.1.1, hs, c3, Bool.and_true, Bool.true_and, Bool.and_eq_true]
            refine ⟨?_, ?_⟩
            · have := hc.1.2; unfold shrt at this ⊢; rwa [h1] at this
            · have := hc.2; unfold shrt at this ⊢; rwa [strs_some hn, List.length_map] at this
        · cases h
    · cases h

theorem toT_d : ∀ {n : Nat} {t : T}, t.depth ≤ n → t.ok = true → Sp.toT n t.d = some t
  | 0, .mk .., h, _ => by simp [T.depth] at h
  | n + 1, .mk k nm kids nms pl, h, hok => by
    simp only [T.ok, Bool.and_eq_true] at hok
    have key : ∀ m : List T, T.depths m ≤ n → T.oks m = true → toL (Sp.toT n) (T.ds m) = some m := by
      intro m
      induction m with
      | nil => intro _ _; rfl
      | cons t m ih =>
        intro hd ho
        simp only [T.depths] at hd
        simp only [T.oks, Bool.and_eq_true] at ho
        simp only [T.ds, toL, toT_d (n := n) (t := t) (by omega) ho.1, ih (by omega) ho.2]
    simp only [T.depth] at h
    simp only [T.d, Sp.toT, strs_map, key kids (by omega) hok.2]
    have e1 : shrt (T.ds kids) = true := by have := hok.1.1.1.2; unfold shrt at this ⊢; rwa [ds_len]
    have e2 : shrt (nms.map D.str) = true := by have := hok.1.1.2; unfold shrt at this ⊢; rwa [List.length_map]
    rw [hok.1.1.1.1, e1, e2, hok.1.2]
    rfl

theorem nthD_ds {R : Type} {l : List T} {i : Nat} {K : D → Option R} : nthD (T.ds l) i K = optK l[i]? fun t => K t.d := by
  unfold nthD
  rw [ds_map, List.getElem?_map]
  cases l[i]? <;> rfl
theorem cells_d (t : T) : t.d.cells = [.int .i64 t.k, .str t.nm, .sl 5 (T.ds t.kids), .sl 1 (t.nms.map .str), .int .i64 t.pl] := by cases t; rfl
theorem agg_d (t : T) : D.agg [.int .i64 t.k, .str t.nm, .sl 5 (T.ds t.kids), .sl 1 (t.nms.map .str), .int .i64 t.pl] = t.d := by cases t; rfl
theorem k_mk {k nm kids nms pl} : (T.mk k nm kids nms pl).k = k := rfl
theorem nm_mk {k nm kids nms pl} : (T.mk k nm kids nms pl).nm = nm := rfl
theorem kids_mk {k nm kids nms pl} : (T.mk k nm kids nms pl).kids = kids := rfl
theorem nms_mk {k nm kids nms pl} : (T.mk k nm kids nms pl).nms = nms := rfl
theorem pl_mk {k nm kids nms pl} : (T.mk k nm kids nms pl).pl = pl := rfl
theorem nth0 {R : Type} {a : D} {l : List D} {K : D → Option R} : nthD (a :: l) 0 K = K a := rfl
theorem nth1 {R : Type} {a b : D} {l : List D} {K : D → Option R} : nthD (a :: b :: l) 1 K = K b := rfl
theorem nth2 {R : Type} {a b c : D} {l : List D} {K : D → Option R} : nthD (a :: b :: c :: l) 2 K = K c := rfl
theorem nth3 {R : Type} {a b c d : D} {l : List D} {K : D → Option R} : nthD (a :: b :: c :: d :: l) 3 K = K d := rfl
theorem nth4 {R : Type} {a b c d e : D} {l : List D} {K : D → Option R} : nthD (a :: b :: c :: d :: e :: l) 4 K = K e := rfl
theorem len_d (t : T) : t.d.cells.length = 5 := by cases t; rfl
theorem nthD_strs {R : Type} {l : List (List UInt8)} {i : Nat} {K : D → Option R} : nthD (l.map D.str) i K = optK l[i]? fun t => K (.str t) := by
  unfold nthD
  rw [List.getElem?_map]
  cases l[i]? <;> rfl

/-- A caller that answers, without memory, by a plain function. -/
def pureK {α β : Type} (f : Nat) (dec : List V → Option α) (sp : α → Option β) (mk : β → V) (S : CK R1) : CK R1 where
  S := fun g args σ => bif Nat.beq g f && σ.isEmpty then optK (dec args) fun q => optK (sp q) fun b => some (.ret (mk b), []) else S.S g args σ
  run := fun g args σ K => bif Nat.beq g f && σ.isEmpty then optK (dec args) fun q => optK (sp q) fun b => K (.ret (mk b)) [] else S.run g args σ K
  ok := fun g a σ K => by
    show _ = optP _ K
    rw [optP_cond, optP_optK]
    cases Nat.beq g f && σ.isEmpty
    · exact S.ok g a σ K
    · simp only [cond_true, optP_optK]
      rfl
theorem pureK_knows {α β : Type} {f : Nat} {dec : List V → Option α} {sp : α → Option β} {mk : β → V} {S : CK R1} (hS : knows cx S.S (evLim cx))
    (hf : ∀ a q b, cx.dom f a = true → dec a = some q → sp q = some b → evLim cx f a [] = some (.ret (mk b), [])) : knows cx (pureK f dec sp mk S).S (evLim cx) := by
  intro g args σ r hd h
  simp only [pureK] at h
  cases hg : (Nat.beq g f && σ.isEmpty) <;> rw [hg] at h
  · exact hS g args σ r hd h
  · rw [Bool.and_eq_true] at hg
    obtain rfl := Nat.eq_of_beq_eq_true hg.1
    obtain rfl := List.isEmpty_iff.1 hg.2
    simp only [cond_true] at h
    obtain ⟨q, hq, h⟩ := optK_some h
    obtain ⟨b, hb, h⟩ := optK_some h
    cases h
    exact hf args q b hd hq hb

noncomputable def K13 : CK R1 := more 13 dec13 go13 go13_ok (CK.plain none1)
theorem K13_knows : knows cx K13.S (evLim cx) := more_knows none1K_knows lim13'
def mkScan (s : List UInt8) : V := .tup [.d (.sl 3 (Sp.scL s)), .d (.int .i64 (Sp.scA s)), .d (.int .i64 (Sp.scE s))]

def mkB (b : Bool) : V := .d (.bool b)
def mkI (i : Int) : V := .d (.int .i64 i)
def mkS (s : List UInt8) : V := .d (.str s)
def decStr : List V → Option (List UInt8) | [.d (.str s)] => some s | _ => none
def decTree (n : Nat) : List V → Option T | [.d x] => Sp.toT n x | _ => none
noncomputable def K73 : CK R1 := pureK 73 decStr some mkScan (CK.plain none1)
theorem decStr_some {a : List V} {s} (h : decStr a = some s) : a = [.d (.str s)] := by
  unfold decStr at h; split at h <;> cases h; rfl
theorem K73_knows : knows cx K73.S (evLim cx) := pureK_knows none1K_knows fun a q b hd h hb => by
  cases hb
  obtain rfl := decStr_some h
  exact lim8 q (of_decide_eq_true hd)
theorem decTree_some {n : Nat} {a : List V} {t : T} (h : decTree n a = some t) : a = [.d t.d] ∧ t.depth ≤ n ∧ t.ok = true := by
  unfold decTree at h
  split at h
  · obtain ⟨rfl, h2⟩ := toT_some h; exact ⟨rfl, h2⟩
  · cases h
end Go.Vai
end

section
namespace Go.Vai
open Go.Proofs

theorem g36 (n : Nat) (s : List UInt8) :
    evBody cx K13 n 36 [.d (.str s)] [] =
  must (decide (s.length ≤ big))
    (bif decide (Sp.scE s = 0) then
      bif decide ((↑(Sp.scL s).length : Int) = (2 : Int)) then
        must (decide ((0 : Int) < (↑(Sp.scL s).length : Int)))
          (nthD (Sp.scL s) (0 : Int).toNat fun y =>
            nthD y.cells 0 fun c =>
              match c with
              | D.int k' n =>
                bif decide (k' = IntKind.i64) then
                  bif decide (n = (1 : Int)) then
                    must (decide ((0 : Int) < (↑(Sp.scL s).length : Int)))
                      (nthD (Sp.scL s) (0 : Int).toNat fun y =>
                        nthD y.cells 1 fun c =>
                          match c with
                          | D.str s_1 => some (Out.ret (V.d (D.bool (decide (s_1 = s)))), [])
                          | x => none)
                  else some (Out.ret (V.d (D.bool false)), [])
                else none
              | x => none)
      else some (Out.ret (V.d (D.bool false)), [])
    else
      bif decide (Sp.scE s = (0 : Int)) then some (Out.ret (V.d (D.bool false)), [])
      else some (Out.ret (V.d (D.bool false)), [])) := by kernel_rfl

theorem g41 (n : Nat) (s : List UInt8) :
    evBody cx K73 n 41 [.d (.str s)] [] =
  must (decide (s.length ≤ big))
    (bif decide (Sp.scE s = (0 : Int)) then
      bif decide ((↑(Sp.scL s).length : Int) = (2 : Int)) then
        must (decide ((0 : Int) < (↑(Sp.scL s).length : Int)))
          (nthD (Sp.scL s) (0 : Int).toNat fun y =>
            nthD y.cells 0 fun c =>
              match c with
              | D.int k' n =>
                bif decide (k' = IntKind.i64) then
                  bif decide (n = (1 : Int)) then
                    must (decide ((0 : Int) < (↑(Sp.scL s).length : Int)))
                      (nthD (Sp.scL s) (0 : Int).toNat fun y =>
                        nthD y.cells 1 fun c =>
                          match c with
                          | D.str s_1 => some (Out.ret (V.d (D.bool (decide (s_1 = s)))), [])
                          | x => none)
                  else some (Out.ret (V.d (D.bool false)), [])
                else none
              | x => none)
      else some (Out.ret (V.d (D.bool false)), [])
    else some (Out.ret (V.d (D.bool false)), [])) := by kernel_rfl

/-- Is a text a name? -/
def Sp.isName (s : List UInt8) : D → Bool | .agg [.int .i64 k, .str t, .int .i64 _] => decide (k = 1) && decide (t = s) | _ => false
def Sp.named (s : List UInt8) : Bool := decide (Sp.scE s = 0) && (match Sp.scL s with | [x, _] => Sp.isName s x | _ => false)

theorem scL_two {s : List UInt8} (h : Sp.scE s = 0) (h2 : (Sp.scL s).length = 2) : ∃ k t a y, Sp.scL s = [tokD k t a, y] := by
  rcases scan_says s with ⟨_, _, l, hl, hc⟩ | ⟨h1, _⟩
  · have e : Sp.scL s = l := by unfold Sp.scL; rw [hl]
    rw [e] at h2 ⊢
    cases hc with
    | fin _ _ => simp at h2
    | tok _ _ _ _ _ h =>
      cases h with
      | fin _ _ => exact ⟨_, _, _, _, rfl⟩
      | tok _ _ _ _ _ h => have := h.ne; simp only [List.length_cons] at h2; omega
  · exact absurd h h1

theorem named_ne {s : List UInt8} (h2 : (Sp.scL s).length ≠ 2) : Sp.named s = false := by
  unfold Sp.named
  split
  · rename_i x y h; rw [h] at h2; simp at h2
  · simp

theorem lim36 (s : List UInt8) (hs : s.length ≤ big) : evLim cx 36 [.d (.str s)] [] = some (.ret (.d (.bool (Sp.named s))), []) := by
  refine lim_bodyK K13_knows (N := 0) ?_
  rw [g36, decide_eq_true hs]
  by_cases h : Sp.scE s = 0
  · rw [decide_eq_true h]
    by_cases h2 : (Sp.scL s).length = 2
    · obtain ⟨k, t, a, y, hl⟩ := scL_two h h2
      have e : Sp.named s = (decide (k = 1) && decide (t = s)) := by unfold Sp.named; rw [h, hl]; rfl
      rw [e, hl]
      show (bif decide (k = 1) then _ else _) = _
      cases decide (k = 1) <;> rfl
    · rw [named_ne h2, decide_eq_false (p := ((Sp.scL s).length : Int) = 2) (by omega)]
      rfl
  · have e : Sp.named s = false := by unfold Sp.named; rw [decide_eq_false h]; rfl
    rw [decide_eq_false h, e]
    rfl

theorem lim41 (s : List UInt8) (hs : s.length ≤ big) : evLim cx 41 [.d (.str s)] [] = some (.ret (.d (.bool (Sp.named s))), []) := by
  refine lim_bodyK K73_knows (N := 0) ?_
  rw [g41, decide_eq_true hs]
  by_cases h : Sp.scE s = 0
  · rw [decide_eq_true h]
    by_cases h2 : (Sp.scL s).length = 2
    · obtain ⟨k, t, a, y, hl⟩ := scL_two h h2
      have e : Sp.named s = (decide (k = 1) && decide (t = s)) := by unfold Sp.named; rw [h, hl]; rfl
      rw [e, hl]
      show (bif decide (k = 1) then _ else _) = _
      cases decide (k = 1) <;> rfl
    · rw [named_ne h2, decide_eq_false (p := ((Sp.scL s).length : Int) = 2) (by omega)]
      rfl
  · have e : Sp.named s = false := by unfold Sp.named; rw [decide_eq_false h]; rfl
    rw [decide_eq_false h, e]
    rfl

noncomputable def K1 : CK R1 := pureK 36 decStr (fun s => some (Sp.named s)) mkB (pureK 85 decStr (fun s => some (!Sp.named s)) mkB (pureK 41 decStr (fun s => some (Sp.named s)) mkB (CK.plain none1)))

theorem g85 (n : Nat) (s : List UInt8) :
    evBody cx (pureK 36 decStr (fun s => some (Sp.named s)) mkB (CK.plain none1)) n 85 [.d (.str s)] [] =
  must (decide (s.length ≤ big)) (some (Out.ret (V.d (D.bool (!Sp.named s))), [])) := by kernel_rfl

theorem K1_knows : knows cx K1.S (evLim cx) := by
  have h0 : knows cx (CK.plain (R := R1) none1).S (evLim cx) := none1K_knows
  have h41 := pureK_knows (f := 41) (dec := decStr) (sp := fun s => some (Sp.named s)) (mk := mkB) h0 fun a q b hd h hb => by
    cases hb; obtain rfl := decStr_some h; exact lim41 q (of_decide_eq_true hd)
  have h36 := pureK_knows (f := 36) (dec := decStr) (sp := fun s => some (Sp.named s)) (mk := mkB) h0 fun a q b hd h hb => by
    cases hb; obtain rfl := decStr_some h; exact lim36 q (of_decide_eq_true hd)
  have h85 := pureK_knows (f := 85) (dec := decStr) (sp := fun s => some (!Sp.named s)) (mk := mkB) h41 fun a q b hd h hb => by
    cases hb; obtain rfl := decStr_some h
    refine lim_bodyK h36 (N := 0) ?_
    rw [g85, decide_eq_true (of_decide_eq_true hd)]
    rfl
  exact pureK_knows h85 fun a q b hd h hb => by
    cases hb; obtain rfl := decStr_some h; exact lim36 q (of_decide_eq_true hd)
end Go.Vai
end

section
namespace Go.Vai
open Go.Proofs

def Sp.findN {α : Type} (p : α → Bool) : List α → Nat → Option Nat
  | [], _ => none
  | x :: r, j => bif p x then some j else Sp.findN p r (j + 1)
def Sp.idx {α : Type} (p : α → Bool) (l : List α) : Int := match Sp.findN p l 0 with | some j => (j : Int) | none => -1
theorem findN_any {α : Type} {p : α → Bool} : ∀ (l : List α) (j : Nat), (Sp.findN p l j).isSome = l.any p
  | [], _ => rfl
  | x :: r, j => by
    simp only [Sp.findN, List.any_cons]
    cases p x
    · simp only [cond_false, Bool.false_or]; exact findN_any r (j + 1)
    · rfl
theorem idx_any {α : Type} {p : α → Bool} (l : List α) : decide ((0 : Int) ≤ Sp.idx p l) = l.any p := by
  rw [← findN_any l 0]
  unfold Sp.idx
  cases Sp.findN p l 0 with
  | none => rfl
  | some j => exact decide_eq_true (Int.natCast_nonneg j)

theorem lt_nat {j n : Nat} (h : j < n) : decide ((j : Int) < (n : Int)) = true := decide_eq_true (by omega)
theorem ge_nat {n : Nat} : decide ((n : Int) < (n : Int)) = false := decide_eq_false (by omega)
theorem nn_nat {j : Nat} : decide ((0 : Int) ≤ (j : Int)) = true := decide_eq_true (by omega)
theorem at_drop {α : Type} {l r : List α} {x : α} {j : Nat} (h : l.drop j = x :: r) : j < l.length ∧ l[j]? = some x ∧ l.drop (j + 1) = r := by
  have h1 : j < l.length := by
    by_cases h' : j < l.length
    · exact h'
    · rw [List.drop_eq_nil_of_le (by omega)] at h; cases h
  rw [List.drop_eq_getElem_cons h1] at h
  injection h with h2 h3
  exact ⟨h1, by rw [List.getElem?_eq_getElem h1, h2], h3⟩
theorem up_short {j n : Nat} (h : j < n) (hn : n < 4294967296) : IntKind.i64.wrap ((j : Int) + 1) = ((j + 1 : Nat) : Int) := by
  rw [IntWalk.i64_in _ (by omega)]; rfl

/-- A loop over a list that stops at the first one that is so. -/
theorem find_loop {R α : Type} (L : Nat → Int → Option R) (xs : List α) (p : α → Bool) (B : Nat → Option R) (E : Option R) (hs : xs.length < 4294967296)
    (H : ∀ (k j : Nat) x, j < xs.length → xs[j]? = some x → L (k + 1) j = bif p x then B j else L k (IntKind.i64.wrap ((j : Int) + 1))) (HE : ∀ k, L (k + 1) xs.length = E) :
    ∀ (r : List α) (j k : Nat), xs.drop j = r → j ≤ xs.length → r.length < k → L k j = match Sp.findN p r j with | some i => B i | none => E
  | [], j, k, hd, hj, hk => by
    obtain ⟨k, rfl⟩ : ∃ i, k = i + 1 := ⟨k - 1, by omega⟩
    have : xs.length ≤ j := by simpa using hd
    obtain rfl : j = xs.length := by omega
    exact HE k
  | x :: r, j, k, hd, hj, hk => by
    obtain ⟨k, rfl⟩ : ∃ i, k = i + 1 := ⟨k - 1, by omega⟩
    obtain ⟨h1, h2, h3⟩ := at_drop hd
    rw [H k j x h1 h2, Sp.findN]
    cases p x
    · rw [cond_false, cond_false, up_short h1 hs]
      exact find_loop L xs p B E hs H HE r (j + 1) k h3 h1 (by simp at hk; omega)
    · rfl

theorem find_loop0 {R α : Type} (L : Nat → Int → Option R) (xs : List α) (p : α → Bool) (B : Nat → Option R) (E : Option R) (hs : xs.length < 4294967296)
    (H : ∀ (k j : Nat) x, j < xs.length → xs[j]? = some x → L (k + 1) j = bif p x then B j else L k (IntKind.i64.wrap ((j : Int) + 1))) (HE : ∀ k, L (k + 1) xs.length = E) {k : Nat} (hk : xs.length < k) :
    L k 0 = match Sp.findN p xs 0 with | some i => B i | none => E := find_loop L xs p B E hs H HE xs 0 k rfl (Nat.zero_le _) hk

theorem shrt_lt {α : Type} {l : List α} (h : shrt l = true) : l.length < 4294967296 := of_decide_eq_true h
theorem shrt_big {s : List UInt8} (h : shrt s = true) : decide (s.length ≤ big) = true := decide_eq_true (by have := shrt_lt h; unfold big; omega)
theorem all_at {α : Type} {p : α → Bool} {l : List α} (h : l.all p = true) {j : Nat} {x : α} (hx : l[j]? = some x) : p x = true := List.all_eq_true.1 h x (List.mem_of_getElem? hx)

theorem g103 (n : Nat) (l : List (List UInt8)) :
    evBody cx K1 n 103 [.d (.sl 1 (l.map .str)), .func 85 []] [] =
  LP cx K1 n 103 0 2 n
    [(0, V.d (D.sl 1 (List.map D.str l))), (1, V.func 85 []),
      (7, V.d (D.int IntKind.i64 (↑(List.map D.str l).length : Int))), (8, V.d (D.int IntKind.i64 (0 : Int)))]
    [] (AK cx K1 n 103 0 2 (EK cx 103 0)) := by kernel_rfl

theorem l103 (n k : Nat) (l : List (List UInt8)) (i : Int) :
    LP cx K1 n 103 0 2 (k + 1) [(0, V.d (D.sl 1 (List.map D.str l))), (1, V.func 85 []), (7, V.d (D.int IntKind.i64 (l.length : Int))), (8, V.d (D.int IntKind.i64 i))] [] (AK cx K1 n 103 0 2 (EK cx 103 0)) =
  bif decide (i < (↑l.length : Int)) then
    must (decide (0 ≤ i) && decide (i < (↑(List.map D.str l).length : Int)))
      (nthD (List.map D.str l) i.toNat fun y =>
        nthD y.cells 0 fun c =>
          match c with
          | D.str s =>
            must (decide (s.length ≤ big))
              (bif !Sp.named s then some (Out.ret (V.d (D.int IntKind.i64 i)), [])
              else
                LP cx K1 n 103 0 2 k
                  [(0, V.d (D.sl 1 (List.map D.str l))), (1, V.func 85 []),
                    (7, V.d (D.int IntKind.i64 (↑l.length : Int))),
                    (8, V.d (D.int IntKind.i64 (IntKind.i64.wrap (i + (1 : Int)))))]
                  [] (AK cx K1 n 103 0 2 (EK cx 103 0)))
          | x => none)
  else some (Out.ret (V.d (D.int IntKind.i64 (Int.negSucc 0))), []) := by kernel_rfl

theorem g75 (n : Nat) (l : List (List UInt8)) :
    evBody cx K1 n 75 [.d (.sl 1 (l.map .str))] [] =
  LP cx K1 n 75 0 2 n [(0, V.d (D.sl 1 (List.map D.str l))), (3, V.d (D.int IntKind.i64 (0 : Int)))] []
    (AK cx K1 n 75 0 2 (EK cx 75 0)) := by kernel_rfl

theorem l75 (n k : Nat) (l : List (List UInt8)) (i : Int) :
    LP cx K1 n 75 0 2 (k + 1) [(0, V.d (D.sl 1 (List.map D.str l))), (3, V.d (D.int IntKind.i64 i))] [] (AK cx K1 n 75 0 2 (EK cx 75 0)) =
  bif decide (i < (↑(List.map D.str l).length : Int)) then
    must (decide (0 ≤ i) && decide (i < (↑(List.map D.str l).length : Int)))
      (nthD (List.map D.str l) i.toNat fun y =>
        nthD y.cells 0 fun c =>
          match c with
          | D.str s =>
            must (decide (s.length ≤ big))
              (bif !Sp.named s then some (Out.ret (V.d (D.bool false)), [])
              else
                LP cx K1 n 75 0 2 k
                  [(0, V.d (D.sl 1 (List.map D.str l))),
                    (3, V.d (D.int IntKind.i64 (IntKind.i64.wrap (i + (1 : Int)))))]
                  [] (AK cx K1 n 75 0 2 (EK cx 75 0)))
          | x => none)
  else some (Out.ret (V.d (D.bool true)), []) := by kernel_rfl

theorem lim103 (l : List (List UInt8)) (hl : shrt l = true) (ha : l.all shrt = true) : evLim cx 103 [.d (.sl 1 (l.map .str)), .func 85 []] [] = some (.ret (.d (.int .i64 (Sp.idx (fun s => !Sp.named s) l))), []) := by
  refine lim_bodyK K1_knows (N := l.length + 1) ?_
  rw [g103]
  have h := find_loop (fun k i => LP cx K1 (l.length + 1) 103 0 2 k [(0, V.d (D.sl 1 (List.map D.str l))), (1, V.func 85 []), (7, V.d (D.int IntKind.i64 (l.length : Int))), (8, V.d (D.int IntKind.i64 i))] [] (AK cx K1 (l.length + 1) 103 0 2 (EK cx 103 0)))
    l (fun s => !Sp.named s) (fun j => some (Out.ret (V.d (D.int IntKind.i64 j)), [])) (some (Out.ret (V.d (D.int IntKind.i64 (Int.negSucc 0))), [])) (shrt_lt hl)
    (fun k j x hj hx => by
      rw [l103, List.length_map, lt_nat hj, nn_nat, nthD_strs, Int.toNat_natCast, hx]
      simp only [cond_true, must, optK, Bool.and_self]
      show must (decide (x.length ≤ big)) _ = _
      rw [shrt_big (all_at ha hx)]
      rfl) (fun k => by rw [l103, ge_nat, cond_false]) l 0 (l.length + 1) rfl (Nat.zero_le _) (by omega)
  rw [List.length_map]
  refine h.trans ?_
  unfold Sp.idx
  cases Sp.findN (fun s => !Sp.named s) l 0 <;> rfl

def Sp.ns : D → Option (List (List UInt8)) | .sl 1 l => (match strs l with | some m => bif shrt m && m.all shrt then some m else none | none => none) | _ => none
def decD : List V → Option D | [.d x] => some x | _ => none
def decDF (c : Nat) : List V → Option D | [.d x, .func g []] => bif Nat.beq g c then some x else none | _ => none
theorem decD_some {a : List V} {x : D} (h : decD a = some x) : a = [.d x] := by
  unfold decD at h
  split at h
  · cases h; rfl
  · cases h
theorem decDF_some {a : List V} {c : Nat} {x : D} (h : decDF c a = some x) : a = [.d x, .func c []] := by
  unfold decDF at h
  split at h
  · rename_i x g
    cases hc : Nat.beq g c <;> rw [hc] at h
    · cases h
    · obtain rfl := Nat.eq_of_beq_eq_true hc
      cases h; rfl
  · cases h
theorem ns_some {x : D} {m} (h : Sp.ns x = some m) : x = .sl 1 (m.map .str) ∧ shrt m = true ∧ m.all shrt = true := by
  unfold Sp.ns at h
  split at h
  · split at h
    · rename_i m' hm
      cases hc : (shrt m' && m'.all shrt) <;> rw [hc] at h
      · cases h
      · cases h
        rw [Bool.and_eq_true] at hc
        exact ⟨by rw [strs_some hm], hc⟩
    · cases h
  · cases h
theorem ns_of {m : List (List UInt8)} (h1 : shrt m = true) (h2 : m.all shrt = true) : Sp.ns (.sl 1 (m.map .str)) = some m := by
  unfold Sp.ns
  simp only [strs_map, h1, h2]
  rfl
noncomputable def K2 : CK R1 := pureK 103 (decDF 85) Sp.ns (fun l => mkI (Sp.idx (fun s => !Sp.named s) l)) K1
theorem K2_knows : knows cx K2.S (evLim cx) := pureK_knows K1_knows fun a q b hd h hb => by
  obtain rfl := decDF_some h
  obtain ⟨rfl, h1, h2⟩ := ns_some hb
  exact lim103 b h1 h2

theorem lim75 (l : List (List UInt8)) (hl : shrt l = true) (ha : l.all shrt = true) : evLim cx 75 [.d (.sl 1 (l.map .str))] [] = some (.ret (.d (.bool (l.all Sp.named))), []) := by
  refine lim_bodyK K1_knows (N := l.length + 1) ?_
  rw [g75]
  have h := find_loop (fun k i => LP cx K1 (l.length + 1) 75 0 2 k [(0, V.d (D.sl 1 (List.map D.str l))), (3, V.d (D.int IntKind.i64 i))] [] (AK cx K1 (l.length + 1) 75 0 2 (EK cx 75 0)))
    l (fun s => !Sp.named s) (fun j => some (Out.ret (V.d (D.bool false)), [])) (some (Out.ret (V.d (D.bool true)), [])) (shrt_lt hl)
    (fun k j x hj hx => by
      rw [l75, List.length_map, lt_nat hj, nn_nat, nthD_strs, Int.toNat_natCast, hx]
      simp only [cond_true, must, optK, Bool.and_self]
      show must (decide (x.length ≤ big)) _ = _
      rw [shrt_big (all_at ha hx)]
      rfl) (fun k => by rw [l75, List.length_map, ge_nat, cond_false]) l 0 (l.length + 1) rfl (Nat.zero_le _) (by omega)
  refine h.trans ?_
  have e : l.all Sp.named = !(l.any fun s => !Sp.named s) := by rw [List.not_any_eq_all_not]; simp
  rw [e, ← findN_any l 0]
  cases Sp.findN (fun s => !Sp.named s) l 0 <;> rfl
end Go.Vai
end

section
namespace Go.Vai
open Go.Proofs

open Classical in
/-- A tree, of any depth. -/
noncomputable def Sp.toC (x : D) : Option T := if h : ∃ t : T, x = t.d ∧ t.ok = true then some h.choose else none
theorem toC_some {x : D} {t : T} (h : Sp.toC x = some t) : x = t.d ∧ t.ok = true := by
  unfold Sp.toC at h
  split at h
  · rename_i hex; cases h; exact hex.choose_spec
  · cases h
theorem d_inj {t u : T} (ht : t.ok = true) (hu : u.ok = true) (h : t.d = u.d) : t = u := by
  have h1 := toT_d (n := max t.depth u.depth) (t := t) (by omega) ht
  have h2 := toT_d (n := max t.depth u.depth) (t := u) (by omega) hu
  rw [h, h2] at h1
  exact (Option.some.inj h1).symm
theorem toC_d {t : T} (h : t.ok = true) : Sp.toC t.d = some t := by
  have hex : ∃ u : T, t.d = u.d ∧ u.ok = true := ⟨t, rfl, h⟩
  unfold Sp.toC
  rw [dif_pos hex]
  obtain ⟨h1, h2⟩ := hex.choose_spec
  rw [← d_inj h h2 h1]

/-- Just so many kids and names, and perhaps a name. -/
def Sp.plain : T × Int × Int × Bool → Bool
  | (.mk _ nm kids nms _, a, b, w) => decide ((kids.length : Int) = a) && decide ((nms.length : Int) = b) && (w || decide (nm = [])) && nms.all Sp.named
def Sp.bit (s : List UInt8) : Bool := decide (s = [48]) || decide (s = [49])
def Sp.form : T → Bool
  | .mk k nm [] nms _ => decide (nms = []) && ((decide (k = 1) && Sp.named nm) || (decide (k = 17) && Sp.bit nm))
  | .mk k nm [a] nms _ => decide (k = 16) && decide (nm = []) && decide (nms = []) && Sp.form a
  | .mk k nm [a, b] nms _ => (decide (k = 14) || decide (k = 15)) && decide (nm = []) && decide (nms = []) && Sp.form a && Sp.form b
  | _ => false
def Sp.eqn : T → Bool
  | .mk k nm [] [x] _ => decide (k = 13) && Sp.named nm && Sp.bit x
  | _ => false
def Sp.faceB : T → Bool
  | .mk k nm kids nms _ => decide (k = 12) && decide (nm = []) && decide (nms = []) && kids.all Sp.eqn
mutual
def Sp.right : T → Bool
  | .mk k nm [] nms _ => decide (nms = []) && ((decide (k = 1) && Sp.named nm) || (decide (k = 10) && decide (nm = [])))
  | .mk k nm [a] nms _ => decide (nm = []) && (((decide (k = 2) || decide (k = 3)) && !decide (nms = []) && nms.all Sp.named && Sp.right a) || (decide (k = 10) && decide (nms = []) && Sp.elem a))
  | .mk k nm [a, b] nms _ => decide (nm = []) && (((decide (k = 4) || decide (k = 5)) && decide (nms.length < 2) && nms.all Sp.named && Sp.right a && Sp.right b) ||
      ((decide (k = 6) || decide (k = 8) || decide (k = 9)) && decide (nms = []) && Sp.right a && Sp.right b) || (decide (k = 7) && decide (nms = []) && Sp.right a && Sp.form b) || (decide (k = 10) && decide (nms = []) && Sp.elem a && Sp.elem b))
  | .mk k nm (a :: b :: c :: l) nms _ => decide (nm = []) && decide (k = 10) && decide (nms = []) && (Sp.elem a && Sp.elem b && Sp.elem c && Sp.elems l)
def Sp.elem : T → Bool
  | .mk k nm [f] nms _ => decide (k = 11) && decide (nm = []) && decide (nms = []) && Sp.faceB f
  | .mk k nm [f, u] nms _ => decide (k = 11) && decide (nm = []) && decide (nms = []) && Sp.faceB f && Sp.right u
  | _ => false
def Sp.elems : List T → Bool
  | [] => true
  | t :: l => Sp.elem t && Sp.elems l
end
theorem elems_all : ∀ l : List T, Sp.elems l = l.all Sp.elem
  | [] => rfl
  | t :: l => by rw [Sp.elems, elems_all l, List.all_cons]

def decPl : List V → Option (D × Int × Int × Bool)
  | [.d x, .d (.int .i64 a), .d (.int .i64 b), .d (.bool w)] => some (x, a, b, w)
  | _ => none
theorem decPl_some {a : List V} {q} (h : decPl a = some q) : a = [.d q.1, .d (.int .i64 q.2.1), .d (.int .i64 q.2.2.1), .d (.bool q.2.2.2)] := by
  unfold decPl at h
  split at h
  · cases h; rfl
  · cases h
noncomputable def K3 : CK R1 := pureK 84 (decDF 85) Sp.ns (fun l => mkB (l.any (fun s => !Sp.named s))) K2
noncomputable def K4 : CK R1 := pureK 61 decPl (fun q => optK (Sp.toC q.1) fun t => some (t, q.2)) (fun q => mkB (Sp.plain q)) K3
/-- A slice of trees. -/
def Sp.ts (f : D → Option T) : D → Option (List T) | .sl 5 l => (match toL f l with | some m => bif shrt m then some m else none | none => none) | _ => none
theorem ts_some {f : D → Option T} {x : D} {m : List T} (h : Sp.ts f x = some m) : ∃ l, x = .sl 5 l ∧ toL f l = some m ∧ shrt m = true := by
  unfold Sp.ts at h
  split at h
  · split at h
    · rename_i l q hq
      cases hs : shrt q <;> rw [hs] at h
      · cases h
      · cases h; exact ⟨_, rfl, hq, hs⟩
    · cases h
  · cases h
/-- Trees, as they lie. -/
theorem toL_ds {f : D → Option T} (hf : ∀ x t, f x = some t → x = t.d) : ∀ {l : List D} {m : List T}, toL f l = some m → l = T.ds m ∧ ∀ t ∈ m, f t.d = some t
  | [], m, h => by cases h; exact ⟨rfl, fun t ht => by cases ht⟩
  | x :: r, m, h => by
    unfold toL at h
    split at h
    · rename_i t l ht hl
      cases h
      obtain ⟨h1, h2⟩ := toL_ds hf hl
      have hx := hf x t ht
      refine ⟨by rw [hx, h1]; rfl, fun u hu => ?_⟩
      cases hu with
      | head => rw [← hx]; exact ht
      | tail _ hu => exact h2 u hu
    · cases h
theorem ts_of {f : D → Option T} : ∀ {m : List T}, (∀ t ∈ m, f t.d = some t) → shrt m = true → Sp.ts f (.sl 5 (T.ds m)) = some m := by
  intro m h hs
  have key : ∀ l : List T, (∀ t ∈ l, f t.d = some t) → toL f (T.ds l) = some l := by
    intro l
    induction l with
    | nil => intro _; rfl
    | cons t l ih =>
      intro h
      simp only [T.ds, toL, h t (List.mem_cons_self ..), ih fun u hu => h u (List.mem_cons_of_mem _ hu)]
  simp only [Sp.ts, key m h, hs]
  rfl
end Go.Vai
end

/-
  Tree: what the reader's small functions answer, shown.
  Tree: what the reader's great functions answer, as plain functions by fuel.
  Tree: callers by what they decode; lex.Scan as one.
  Tree: what a law's frame asks of the program, and a world for the witness.
  Lex: the reference: is it a text?
  Lex: the reference: is it a text? The outer loop.
  Lex: the reference: is it a text? The whole.
  Lex: the reference: signs.
  Lex: the reference: the tokens of a text.
  Lex: the reference: Scan.
  Show: trees as plain data, and how they lie; callers that answer by a plain function.
  Show: names.
  Show: lists of names.
  Show: which trees may be.
  Show: the program's looks at trees: plain, formula, equation.
  Show: the program's looks at trees: elem, right.
  Show: the reference's looks at trees.
  Show: the printer: what it holds; put.
  Show: put.
  Show: put prints its texts; what else the printer calls.
  Show: the texts of trees; the functions that print, and what they see.
  Show: the printer's functions, called.
-/
import Derived.Test.YtdgdfglbhndjnaaDoorShoPart1

set_option linter.all false
set_option linter.unusedSimpArgs false
set_option linter.unusedVariables false

section
namespace Go.Vai
open Go.Proofs

theorem b27 (n : Nat) (S : CK R1) (l : List D) (i : Int) : evBody cx S n 27 [.ptr 0 0] [(0, .val 2 (.d (.agg [.sl 3 l, .int .i64 i])))] = must (decide (0 ≤ i) && decide (i < (↑l.length : Int))) (nthD l i.toNat fun y => DRW cx S n 27 1 1 9 [{ i := 8, fp := [], w := [] }, { i := 7, fp := [0], w := [] }, { i := 6, fp := [], w := [] }, { i := 5, fp := [], w := [] }, { i := 4, fp := [], w := [] }, { i := 3, fp := [0], w := [] }, { i := 2, fp := [], w := [] }, { i := 1, fp := [], w := [] }, { i := 0, fp := [], w := [] }] [(11, V.eptr y 0), (10, V.d (D.int IntKind.i64 i)), (9, V.ptr 0 1), (8, V.ptr 0 0), (7, V.ptr 0 0), (6, V.d (D.sl 3 l)), (5, V.ptr 0 0), (4, V.ptr 0 0), (3, V.ptr 0 0), (2, V.ptr 3 0), (0, V.ptr 0 0)] [(0, Ob.val 2 (V.d (D.agg [D.sl 3 l, D.int IntKind.i64 i]))), (3, Ob.val 3 (V.d (D.agg [D.int IntKind.i64 (0 : Int), D.str [], D.int IntKind.i64 (0 : Int)])))] (AR cx S n 27 1 1 (EK cx 27 1))) := by kernel_rfl

theorem b48 (n : Nat) (l : List D) (i : Int) (s : List UInt8) : evBody cx T1 n 48 [.ptr 0 0, .d (.str s)] [(0, .val 2 (.d (.agg [.sl 3 l, .int .i64 i])))] = optK (Sp.tok l i) fun p => bif decide (p.fst = (2 : Int)) then optK (Sp.tok l i) fun p => some (Out.ret (V.d (D.bool (decide (p.snd.1 = s)))), [(0, Ob.val 2 (V.d (D.agg [D.sl 3 l, D.int IntKind.i64 i])))]) else some (Out.ret (V.d (D.bool false)), [(0, Ob.val 2 (V.d (D.agg [D.sl 3 l, D.int IntKind.i64 i])))]) := by kernel_rfl

theorem b46 (n : Nat) (l : List D) (i e : Int) : evBody cx T1 n 46 [.ptr 0 0, .d (.int .i64 e)] [(0, .val 2 (.d (.agg [.sl 3 l, .int .i64 i])))] = optK (Sp.tok l i) fun p => some (Out.pan (V.d (D.iface 79 (D.agg [D.int IntKind.i64 p.snd.snd, D.int IntKind.i64 e]))), [(0, Ob.val 2 (V.d (D.agg [D.sl 3 l, D.int IntKind.i64 i])))]) := by kernel_rfl

theorem b52 (n : Nat) (l : List D) (i : Int) : evBody cx T1 n 52 [.ptr 0 0] [(0, .val 2 (.d (.agg [.sl 3 l, .int .i64 i])))] = optK (Sp.tok l i) fun p => some (Out.ret (V.d (D.agg [D.int IntKind.i64 p.fst, D.str p.snd.1, D.int IntKind.i64 p.snd.snd])), [(0, Ob.val 2 (V.d (D.agg [D.sl 3 l, D.int IntKind.i64 (IntKind.i64.wrap (i + (1 : Int)))])))]) := by kernel_rfl

theorem b50 (n : Nat) (l : List D) (i : Int) (s : List UInt8) : evBody cx T2 n 50 [.ptr 0 0, .d (.str s)] [(0, .val 2 (.d (.agg [.sl 3 l, .int .i64 i])))] = optK (Sp.tok l i) fun p => bif !Sp.isS p s then optK (Sp.tok l i) fun p => some (Out.pan (V.d (D.iface 79 (D.agg [D.int IntKind.i64 p.snd.snd, D.int IntKind.i64 (61 : Int)]))), [(0, Ob.val 2 (V.d (D.agg [D.sl 3 l, D.int IntKind.i64 i])))]) else some (Out.ret (V.tup []), [(0, Ob.val 2 (V.d (D.agg [D.sl 3 l, D.int IntKind.i64 (IntKind.i64.wrap (i + (1 : Int)))])))]) := by kernel_rfl

theorem b57 (n : Nat) (l : List D) (i : Int) : evBody cx T2 n 57 [.ptr 0 0] [(0, .val 2 (.d (.agg [.sl 3 l, .int .i64 i])))] = optK (Sp.tok l i) fun p => bif !decide (p.fst = (1 : Int)) then optK (Sp.tok l i) fun p => some (Out.pan (V.d (D.iface 79 (D.agg [D.int IntKind.i64 p.snd.snd, D.int IntKind.i64 (61 : Int)]))), [(0, Ob.val 2 (V.d (D.agg [D.sl 3 l, D.int IntKind.i64 i])))]) else optK (Sp.tok l i) fun p => some (Out.ret (V.d (D.str p.snd.1)), [(0, Ob.val 2 (V.d (D.agg [D.sl 3 l, D.int IntKind.i64 (up i)])))]) := by kernel_rfl

theorem b47 (n : Nat) (l : List D) (i v : Int) : evBody cx T2 n 47 [.ptr 0 0, .d (.int .i64 v)] [(0, .val 2 (.d (.agg [.sl 3 l, .int .i64 i])))] = bif decide ((200 : Int) < v) then optK (Sp.tok l i) fun p => some (Out.pan (V.d (D.iface 79 (D.agg [D.int IntKind.i64 p.snd.snd, D.int IntKind.i64 (62 : Int)]))), [(0, Ob.val 2 (V.d (D.agg [D.sl 3 l, D.int IntKind.i64 i])))]) else some (Out.ret (V.tup []), [(0, Ob.val 2 (V.d (D.agg [D.sl 3 l, D.int IntKind.i64 i])))]) := by kernel_rfl

theorem b53 (n : Nat) (l : List D) (i : Int) : evBody cx T2 n 53 [.ptr 0 0] [(0, .val 2 (.d (.agg [.sl 3 l, .int .i64 i])))] = optK (Sp.tok l i) fun p => bif Sp.isS p [45, 62] then some (Out.ret (V.d (D.int IntKind.i64 (4 : Int))), [(0, Ob.val 2 (V.d (D.agg [D.sl 3 l, D.int IntKind.i64 i])))]) else optK (Sp.tok l i) fun p => bif Sp.isS p [42] then some (Out.ret (V.d (D.int IntKind.i64 (5 : Int))), [(0, Ob.val 2 (V.d (D.agg [D.sl 3 l, D.int IntKind.i64 i])))]) else some (Out.ret (V.d (D.int IntKind.i64 (0 : Int))), [(0, Ob.val 2 (V.d (D.agg [D.sl 3 l, D.int IntKind.i64 i])))]) := by kernel_rfl

theorem b51 (n : Nat) (l : List D) (i : Int) : evBody cx T2 n 51 [.ptr 0 0] [(0, .val 2 (.d (.agg [.sl 3 l, .int .i64 i])))] = optK (Sp.tok l i) fun p => bif Sp.isS p [40] then must (decide (0 ≤ IntKind.i64.wrap (i + (1 : Int))) && decide (IntKind.i64.wrap (i + (1 : Int)) < (↑l.length : Int))) (nthD l (IntKind.i64.wrap (i + (1 : Int))).toNat fun y => nthD y.cells 0 fun c => match c with
 | D.int k' n => bif decide (k' = IntKind.i64) then bif decide (n = (1 : Int)) then must (decide (0 ≤ IntKind.i64.wrap (i + (2 : Int))) && decide (IntKind.i64.wrap (i + (2 : Int)) < (↑l.length : Int))) (nthD l (IntKind.i64.wrap (i + (2 : Int))).toNat fun y => nthD y.cells 1 fun c => match c with
  | D.str s => some (Out.ret (V.d (D.bool (decide (s = [58])))), [(0, Ob.val 2 (V.d (D.agg [D.sl 3 l, D.int IntKind.i64 i])))])
  | x => none) else some (Out.ret (V.d (D.bool false)), [(0, Ob.val 2 (V.d (D.agg [D.sl 3 l, D.int IntKind.i64 i])))]) else none
 | x => none) else some (Out.ret (V.d (D.bool false)), [(0, Ob.val 2 (V.d (D.agg [D.sl 3 l, D.int IntKind.i64 i])))]) := by kernel_rfl

theorem d27 (n : Nat) (S : CK R1) (l : List D) (i k : Int) (t : List UInt8) (a : Int) : DRW cx S n 27 1 1 9 [{ i := 8, fp := [], w := [] }, { i := 7, fp := [0], w := [] }, { i := 6, fp := [], w := [] }, { i := 5, fp := [], w := [] }, { i := 4, fp := [], w := [] }, { i := 3, fp := [0], w := [] }, { i := 2, fp := [], w := [] }, { i := 1, fp := [], w := [] }, { i := 0, fp := [], w := [] }] [(11, V.eptr (tokD k t a) 0), (10, V.d (D.int IntKind.i64 i)), (9, V.ptr 0 1), (8, V.ptr 0 0), (7, V.ptr 0 0), (6, V.d (D.sl 3 l)), (5, V.ptr 0 0), (4, V.ptr 0 0), (3, V.ptr 0 0), (2, V.ptr 3 0), (0, V.ptr 0 0)] [(0, Ob.val 2 (V.d (D.agg [D.sl 3 l, D.int IntKind.i64 i]))), (3, Ob.val 3 (V.d (D.agg [D.int IntKind.i64 (0 : Int), D.str [], D.int IntKind.i64 (0 : Int)])))] (AR cx S n 27 1 1 (EK cx 27 1)) = some (Out.ret (V.d (D.agg [D.int IntKind.i64 k, D.str t, D.int IntKind.i64 a])), [(0, Ob.val 2 (V.d (D.agg [D.sl 3 l, D.int IntKind.i64 i])))]) := by kernel_rfl

theorem nthD_at {R : Type} {l : List D} {i : Nat} {x : D} {K : D → Option R} (h : l[i]? = some x) : nthD l i K = K x := by unfold nthD; rw [h]

theorem in_l {l : List D} {i : Int} {p : Tk3} (h : Sp.tok l i = some p) : (decide (0 ≤ i) && decide (i < (l.length : Int))) = true := by
  obtain ⟨h1, h2, _⟩ := tok_spec h
  rw [decide_eq_true h1, decide_eq_true h2]; rfl

theorem none1K_knows : knows cx (CK.plain (R := R1) none1).S (evLim cx) := none1_knows cx

theorem lim27 (l : List D) (i : Int) (x : Unit) (r : R1) (a : List V) (hd : dec0 a = some x) (h : F27.go l i x (fun o j => some (o, rdSt l j)) = some r) : evLim cx 27 (.ptr 0 0 :: a) (rdSt l i) = some r := by
  rw [dec0_some hd]
  obtain ⟨p, hp, h⟩ := optK_some h
  refine lim_bodyK (call := CK.plain none1) none1K_knows (N := 0) ?_
  rw [b27, in_l hp, must, cond_true, nthD_at (tok_spec hp).2.2.2, d27]
  exact h

theorem T1_knows : knows cx T1.S (evLim cx) := rdr_knows none1K_knows lim27

theorem lim48 (l : List D) (i : Int) (s : List UInt8) (r : R1) (a : List V) (hd : decS a = some s) (h : F48.go l i s (fun o j => some (o, rdSt l j)) = some r) : evLim cx 48 (.ptr 0 0 :: a) (rdSt l i) = some r := by
  rw [decS_some hd]
  obtain ⟨p, hp, h⟩ := optK_some h
  refine lim_bodyK T1_knows (N := 0) ?_
  rw [b48, hp]
  simp only [optK, hp]
  rw [← h]
  unfold Sp.isS
  cases decide (p.1 = 2) <;> rfl

theorem lim46 (l : List D) (i : Int) (s : Int) (r : R1) (a : List V) (hd : decI a = some s) (h : F46.go l i s (fun o j => some (o, rdSt l j)) = some r) : evLim cx 46 (.ptr 0 0 :: a) (rdSt l i) = some r := by
  rw [decI_some hd]
  obtain ⟨p, hp, h⟩ := optK_some h
  refine lim_bodyK T1_knows (N := 0) ?_
  rw [b46, hp]
  exact h

theorem lim52 (l : List D) (i : Int) (s : Unit) (r : R1) (a : List V) (hd : dec0 a = some s) (h : F52.go l i s (fun o j => some (o, rdSt l j)) = some r) : evLim cx 52 (.ptr 0 0 :: a) (rdSt l i) = some r := by
  rw [dec0_some hd]
  obtain ⟨p, hp, h⟩ := optK_some h
  refine lim_bodyK T1_knows (N := 0) ?_
  rw [b52, hp]
  exact h

theorem T2_knows : knows cx T2.S (evLim cx) := rdr_knows (rdr_knows (rdr_knows T1_knows lim52) lim48) lim46

theorem lim50 (l : List D) (i : Int) (s : List UInt8) (r : R1) (a : List V) (hd : decS a = some s) (h : F50.go l i s (fun o j => some (o, rdSt l j)) = some r) : evLim cx 50 (.ptr 0 0 :: a) (rdSt l i) = some r := by
  rw [decS_some hd]
  obtain ⟨p, hp, h⟩ := optK_some h
  refine lim_bodyK T2_knows (N := 0) ?_
  rw [b50, hp]
  simp only [optK, hp]
  rw [← h]
  cases Sp.isS p s <;> rfl

theorem lim57 (l : List D) (i : Int) (s : Unit) (r : R1) (a : List V) (hd : dec0 a = some s) (h : F57.go l i s (fun o j => some (o, rdSt l j)) = some r) : evLim cx 57 (.ptr 0 0 :: a) (rdSt l i) = some r := by
  rw [dec0_some hd]
  obtain ⟨p, hp, h⟩ := optK_some h
  refine lim_bodyK T2_knows (N := 0) ?_
  rw [b57, hp]
  simp only [optK, hp]
  rw [← h]
  cases decide (p.1 = 1) <;> rfl

theorem lim47 (l : List D) (i : Int) (s : Int) (r : R1) (a : List V) (hd : decI a = some s) (h : F47.go l i s (fun o j => some (o, rdSt l j)) = some r) : evLim cx 47 (.ptr 0 0 :: a) (rdSt l i) = some r := by
  rw [decI_some hd]
  refine lim_bodyK T2_knows (N := 0) ?_
  rw [b47]
  exact h

theorem lim53 (l : List D) (i : Int) (s : Unit) (r : R1) (a : List V) (hd : dec0 a = some s) (h : F53.go l i s (fun o j => some (o, rdSt l j)) = some r) : evLim cx 53 (.ptr 0 0 :: a) (rdSt l i) = some r := by
  rw [dec0_some hd]
  obtain ⟨p, hp, h⟩ := optK_some h
  refine lim_bodyK T2_knows (N := 0) ?_
  rw [b53, hp]
  simp only [optK, hp]
  rw [← h]
  unfold Sp.arr
  cases Sp.isS p [45, 62] <;> cases Sp.isS p [42] <;> rfl

theorem lim51 (l : List D) (i : Int) (s : Unit) (r : R1) (a : List V) (hd : dec0 a = some s) (h : F51.go l i s (fun o j => some (o, rdSt l j)) = some r) : evLim cx 51 (.ptr 0 0 :: a) (rdSt l i) = some r := by
  rw [dec0_some hd]
  obtain ⟨b, hb, h⟩ := optK_some h
  obtain ⟨p, hp, hb⟩ := optK_some hb
  refine lim_bodyK T2_knows (N := 0) ?_
  have h0 := tok_spec hp
  rw [b51, hp]
  simp only [optK]
  cases hs : Sp.isS p [40] <;> rw [hs] at hb
  · cases hb; exact h
  · simp only [cond_true] at hb ⊢
    obtain ⟨q, hq, hb⟩ := optK_some hb
    have e1 : IntKind.i64.wrap (i + 1) = i + 1 := up_tok hp
    rw [e1, in_l hq, must, cond_true, nthD_at (tok_spec hq).2.2.2]
    show (bif decide (q.1 = 1) then _ else _) = _
    cases hk : decide (q.1 = 1) <;> rw [hk] at hb
    · cases hb; exact h
    · simp only [cond_true] at hb ⊢
      obtain ⟨t, ht, hb⟩ := optK_some hb
      have e2 : IntKind.i64.wrap (i + 2) = i + 2 := IntWalk.i64_in _ (by have := tok_spec ht; omega)
      rw [e2, in_l ht, must, cond_true, nthD_at (tok_spec ht).2.2.2]
      cases hb
      exact h

theorem T3_knows : knows cx T3.S (evLim cx) := rdr_knows (rdr_knows (rdr_knows (rdr_knows (rdr_knows T2_knows lim51) lim53) lim57) lim50) lim47

end Go.Vai
end

section
namespace Go.Vai
open Go.Proofs

/-- A tree. -/
structure Tr where
  k : Int
  nm : List UInt8
  kids : List D
  nms : List D
  pl : Int
instance : Inhabited Tr := ⟨⟨0, [], [], [], 0⟩⟩
def trD (t : Tr) : D := .agg [.int .i64 t.k, .str t.nm, .sl 5 t.kids, .sl 1 t.nms, .int .i64 t.pl]

/-- What is read: a tree, and what comes; or where it fails, and why. -/
inductive PR where
  | ok (t : Tr) (j : Int)
  | bad (a e j : Int)
def Sp.okQ : PR → Bool | .ok _ _ => true | _ => false
def Sp.trOf : PR → Tr | .ok t _ => t | _ => default
def Sp.nxt : PR → Int | .ok _ j => j | .bad _ _ j => j
def Sp.bAt : PR → Int | .bad a _ _ => a | _ => 0
def Sp.bE : PR → Int | .bad _ e _ => e | _ => 0
inductive PN where
  | ok (l : List D) (j : Int)
  | bad (a e j : Int)
def Sp.okN : PN → Bool | .ok _ _ => true | _ => false
def Sp.lN : PN → List D | .ok l _ => l | _ => []
def Sp.nxtN : PN → Int | .ok _ j => j | .bad _ _ j => j
def Sp.bAtN : PN → Int | .bad a _ _ => a | _ => 0
def Sp.bEN : PN → Int | .bad _ e _ => e | _ => 0

def Sp.call (o : Option PR) (K : Tr → Int → Option PR) : Option PR := optK o fun p => bif Sp.okQ p then K (Sp.trOf p) (Sp.nxt p) else some (.bad (Sp.bAt p) (Sp.bE p) (Sp.nxt p))
def Sp.callN (o : Option PN) (K : List D → Int → Option PR) : Option PR := optK o fun p => bif Sp.okN p then K (Sp.lN p) (Sp.nxtN p) else some (.bad (Sp.bAtN p) (Sp.bEN p) (Sp.nxtN p))
def Sp.want (l : List D) (i : Int) (s : List UInt8) (K : Int → Option PR) : Option PR := optK (Sp.tok l i) fun p => bif Sp.isS p s then K (up i) else some (.bad p.2.2 61 i)
def Sp.name (l : List D) (i : Int) (K : List UInt8 → Int → Option PR) : Option PR := optK (Sp.tok l i) fun p => bif decide (p.1 = 1) then K p.2.1 (up i) else some (.bad p.2.2 61 i)

/-- The functions, with some fuel. -/
structure Tb where
  names : List D → Int → Option PN
  face : List D → Int → Option PR
  term : List D → Int → Int → Option PR
  after : List D → Int → Int → Tr → Option PR
  atom : List D → Int → Int → Option PR
  box : List D → Int → Int → Option PR
  join : List D → Int → Int → Option PR
  meet : List D → Int → Int → Option PR
  dim : List D → Int → Int → Option PR

def Sp.short (l : List D) : Bool := decide (l.length < 4294967296)

def Sp.namesL : Nat → List D → Int → List D → Option PN
  | 0, _, _, _ => none
  | r + 1, l, i, ns => optK (Sp.tok l i) fun p => bif decide (p.1 = 1) then must (Sp.short ns) (Sp.namesL r l (up i) (ns ++ [.str p.2.1])) else some (.ok ns i)
def Sp.namesG (r : Nat) (l : List D) (i : Int) : Option PN := optK (Sp.tok l i) fun p => bif decide (p.1 = 1) then Sp.namesL r l (up i) [.str p.2.1] else some (.bad p.2.2 61 i)

def Sp.termG (g : Tb) (l : List D) (i v : Int) : Option PR := optK (Sp.tok l i) fun p =>
  bif decide (200 < v) then some (.bad p.2.2 62 i)
  else bif Sp.isS p [92] then Sp.callN (g.names l (up i)) fun ns j => Sp.want l j [46] fun j => Sp.call (g.term l j (up v)) fun t j => some (.ok ⟨2, [], [trD t], ns, p.2.2⟩ j)
  else bif Sp.isS p [60] then Sp.callN (g.names l (up i)) fun ns j => Sp.want l j [62] fun j => Sp.call (g.term l j (up v)) fun t j => some (.ok ⟨3, [], [trD t], ns, p.2.2⟩ j)
  else optK (Sp.binds l i) fun b => bif b
    then optK (Sp.tok l (up i)) fun x => Sp.call (g.term l (up (up (up i))) (up v)) fun a j => Sp.want l j [41] fun j => optK (Sp.tok l j) fun q =>
      bif !decide (Sp.arr q = 0) then Sp.call (g.term l (up j) (up v)) fun t j => some (.ok ⟨Sp.arr q, [], [trD a, trD t], [.str x.2.1], p.2.2⟩ j)
      else g.after l j v ⟨9, [], [trD ⟨1, x.2.1, [], [], x.2.2⟩, trD a], [], p.2.2⟩
    else Sp.call (g.atom l i v) fun t j => g.after l j v t

def Sp.afterG (g : Tb) : Nat → List D → Int → Int → Tr → Option PR
  | 0, _, _, _, _ => none
  | r + 1, l, i, v, t => optK (Sp.tok l i) fun p =>
    bif Sp.isS p [64] then Sp.call (g.dim l (up i) (up v)) fun u j => Sp.afterG g r l j v ⟨7, [], [trD t, trD u], [], t.pl⟩
    else bif decide (p.1 = 1) || Sp.isS p [40] || Sp.isS p [91] then Sp.call (g.atom l i v) fun u j => Sp.afterG g r l j v ⟨6, [], [trD t, trD u], [], t.pl⟩
    else bif !decide (Sp.arr p = 0) then Sp.call (g.term l (up i) (up v)) fun u j => some (.ok ⟨Sp.arr p, [], [trD t, trD u], [], t.pl⟩ j)
    else some (.ok t i)

def Sp.atomG (g : Tb) (l : List D) (i v : Int) : Option PR := optK (Sp.tok l i) fun p =>
  bif decide (p.1 = 1) then some (.ok ⟨1, p.2.1, [], [], p.2.2⟩ (up i))
  else bif Sp.isS p [91] then g.box l i v
  else bif Sp.isS p [40] then Sp.call (g.term l (up i) (up v)) fun t j => optK (Sp.tok l j) fun q =>
    bif Sp.isS q [44] then Sp.call (g.term l (up j) (up v)) fun u j => Sp.want l j [41] fun j => some (.ok ⟨8, [], [trD t, trD u], [], p.2.2⟩ j)
    else bif Sp.isS q [58] then Sp.call (g.term l (up j) (up v)) fun u j => Sp.want l j [41] fun j => some (.ok ⟨9, [], [trD t, trD u], [], p.2.2⟩ j)
    else bif Sp.isS q [41] then some (.ok t (up j)) else some (.bad q.2.2 61 j)
  else some (.bad p.2.2 61 i)

def Sp.comma (kids l : List D) (i : Int) (K : Int → Option PR) : Option PR := bif decide ((0 : Int) < (kids.length : Int)) then Sp.want l i [44] K else K i
def Sp.boxL (g : Tb) : Nat → List D → Int → Int → List D → Int → Option PR
  | 0, _, _, _, _, _ => none
  | r + 1, l, i, v, kids, a => optK (Sp.tok l i) fun p =>
    bif Sp.isS p [93] then some (.ok ⟨10, [], kids, [], a⟩ (up i))
    else Sp.comma kids l i fun j => optK (Sp.tok l j) fun q => Sp.call (g.face l j) fun f j => optK (Sp.tok l j) fun u =>
      bif Sp.isS u [45, 62] then Sp.call (g.term l (up j) (up v)) fun t j => must (Sp.short kids) (Sp.boxL g r l j v (kids ++ [trD ⟨11, [], [trD f, trD t], [], q.2.2⟩]) a)
      else must (Sp.short kids) (Sp.boxL g r l j v (kids ++ [trD ⟨11, [], [trD f], [], q.2.2⟩]) a)
def Sp.boxG (g : Tb) (r : Nat) (l : List D) (i v : Int) : Option PR := optK (Sp.tok l i) fun p => Sp.boxL g r l (up i) v [] p.2.2

def Sp.faceL : Nat → List D → Int → List D → Int → Option PR
  | 0, _, _, _, _ => none
  | r + 1, l, i, kids, a => optK (Sp.tok l i) fun p =>
    bif Sp.isS p [40] then Sp.name l (up i) fun s j => Sp.want l j [61] fun j => optK (Sp.tok l j) fun q =>
      bif Sp.isS q [48] || Sp.isS q [49] then Sp.want l (up j) [41] fun j => must (Sp.short kids) <| optK (Sp.tok l j) fun u =>
        bif Sp.isS u [40] then Sp.faceL r l j (kids ++ [trD ⟨13, s, [], [.str q.2.1], p.2.2⟩]) a
        else some (.ok ⟨12, [], kids ++ [trD ⟨13, s, [], [.str q.2.1], p.2.2⟩], [], a⟩ j)
      else some (.bad q.2.2 61 j)
    else some (.bad p.2.2 61 i)
def Sp.faceG (r : Nat) (l : List D) (i : Int) : Option PR := optK (Sp.tok l i) fun p => bif Sp.isS p [49] then some (.ok ⟨12, [], [], [], p.2.2⟩ (up i)) else Sp.faceL r l i [] p.2.2

def Sp.joinL (g : Tb) : Nat → List D → Int → Int → Tr → Option PR
  | 0, _, _, _, _ => none
  | r + 1, l, i, v, t => optK (Sp.tok l i) fun p => bif Sp.isS p [92, 47] then Sp.call (g.meet l (up i) v) fun u j => Sp.joinL g r l j v ⟨14, [], [trD t, trD u], [], t.pl⟩ else some (.ok t i)
def Sp.joinG (g : Tb) (r : Nat) (l : List D) (i v : Int) : Option PR := Sp.call (g.meet l i v) fun t j => Sp.joinL g r l j v t
def Sp.meetL (g : Tb) : Nat → List D → Int → Int → Tr → Option PR
  | 0, _, _, _, _ => none
  | r + 1, l, i, v, t => optK (Sp.tok l i) fun p => bif Sp.isS p [47, 92] then Sp.call (g.dim l (up i) v) fun u j => Sp.meetL g r l j v ⟨15, [], [trD t, trD u], [], t.pl⟩ else some (.ok t i)
def Sp.meetG (g : Tb) (r : Nat) (l : List D) (i v : Int) : Option PR := Sp.call (g.dim l i v) fun t j => Sp.meetL g r l j v t

def Sp.dimG (g : Tb) (l : List D) (i v : Int) : Option PR := optK (Sp.tok l i) fun p =>
  bif decide (200 < v) then some (.bad p.2.2 62 i)
  else bif decide (p.1 = 1) then some (.ok ⟨1, p.2.1, [], [], p.2.2⟩ (up i))
  else bif Sp.isS p [48] || Sp.isS p [49] then some (.ok ⟨17, p.2.1, [], [], p.2.2⟩ (up i))
  else bif Sp.isS p [126] then Sp.call (g.dim l (up i) (up v)) fun t j => some (.ok ⟨16, [], [trD t], [], p.2.2⟩ j)
  else bif Sp.isS p [40] then Sp.call (g.join l (up i) (up v)) fun t j => Sp.want l j [41] fun j => some (.ok t j)
  else some (.bad p.2.2 61 i)

def Sp.declG (g : Tb) (l : List D) (i : Int) : Option PR := optK (Sp.tok l i) fun p => Sp.name l i fun s j => Sp.want l j [58] fun j => Sp.call (g.term l j 1) fun a j => Sp.want l j [61] fun j => Sp.call (g.term l j 1) fun t j => Sp.want l j [59] fun j => some (.ok ⟨18, s, [trD a, trD t], [], p.2.2⟩ j)

def Sp.tbl : Nat → Tb
  | 0 => ⟨fun _ _ => none, fun _ _ => none, fun _ _ _ => none, fun _ _ _ _ => none, fun _ _ _ => none, fun _ _ _ => none, fun _ _ _ => none, fun _ _ _ => none, fun _ _ _ => none⟩
  | k + 1 => ⟨Sp.namesG k, Sp.faceG k, Sp.termG (Sp.tbl k), Sp.afterG (Sp.tbl k) k, Sp.atomG (Sp.tbl k), Sp.boxG (Sp.tbl k) k, Sp.joinG (Sp.tbl k) k, Sp.meetG (Sp.tbl k) k, Sp.dimG (Sp.tbl k)⟩
def Sp.names (k : Nat) (l : List D) (i : Int) : Option PN := (Sp.tbl k).names l i
def Sp.face (k : Nat) (l : List D) (i : Int) : Option PR := (Sp.tbl k).face l i
def Sp.term (k : Nat) (l : List D) (i v : Int) : Option PR := (Sp.tbl k).term l i v
def Sp.after (k : Nat) (l : List D) (i v : Int) (t : Tr) : Option PR := (Sp.tbl k).after l i v t
def Sp.atom (k : Nat) (l : List D) (i v : Int) : Option PR := (Sp.tbl k).atom l i v
def Sp.box (k : Nat) (l : List D) (i v : Int) : Option PR := (Sp.tbl k).box l i v
def Sp.join (k : Nat) (l : List D) (i v : Int) : Option PR := (Sp.tbl k).join l i v
def Sp.meet (k : Nat) (l : List D) (i v : Int) : Option PR := (Sp.tbl k).meet l i v
def Sp.dim (k : Nat) (l : List D) (i v : Int) : Option PR := (Sp.tbl k).dim l i v
def Sp.decl (k : Nat) (l : List D) (i : Int) : Option PR := Sp.declG (Sp.tbl k) l i

def prGo (o : Option PR) (K : Out → Int → Option R1) : Option R1 := optK o fun p => bif Sp.okQ p then K (.ret (.d (trD (Sp.trOf p)))) (Sp.nxt p) else K (.pan (wrongV (Sp.bAt p) (Sp.bE p))) (Sp.nxt p)
theorem prGo_ok (o : Option PR) (l : List D) (K : Out → St → Option R1) : prGo o (fun o j => K o (rdSt l j)) = optP (prGo o fun o j => some (o, rdSt l j)) K := by
  unfold prGo; simp only [optP_optK, optP_cond, optP_some]
def decT : List V → Option (Int × Tr) | [.d (.int .i64 s), .d (.agg [.int .i64 k, .str n, .sl 5 kids, .sl 1 nms, .int .i64 a])] => some (s, ⟨k, n, kids, nms, a⟩) | _ => none
theorem decT_some {a : List V} {x : Int × Tr} (h : decT a = some x) : a = [.d (.int .i64 x.1), .d (trD x.2)] := by
  unfold decT at h; split at h <;> cases h; rfl
def F49 (n : Nat) : RF := ⟨Unit, dec0, fun l i _ K => optK (Sp.names n l i) fun p => bif Sp.okN p then K (.ret (.d (.sl 1 (Sp.lN p)))) (Sp.nxtN p) else K (.pan (wrongV (Sp.bAtN p) (Sp.bEN p))) (Sp.nxtN p), by intros; simp only [optP_optK, optP_cond, optP_some]⟩
def F25 (n : Nat) : RF := ⟨Int, decI, fun l i v K => prGo (Sp.term n l i v) K, fun l i v K => prGo_ok _ l K⟩
def afG (n : Nat) (l : List D) (i : Int) (K : Out → Int → Option R1) : Int × Tr → Option R1 | (v, t) => prGo (Sp.after n l i v t) K
def F54 (n : Nat) : RF := ⟨Int × Tr, decT, fun l i v K => afG n l i K v, fun l i v K => prGo_ok _ l K⟩
def F56 (n : Nat) : RF := ⟨Int, decI, fun l i v K => prGo (Sp.atom n l i v) K, fun l i v K => prGo_ok _ l K⟩
def F81 (n : Nat) : RF := ⟨Int, decI, fun l i v K => prGo (Sp.box n l i v) K, fun l i v K => prGo_ok _ l K⟩
def F102 (n : Nat) : RF := ⟨Unit, dec0, fun l i _ K => prGo (Sp.face n l i) K, fun l i v K => prGo_ok _ l K⟩
def F101 (n : Nat) : RF := ⟨Int, decI, fun l i v K => prGo (Sp.join n l i v) K, fun l i v K => prGo_ok _ l K⟩
def F110 (n : Nat) : RF := ⟨Int, decI, fun l i v K => prGo (Sp.meet n l i v) K, fun l i v K => prGo_ok _ l K⟩
def F80 (n : Nat) : RF := ⟨Int, decI, fun l i v K => prGo (Sp.dim n l i v) K, fun l i v K => prGo_ok _ l K⟩
def F28 (n : Nat) : RF := ⟨Unit, dec0, fun l i _ K => prGo (Sp.decl n l i) K, fun l i v K => prGo_ok _ l K⟩

/-- `of`: its kids are given over. -/
def dec55 : List V → St → Option (Int × Int × List D × Option Nat)
  | [.d (.int .i64 k), .d (.int .i64 a), .d (.sl 5 l)], [] => some (k, a, l, none)
  | [.d (.int .i64 k), .d (.int .i64 a), .sl 5 l 0], [(0, .tok m)] => some (k, a, l, some m)
  | _, _ => none
def go55 (K : Out → St → Option R1) : Int × Int × List D × Option Nat → Option R1
  | (k, a, l, some m) => K (.ret (.agg [.d (.int .i64 k), .d (.str []), .sl 5 l 0, .d (.sl 1 []), .d (.int .i64 a)])) [(0, .tok m)]
  | (k, a, l, none) => K (.ret (.d (.agg [.int .i64 k, .str [], .sl 5 l, .sl 1 [], .int .i64 a]))) []
def of55 (S : CK R1) : CK R1 where
  S := fun g args σ => bif Nat.beq g 55 then optK (dec55 args σ) fun q => go55 (fun o s => some (o, s)) q else S.S g args σ
  run := fun g args σ K => bif Nat.beq g 55 then optK (dec55 args σ) fun q => go55 K q else S.run g args σ K
  ok := fun g a σ K => by
    show _ = optP _ K
    rw [optP_cond, optP_optK]
    cases Nat.beq g 55
    · exact S.ok g a σ K
    · simp only [cond_true]
      congr 1
      funext q
      obtain ⟨k, p, l, b⟩ := q
      cases b <;> rfl

noncomputable def T4 (n : Nat) : CK R1 := rdr 25 (F25 n) (rdr 54 (F54 n) (rdr 56 (F56 n) (rdr 81 (F81 n) (rdr 102 (F102 n) (rdr 101 (F101 n) (rdr 110 (F110 n) (rdr 80 (F80 n) (rdr 49 (F49 n) (of55 T3)))))))))

end Go.Vai
end

section
namespace Go.Vai
open Go.Proofs

/-- lex.Scan. -/
def Sp.scL (s : List UInt8) : List D := (Sp.scan s).1
def Sp.scA (s : List UInt8) : Int := (Sp.scan s).2.1
def Sp.scE (s : List UInt8) : Int := (Sp.scan s).2.2
def dec13 : List V → St → Option (List UInt8)
  | [.d (.str s)], [(0, .tok 0)] => some s
  | _, _ => none
def go13 (K : Out → St → Option R1) (s : List UInt8) : Option R1 :=
  bif decide (Sp.scE s = 0) then K (.ret (.tup [.sl 3 (Sp.scL s) 0, .d (.int .i64 (Sp.scA s)), .d (.int .i64 0)])) [(0, .tok (Sp.scL s).length)]
  else K (.ret (.tup [.d (.sl 3 []), .d (.int .i64 (Sp.scA s)), .d (.int .i64 (Sp.scE s))])) [(0, .tok 0)]
theorem go13_ok (K : Out → St → Option R1) (s : List UInt8) : go13 K s = optP (go13 (fun o s => some (o, s)) s) K := by
  unfold go13
  rw [optP_cond]
  rfl

/-- A function with state more, by what it decodes and what it goes on with. -/
def more {α : Type} (f : Nat) (dec : List V → St → Option α) (go : (Out → St → Option R1) → α → Option R1) (ok : ∀ K q, go K q = optP (go (fun o s => some (o, s)) q) K) (S : CK R1) : CK R1 where
  S := fun g args σ => bif Nat.beq g f then optK (dec args σ) fun q => go (fun o s => some (o, s)) q else S.S g args σ
  run := fun g args σ K => bif Nat.beq g f then optK (dec args σ) fun q => go K q else S.run g args σ K
  ok := fun g a σ K => by
    show _ = optP _ K
    rw [optP_cond, optP_optK]
    cases Nat.beq g f
    · exact S.ok g a σ K
    · simp only [cond_true]
      congr 1
      funext q
      exact ok K q
theorem more_knows {α : Type} {f : Nat} {dec : List V → St → Option α} {go : (Out → St → Option R1) → α → Option R1} {ok : ∀ K q, go K q = optP (go (fun o s => some (o, s)) q) K} {S : CK R1} (hS : knows cx S.S (evLim cx))
    (hf : ∀ a σ q r, dec a σ = some q → go (fun o s => some (o, s)) q = some r → evLim cx f a σ = some r) : knows cx (more f dec go ok S).S (evLim cx) := by
  intro g args σ r hd h
  simp only [more] at h
  cases hg : Nat.beq g f <;> rw [hg] at h
  · exact hS g args σ r hd h
  · obtain rfl := Nat.eq_of_beq_eq_true hg
    simp only [cond_true] at h
    obtain ⟨q, hq, h⟩ := optK_some h
    exact hf args σ q r hq h

theorem cov_last {s : List UInt8} {e : Nat} {l : List D} (h : Cov s e l) : ∃ I, l = I ++ [tokD 0 [] (s.length : Int)] := by
  induction h with
  | fin _ _ => exact ⟨[], rfl⟩
  | tok _ _ _ _ _ _ ih => obtain ⟨I, rfl⟩ := ih; exact ⟨_ :: I, rfl⟩

theorem scan_ok {s : List UInt8} (h : decide (Sp.scE s = 0) = true) : ∃ I, Sp.scL s = I ++ [tokD 0 [] (s.length : Int)] := by
  simp only [decide_eq_true_eq] at h
  rcases scan_says s with ⟨_, _, l, hl, hc⟩ | ⟨h1, _⟩
  · obtain ⟨I, rfl⟩ := cov_last hc
    exact ⟨I, by unfold Sp.scL; rw [hl]⟩
  · exact absurd h h1

theorem lim13' (a : List V) (σ : St) (s : List UInt8) (r : R1) (hd : dec13 a σ = some s) (h : go13 (fun o s => some (o, s)) s = some r) : evLim cx 13 a σ = some r := by
  unfold dec13 at hd
  split at hd
  · cases hd
    rw [lim7]
    unfold go13 at h
    cases hs : decide (Sp.scE s = 0) <;> rw [hs] at h
    · rw [cond_false] at h
      simp only [decide_eq_false_iff_not] at hs
      rcases scan_says s with ⟨_, _, l, hl, _⟩ | ⟨_, h2, _⟩
      · exact absurd (by unfold Sp.scE; rw [hl]) hs
      · rw [← h]; unfold scanRes; rw [h2]; rfl
    · obtain ⟨I, hI⟩ := scan_ok hs
      have hz : (Sp.scan s).2.2 = 0 := of_decide_eq_true hs
      rw [cond_true] at h
      rw [← h]
      unfold scanRes
      rw [hz]
      unfold Sp.scL Sp.scA
      have e : givL (Sp.scan s).1 = .sl 3 (Sp.scan s).1 0 := by
        have : (Sp.scan s).1 = I ++ [tokD 0 [] (s.length : Int)] := hI
        rw [this]; exact givL_add _ _
      rw [e]
  · cases hd

end Go.Vai
end

section
namespace Go.Vai
open Go.Proofs

open Go.Proofs.YtdgdfglbhndjnaaDoor in
theorem glob_says : globSays cx.P cx.glob Rows.treePlacesRow.laid := by
  intro g x h
  match g, h with
  | 0, h => cases h; exact ⟨"hypercube/lex.signs", Rows.laid_hypercube_lex_signs, by simp [Rows.treePlacesRow], by kernel_rfl, by kernel_rfl⟩
  | 1, h => cases h; exact ⟨"unicode/utf8.first", Rows.laid_unicode_utf8_first, by simp [Rows.treePlacesRow], by kernel_rfl, by kernel_rfl⟩
  | 2, h => cases h; exact ⟨"unicode/utf8.acceptRanges", Rows.laid_unicode_utf8_acceptRanges, by simp [Rows.treePlacesRow], by kernel_rfl, by kernel_rfl⟩
  | n + 3, h => cases h

theorem no_routines : noRoutines cx.P := by
  have h : (cx.P.funcs.all fun fn => fn.name != "runtime.NumGoroutine") = true := by kernel_rfl
  intro f fn hf
  have := Array.all_eq_true_iff_forall_mem.1 h fn (Array.mem_of_getElem? hf)
  simpa using this

theorem mixed : cx.P.follows .mixedOrders = true := by kernel_rfl

def lits : D → Value
  | .int k n => .int k n
  | .str s => .string (strB s)
  | _ => undef

/-- A world for the witness: the settled one, the listed variables holding what the row lists. -/
noncomputable def laidWorld (os : Os) : World :=
  { World.holding Tryd.prog os ⟨#[], #[], []⟩ with heap := ((((World.holding Tryd.prog os ⟨#[], #[], []⟩).heap.modify 0 fun
      | .cells _ t frozen => .cells (signsD.cells.map lits).toArray t frozen
      | o => o).modify 1 fun
      | .cells _ t frozen => .cells ((unW Go.Pinned.utf8First).map lits).toArray t frozen
      | o => o).modify 2 fun
      | .cells _ t frozen => .cells (acc.cells.map lits).toArray t frozen
      | o => o) }

end Go.Vai
end

section
namespace Go.Vai
open Go.Proofs

end Go.Vai
end

section
namespace Go.Vai
open Go.Proofs

end Go.Vai
end

section
namespace Go.Vai
open Go.Proofs

end Go.Vai
end

section
namespace Go.Vai
open Go.Proofs

end Go.Vai
end

section
namespace Go.Vai
open Go.Proofs

end Go.Vai
end

section
namespace Go.Vai
open Go.Proofs

end Go.Vai
end

section
namespace Go.Vai
open Go.Proofs

inductive T where
  | mk (k : Int) (nm : List UInt8) (kids : List T) (nms : List (List UInt8)) (pl : Int)
def T.k : T → Int | .mk k _ _ _ _ => k
def T.nm : T → List UInt8 | .mk _ n _ _ _ => n
def T.kids : T → List T | .mk _ _ l _ _ => l
def T.nms : T → List (List UInt8) | .mk _ _ _ l _ => l
def T.pl : T → Int | .mk _ _ _ _ a => a
instance : Inhabited T := ⟨.mk 0 [] [] [] 0⟩

mutual
def T.d : T → D
  | .mk k nm kids nms pl => .agg [.int .i64 k, .str nm, .sl 5 (T.ds kids), .sl 1 (nms.map .str), .int .i64 pl]
def T.ds : List T → List D
  | [] => []
  | t :: l => t.d :: T.ds l
end
mutual
def T.depth : T → Nat | .mk _ _ kids _ _ => T.depths kids + 1
def T.depths : List T → Nat | [] => 0 | t :: l => max t.depth (T.depths l)
end

theorem ds_map (l : List T) : T.ds l = l.map T.d := by
  induction l with
  | nil => rfl
  | cons t l ih => simp only [T.ds, ih, List.map_cons]
theorem ds_len (l : List T) : (T.ds l).length = l.length := by rw [ds_map, List.length_map]
theorem depth_mem {t : T} : ∀ {l : List T}, t ∈ l → t.depth ≤ T.depths l
  | u :: l, h => by
    simp only [T.depths]
    cases h with
    | head => omega
    | tail _ h => have := depth_mem h; omega

/-- Strings' cells. -/
def strs : List D → Option (List (List UInt8))
  | [] => some []
  | .str s :: r => (match strs r with | some l => some (s :: l) | none => none)
  | _ :: _ => none
theorem strs_map (l : List (List UInt8)) : strs (l.map .str) = some l := by
  induction l with
  | nil => rfl
  | cons s l ih => simp only [List.map_cons, strs, ih]
theorem strs_some : ∀ {l : List D} {m}, strs l = some m → l = m.map .str
  | [], m, h => by cases h; rfl
  | x :: r, m, h => by
    unfold strs at h
    split at h
    · rename_i he; cases he
    · rename_i s q he
      cases he
      split at h
      · rename_i l hl; cases h; rw [strs_some hl]; rfl
      · cases h
    · cases h

def shrt {α : Type} (l : List α) : Bool := decide (l.length < 4294967296)
def toL (f : D → Option T) : List D → Option (List T)
  | [] => some []
  | x :: r => (match f x, toL f r with | some t, some l => some (t :: l) | _, _ => none)
/-- A tree, to some depth, each list in it shrt. -/
def Sp.toT : Nat → D → Option T
  | 0, _ => none
  | n + 1, .agg [.int .i64 k, .str nm, .sl 5 l, .sl 1 ns, .int .i64 pl] =>
    bif shrt nm && shrt l && shrt ns then (match toL (Sp.toT n) l, strs ns with | some kids, some nms => bif nms.all shrt then some (.mk k nm kids nms pl) else none | _, _ => none) else none
  | _, _ => none

theorem toL_some {f : D → Option T} : ∀ {l : List D} {m}, toL f l = some m → l.length = m.length ∧ ∀ (i : Nat) x t, l[i]? = some x → m[i]? = some t → f x = some t
  | [], m, h => by cases h; exact ⟨rfl, fun i x t h => by simp at h⟩
  | x :: r, m, h => by
    unfold toL at h
    split at h
    · rename_i t l ht hl
      cases h
      obtain ⟨h1, h2⟩ := toL_some hl
      refine ⟨by simp [h1], fun i y u hy hu => ?_⟩
      cases i with
      | zero => simp at hy hu; subst hy; subst hu; exact ht
      | succ i => exact h2 i y u (by simpa using hy) (by simpa using hu)
    · cases h

mutual
/-- Each list shrt. -/
def T.ok : T → Bool
  | .mk _ nm kids nms _ => shrt nm && shrt kids && shrt nms && nms.all shrt && T.oks kids
def T.oks : List T → Bool
  | [] => true
  | t :: l => t.ok && T.oks l
end
theorem oks_mem {t : T} : ∀ {l : List T}, T.oks l = true → t ∈ l → t.ok = true
  | u :: l, h, hm => by
    simp only [T.oks, Bool.and_eq_true] at h
    cases hm with
    | head => exact h.1
    | tail _ hm => exact oks_mem h.2 hm

theorem toT_some : ∀ {n : Nat} {x : D} {t : T}, Sp.toT n x = some t → x = t.d ∧ t.depth ≤ n ∧ t.ok = true
  | 0, x, t, h => by cases h
  | n + 1, x, t, h => by
    unfold Sp.toT at h
    split at h
    · rename_i he; cases he
    · rename_i m k nm l ns pl he
      cases he
      cases hc : (shrt nm && shrt l && shrt ns)
      · rw [hc] at h; cases h
      · rw [hc, cond_true] at h
        split at h
        · rename_i kids nms hk hn
          cases hs : nms.all shrt
          · rw [hs] at h; cases h
          · rw [hs, cond_true] at h
            cases h
            obtain ⟨h1, h2⟩ := toL_some hk
            simp only [Bool.and_eq_true] at hc
            have key : ∀ (l : List D) (m : List T), l.length = m.length → (∀ (i : Nat) x t, l[i]? = some x → m[i]? = some t → Sp.toT n x = some t) → l = T.ds m ∧ T.depths m ≤ n ∧ T.oks m = true := by
              intro l
              induction l with
              | nil => intro m hl _; cases m with | nil => exact ⟨rfl, by simp [T.depths], rfl⟩ | cons => simp at hl
              | cons x r ih =>
                intro m hl hx
                cases m with
                | nil => simp at hl
                | cons t m =>
                  obtain ⟨a1, a2, a3⟩ := toT_some (hx 0 x t rfl rfl)
                  obtain ⟨b1, b2, b3⟩ := ih m (by simpa using hl) fun i y u hy hu => hx (i + 1) y u (by simpa using hy) (by simpa using hu)
                  exact ⟨by rw [a1, b1]; rfl, by simp only [T.depths]; omega, by simp only [T.oks, a3, b3]; rfl⟩
            obtain ⟨c1, c2, c3⟩ := key l kids h1 h2
            refine ⟨by rw [c1, strs_some hn]; rfl, by simp only [T.depth]; omega, ?_⟩
            simp only [T.ok, hc.1.1, hs, c3, Bool.and_true, Bool.true_and, Bool.and_eq_true]
            refine ⟨?_, ?_⟩
            · have := hc.1.2; unfold shrt at this ⊢; rwa [h1] at this
            · have := hc.2; unfold shrt at this ⊢; rwa [strs_some hn, List.length_map] at this
        · cases h
    · cases h

theorem toT_d : ∀ {n : Nat} {t : T}, t.depth ≤ n → t.ok = true → Sp.toT n t.d = some t
  | 0, .mk .., h, _ => by simp [T.depth] at h
  | n + 1, .mk k nm kids nms pl, h, hok => by
    simp only [T.ok, Bool.and_eq_true] at hok
    have key : ∀ m : List T, T.depths m ≤ n → T.oks m = true → toL (Sp.toT n) (T.ds m) = some m := by
      intro m
      induction m with
      | nil => intro _ _; rfl
      | cons t m ih =>
        intro hd ho
        simp only [T.depths] at hd
        simp only [T.oks, Bool.and_eq_true] at ho
        simp only [T.ds, toL, toT_d (n := n) (t := t) (by omega) ho.1, ih (by omega) ho.2]
    simp only [T.depth] at h
    simp only [T.d, Sp.toT, strs_map, key kids (by omega) hok.2]
    have e1 : shrt (T.ds kids) = true := by have := hok.1.1.1.2; unfold shrt at this ⊢; rwa [ds_len]
    have e2 : shrt (nms.map D.str) = true := by have := hok.1.1.2; unfold shrt at this ⊢; rwa [List.length_map]
    rw [hok.1.1.1.1, e1, e2, hok.1.2]
    rfl

theorem nthD_ds {R : Type} {l : List T} {i : Nat} {K : D → Option R} : nthD (T.ds l) i K = optK l[i]? fun t => K t.d := by
  unfold nthD
  rw [ds_map, List.getElem?_map]
  cases l[i]? <;> rfl
theorem cells_d (t : T) : t.d.cells = [.int .i64 t.k, .str t.nm, .sl 5 (T.ds t.kids), .sl 1 (t.nms.map .str), .int .i64 t.pl] := by cases t; rfl
theorem agg_d (t : T) : D.agg [.int .i64 t.k, .str t.nm, .sl 5 (T.ds t.kids), .sl 1 (t.nms.map .str), .int .i64 t.pl] = t.d := by cases t; rfl
theorem k_mk {k nm kids nms pl} : (T.mk k nm kids nms pl).k = k := rfl
theorem nm_mk {k nm kids nms pl} : (T.mk k nm kids nms pl).nm = nm := rfl
theorem kids_mk {k nm kids nms pl} : (T.mk k nm kids nms pl).kids = kids := rfl
theorem nms_mk {k nm kids nms pl} : (T.mk k nm kids nms pl).nms = nms := rfl
theorem nth0 {R : Type} {a : D} {l : List D} {K : D → Option R} : nthD (a :: l) 0 K = K a := rfl
theorem nth1 {R : Type} {a b : D} {l : List D} {K : D → Option R} : nthD (a :: b :: l) 1 K = K b := rfl
theorem nth2 {R : Type} {a b c : D} {l : List D} {K : D → Option R} : nthD (a :: b :: c :: l) 2 K = K c := rfl
theorem nth3 {R : Type} {a b c d : D} {l : List D} {K : D → Option R} : nthD (a :: b :: c :: d :: l) 3 K = K d := rfl
theorem nth4 {R : Type} {a b c d e : D} {l : List D} {K : D → Option R} : nthD (a :: b :: c :: d :: e :: l) 4 K = K e := rfl
theorem nthD_strs {R : Type} {l : List (List UInt8)} {i : Nat} {K : D → Option R} : nthD (l.map D.str) i K = optK l[i]? fun t => K (.str t) := by
  unfold nthD
  rw [List.getElem?_map]
  cases l[i]? <;> rfl

/-- A caller that answers, without memory, by a plain function. -/
def pureK {α β : Type} (f : Nat) (dec : List V → Option α) (sp : α → Option β) (mk : β → V) (S : CK R1) : CK R1 where
  S := fun g args σ => bif Nat.beq g f && σ.isEmpty then optK (dec args) fun q => optK (sp q) fun b => some (.ret (mk b), []) else S.S g args σ
  run := fun g args σ K => bif Nat.beq g f && σ.isEmpty then optK (dec args) fun q => optK (sp q) fun b => K (.ret (mk b)) [] else S.run g args σ K
  ok := fun g a σ K => by
    show _ = optP _ K
    rw [optP_cond, optP_optK]
    cases Nat.beq g f && σ.isEmpty
    · exact S.ok g a σ K
    · simp only [cond_true, optP_optK]
      rfl
theorem pureK_knows {α β : Type} {f : Nat} {dec : List V → Option α} {sp : α → Option β} {mk : β → V} {S : CK R1} (hS : knows cx S.S (evLim cx))
    (hf : ∀ a q b, cx.dom f a = true → dec a = some q → sp q = some b → evLim cx f a [] = some (.ret (mk b), [])) : knows cx (pureK f dec sp mk S).S (evLim cx) := by
  intro g args σ r hd h
  simp only [pureK] at h
  cases hg : (Nat.beq g f && σ.isEmpty) <;> rw [hg] at h
  · exact hS g args σ r hd h
  · rw [Bool.and_eq_true] at hg
    obtain rfl := Nat.eq_of_beq_eq_true hg.1
    obtain rfl := List.isEmpty_iff.1 hg.2
    simp only [cond_true] at h
    obtain ⟨q, hq, h⟩ := optK_some h
    obtain ⟨b, hb, h⟩ := optK_some h
    cases h
    exact hf args q b hd hq hb

noncomputable def K13 : CK R1 := more 13 dec13 go13 go13_ok (CK.plain none1)
theorem K13_knows : knows cx K13.S (evLim cx) := more_knows none1K_knows lim13'
def mkB (b : Bool) : V := .d (.bool b)
def mkI (i : Int) : V := .d (.int .i64 i)
def mkS (s : List UInt8) : V := .d (.str s)
def decStr : List V → Option (List UInt8) | [.d (.str s)] => some s | _ => none
theorem decStr_some {a : List V} {s} (h : decStr a = some s) : a = [.d (.str s)] := by
  unfold decStr at h; split at h <;> cases h; rfl
end Go.Vai
end

section
namespace Go.Vai
open Go.Proofs

theorem g36 (n : Nat) (s : List UInt8) :
    evBody cx K13 n 36 [.d (.str s)] [] =
  must (decide (s.length ≤ big))
    (bif decide (Sp.scE s = 0) then
      bif decide ((↑(Sp.scL s).length : Int) = (2 : Int)) then
        must (decide ((0 : Int) < (↑(Sp.scL s).length : Int)))
          (nthD (Sp.scL s) (0 : Int).toNat fun y =>
            nthD y.cells 0 fun c =>
              match c with
              | D.int k' n =>
                bif decide (k' = IntKind.i64) then
                  bif decide (n = (1 : Int)) then
                    must (decide ((0 : Int) < (↑(Sp.scL s).length : Int)))
                      (nthD (Sp.scL s) (0 : Int).toNat fun y =>
                        nthD y.cells 1 fun c =>
                          match c with
                          | D.str s_1 => some (Out.ret (V.d (D.bool (decide (s_1 = s)))), [])
                          | x => none)
                  else some (Out.ret (V.d (D.bool false)), [])
                else none
              | x => none)
      else some (Out.ret (V.d (D.bool false)), [])
    else
      bif decide (Sp.scE s = (0 : Int)) then some (Out.ret (V.d (D.bool false)), [])
      else some (Out.ret (V.d (D.bool false)), [])) := by kernel_rfl

/-- Is a text a name? -/
def Sp.isName (s : List UInt8) : D → Bool | .agg [.int .i64 k, .str t, .int .i64 _] => decide (k = 1) && decide (t = s) | _ => false
def Sp.named (s : List UInt8) : Bool := decide (Sp.scE s = 0) && (match Sp.scL s with | [x, _] => Sp.isName s x | _ => false)

theorem scL_two {s : List UInt8} (h : Sp.scE s = 0) (h2 : (Sp.scL s).length = 2) : ∃ k t a y, Sp.scL s = [tokD k t a, y] := by
  rcases scan_says s with ⟨_, _, l, hl, hc⟩ | ⟨h1, _⟩
  · have e : Sp.scL s = l := by unfold Sp.scL; rw [hl]
    rw [e] at h2 ⊢
    cases hc with
    | fin _ _ => simp at h2
    | tok _ _ _ _ _ h =>
      cases h with
      | fin _ _ => exact ⟨_, _, _, _, rfl⟩
      | tok _ _ _ _ _ h => have := h.ne; simp only [List.length_cons] at h2; omega
  · exact absurd h h1

theorem named_ne {s : List UInt8} (h2 : (Sp.scL s).length ≠ 2) : Sp.named s = false := by
  unfold Sp.named
  split
  · rename_i x y h; rw [h] at h2; simp at h2
  · simp

theorem lim36 (s : List UInt8) (hs : s.length ≤ big) : evLim cx 36 [.d (.str s)] [] = some (.ret (.d (.bool (Sp.named s))), []) := by
  refine lim_bodyK K13_knows (N := 0) ?_
  rw [g36, decide_eq_true hs]
  by_cases h : Sp.scE s = 0
  · rw [decide_eq_true h]
    by_cases h2 : (Sp.scL s).length = 2
    · obtain ⟨k, t, a, y, hl⟩ := scL_two h h2
      have e : Sp.named s = (decide (k = 1) && decide (t = s)) := by unfold Sp.named; rw [h, hl]; rfl
      rw [e, hl]
      show (bif decide (k = 1) then _ else _) = _
      cases decide (k = 1) <;> rfl
    · rw [named_ne h2, decide_eq_false (p := ((Sp.scL s).length : Int) = 2) (by omega)]
      rfl
  · have e : Sp.named s = false := by unfold Sp.named; rw [decide_eq_false h]; rfl
    rw [decide_eq_false h, e]
    rfl

noncomputable def K1 : CK R1 := pureK 36 decStr (fun s => some (Sp.named s)) mkB (pureK 85 decStr (fun s => some (!Sp.named s)) mkB (CK.plain none1))

theorem g85 (n : Nat) (s : List UInt8) :
    evBody cx (pureK 36 decStr (fun s => some (Sp.named s)) mkB (CK.plain none1)) n 85 [.d (.str s)] [] =
  must (decide (s.length ≤ big)) (some (Out.ret (V.d (D.bool (!Sp.named s))), [])) := by kernel_rfl

theorem K1_knows : knows cx K1.S (evLim cx) := by
  have h0 : knows cx (CK.plain (R := R1) none1).S (evLim cx) := none1K_knows
  have h36 := pureK_knows (f := 36) (dec := decStr) (sp := fun s => some (Sp.named s)) (mk := mkB) h0 fun a q b hd h hb => by
    cases hb; obtain rfl := decStr_some h; exact lim36 q (of_decide_eq_true hd)
  have h85 := pureK_knows (f := 85) (dec := decStr) (sp := fun s => some (!Sp.named s)) (mk := mkB) h0 fun a q b hd h hb => by
    cases hb; obtain rfl := decStr_some h
    refine lim_bodyK h36 (N := 0) ?_
    rw [g85, decide_eq_true (of_decide_eq_true hd)]
    rfl
  exact pureK_knows h85 fun a q b hd h hb => by
    cases hb; obtain rfl := decStr_some h; exact lim36 q (of_decide_eq_true hd)
end Go.Vai
end

section
namespace Go.Vai
open Go.Proofs

def Sp.findN {α : Type} (p : α → Bool) : List α → Nat → Option Nat
  | [], _ => none
  | x :: r, j => bif p x then some j else Sp.findN p r (j + 1)
def Sp.idx {α : Type} (p : α → Bool) (l : List α) : Int := match Sp.findN p l 0 with | some j => (j : Int) | none => -1
theorem findN_any {α : Type} {p : α → Bool} : ∀ (l : List α) (j : Nat), (Sp.findN p l j).isSome = l.any p
  | [], _ => rfl
  | x :: r, j => by
    simp only [Sp.findN, List.any_cons]
    cases p x
    · simp only [cond_false, Bool.false_or]; exact findN_any r (j + 1)
    · rfl
theorem idx_any {α : Type} {p : α → Bool} (l : List α) : decide ((0 : Int) ≤ Sp.idx p l) = l.any p := by
  rw [← findN_any l 0]
  unfold Sp.idx
  cases Sp.findN p l 0 with
  | none => rfl
  | some j => exact decide_eq_true (Int.natCast_nonneg j)

theorem lt_nat {j n : Nat} (h : j < n) : decide ((j : Int) < (n : Int)) = true := decide_eq_true (by omega)
theorem ge_nat {n : Nat} : decide ((n : Int) < (n : Int)) = false := decide_eq_false (by omega)
theorem nn_nat {j : Nat} : decide ((0 : Int) ≤ (j : Int)) = true := decide_eq_true (by omega)
theorem at_drop {α : Type} {l r : List α} {x : α} {j : Nat} (h : l.drop j = x :: r) : j < l.length ∧ l[j]? = some x ∧ l.drop (j + 1) = r := by
  have h1 : j < l.length := by
    by_cases h' : j < l.length
    · exact h'
    · rw [List.drop_eq_nil_of_le (by omega)] at h; cases h
  rw [List.drop_eq_getElem_cons h1] at h
  injection h with h2 h3
  exact ⟨h1, by rw [List.getElem?_eq_getElem h1, h2], h3⟩
theorem up_short {j n : Nat} (h : j < n) (hn : n < 4294967296) : IntKind.i64.wrap ((j : Int) + 1) = ((j + 1 : Nat) : Int) := by
  rw [IntWalk.i64_in _ (by omega)]; rfl

/-- A loop over a list that stops at the first one that is so. -/
theorem find_loop {R α : Type} (L : Nat → Int → Option R) (xs : List α) (p : α → Bool) (B : Nat → Option R) (E : Option R) (hs : xs.length < 4294967296)
    (H : ∀ (k j : Nat) x, j < xs.length → xs[j]? = some x → L (k + 1) j = bif p x then B j else L k (IntKind.i64.wrap ((j : Int) + 1))) (HE : ∀ k, L (k + 1) xs.length = E) :
    ∀ (r : List α) (j k : Nat), xs.drop j = r → j ≤ xs.length → r.length < k → L k j = match Sp.findN p r j with | some i => B i | none => E
  | [], j, k, hd, hj, hk => by
    obtain ⟨k, rfl⟩ : ∃ i, k = i + 1 := ⟨k - 1, by omega⟩
    have : xs.length ≤ j := by simpa using hd
    obtain rfl : j = xs.length := by omega
    exact HE k
  | x :: r, j, k, hd, hj, hk => by
    obtain ⟨k, rfl⟩ : ∃ i, k = i + 1 := ⟨k - 1, by omega⟩
    obtain ⟨h1, h2, h3⟩ := at_drop hd
    rw [H k j x h1 h2, Sp.findN]
    cases p x
    · rw [cond_false, cond_false, up_short h1 hs]
      exact find_loop L xs p B E hs H HE r (j + 1) k h3 h1 (by simp at hk; omega)
    · rfl

theorem shrt_lt {α : Type} {l : List α} (h : shrt l = true) : l.length < 4294967296 := of_decide_eq_true h
theorem shrt_big {s : List UInt8} (h : shrt s = true) : decide (s.length ≤ big) = true := decide_eq_true (by have := shrt_lt h; unfold big; omega)
theorem all_at {α : Type} {p : α → Bool} {l : List α} (h : l.all p = true) {j : Nat} {x : α} (hx : l[j]? = some x) : p x = true := List.all_eq_true.1 h x (List.mem_of_getElem? hx)

theorem g103 (n : Nat) (l : List (List UInt8)) :
    evBody cx K1 n 103 [.d (.sl 1 (l.map .str)), .func 85 []] [] =
  LP cx K1 n 103 0 2 n
    [(0, V.d (D.sl 1 (List.map D.str l))), (1, V.func 85 []),
      (7, V.d (D.int IntKind.i64 (↑(List.map D.str l).length : Int))), (8, V.d (D.int IntKind.i64 (0 : Int)))]
    [] (AK cx K1 n 103 0 2 (EK cx 103 0)) := by kernel_rfl

theorem l103 (n k : Nat) (l : List (List UInt8)) (i : Int) :
    LP cx K1 n 103 0 2 (k + 1) [(0, V.d (D.sl 1 (List.map D.str l))), (1, V.func 85 []), (7, V.d (D.int IntKind.i64 (l.length : Int))), (8, V.d (D.int IntKind.i64 i))] [] (AK cx K1 n 103 0 2 (EK cx 103 0)) =
  bif decide (i < (↑l.length : Int)) then
    must (decide (0 ≤ i) && decide (i < (↑(List.map D.str l).length : Int)))
      (nthD (List.map D.str l) i.toNat fun y =>
        nthD y.cells 0 fun c =>
          match c with
          | D.str s =>
            must (decide (s.length ≤ big))
              (bif !Sp.named s then some (Out.ret (V.d (D.int IntKind.i64 i)), [])
              else
                LP cx K1 n 103 0 2 k
                  [(0, V.d (D.sl 1 (List.map D.str l))), (1, V.func 85 []),
                    (7, V.d (D.int IntKind.i64 (↑l.length : Int))),
                    (8, V.d (D.int IntKind.i64 (IntKind.i64.wrap (i + (1 : Int)))))]
                  [] (AK cx K1 n 103 0 2 (EK cx 103 0)))
          | x => none)
  else some (Out.ret (V.d (D.int IntKind.i64 (Int.negSucc 0))), []) := by kernel_rfl

theorem lim103 (l : List (List UInt8)) (hl : shrt l = true) (ha : l.all shrt = true) : evLim cx 103 [.d (.sl 1 (l.map .str)), .func 85 []] [] = some (.ret (.d (.int .i64 (Sp.idx (fun s => !Sp.named s) l))), []) := by
  refine lim_bodyK K1_knows (N := l.length + 1) ?_
  rw [g103]
  have h := find_loop (fun k i => LP cx K1 (l.length + 1) 103 0 2 k [(0, V.d (D.sl 1 (List.map D.str l))), (1, V.func 85 []), (7, V.d (D.int IntKind.i64 (l.length : Int))), (8, V.d (D.int IntKind.i64 i))] [] (AK cx K1 (l.length + 1) 103 0 2 (EK cx 103 0)))
    l (fun s => !Sp.named s) (fun j => some (Out.ret (V.d (D.int IntKind.i64 j)), [])) (some (Out.ret (V.d (D.int IntKind.i64 (Int.negSucc 0))), [])) (shrt_lt hl)
    (fun k j x hj hx => by
      rw [l103, List.length_map, lt_nat hj, nn_nat, nthD_strs, Int.toNat_natCast, hx]
      simp only [cond_true, must, optK, Bool.and_self]
      show must (decide (x.length ≤ big)) _ = _
      rw [shrt_big (all_at ha hx)]
      rfl) (fun k => by rw [l103, ge_nat, cond_false]) l 0 (l.length + 1) rfl (Nat.zero_le _) (by omega)
  rw [List.length_map]
  refine h.trans ?_
  unfold Sp.idx
  cases Sp.findN (fun s => !Sp.named s) l 0 <;> rfl

def Sp.ns : D → Option (List (List UInt8)) | .sl 1 l => (match strs l with | some m => bif shrt m && m.all shrt then some m else none | none => none) | _ => none
def decD : List V → Option D | [.d x] => some x | _ => none
def decDF (c : Nat) : List V → Option D | [.d x, .func g []] => bif Nat.beq g c then some x else none | _ => none
theorem decD_some {a : List V} {x : D} (h : decD a = some x) : a = [.d x] := by
  unfold decD at h
  split at h
  · cases h; rfl
  · cases h
theorem decDF_some {a : List V} {c : Nat} {x : D} (h : decDF c a = some x) : a = [.d x, .func c []] := by
  unfold decDF at h
  split at h
  · rename_i x g
    cases hc : Nat.beq g c <;> rw [hc] at h
    · cases h
    · obtain rfl := Nat.eq_of_beq_eq_true hc
      cases h; rfl
  · cases h
theorem ns_some {x : D} {m} (h : Sp.ns x = some m) : x = .sl 1 (m.map .str) ∧ shrt m = true ∧ m.all shrt = true := by
  unfold Sp.ns at h
  split at h
  · split at h
    · rename_i m' hm
      cases hc : (shrt m' && m'.all shrt) <;> rw [hc] at h
      · cases h
      · cases h
        rw [Bool.and_eq_true] at hc
        exact ⟨by rw [strs_some hm], hc⟩
    · cases h
  · cases h
theorem ns_of {m : List (List UInt8)} (h1 : shrt m = true) (h2 : m.all shrt = true) : Sp.ns (.sl 1 (m.map .str)) = some m := by
  unfold Sp.ns
  simp only [strs_map, h1, h2]
  rfl
noncomputable def K2 : CK R1 := pureK 103 (decDF 85) Sp.ns (fun l => mkI (Sp.idx (fun s => !Sp.named s) l)) K1
theorem K2_knows : knows cx K2.S (evLim cx) := pureK_knows K1_knows fun a q b hd h hb => by
  obtain rfl := decDF_some h
  obtain ⟨rfl, h1, h2⟩ := ns_some hb
  exact lim103 b h1 h2

end Go.Vai
end

section
namespace Go.Vai
open Go.Proofs

open Classical in
/-- A tree, of any depth. -/
noncomputable def Sp.toC (x : D) : Option T := if h : ∃ t : T, x = t.d ∧ t.ok = true then some h.choose else none
theorem toC_some {x : D} {t : T} (h : Sp.toC x = some t) : x = t.d ∧ t.ok = true := by
  unfold Sp.toC at h
  split at h
  · rename_i hex; cases h; exact hex.choose_spec
  · cases h
theorem d_inj {t u : T} (ht : t.ok = true) (hu : u.ok = true) (h : t.d = u.d) : t = u := by
  have h1 := toT_d (n := max t.depth u.depth) (t := t) (by omega) ht
  have h2 := toT_d (n := max t.depth u.depth) (t := u) (by omega) hu
  rw [h, h2] at h1
  exact (Option.some.inj h1).symm
theorem toC_d {t : T} (h : t.ok = true) : Sp.toC t.d = some t := by
  have hex : ∃ u : T, t.d = u.d ∧ u.ok = true := ⟨t, rfl, h⟩
  unfold Sp.toC
  rw [dif_pos hex]
  obtain ⟨h1, h2⟩ := hex.choose_spec
  rw [← d_inj h h2 h1]

/-- Just so many kids and names, and perhaps a name. -/
def Sp.plain : T × Int × Int × Bool → Bool
  | (.mk _ nm kids nms _, a, b, w) => decide ((kids.length : Int) = a) && decide ((nms.length : Int) = b) && (w || decide (nm = [])) && nms.all Sp.named
def Sp.bit (s : List UInt8) : Bool := decide (s = [48]) || decide (s = [49])
def Sp.form : T → Bool
  | .mk k nm [] nms _ => decide (nms = []) && ((decide (k = 1) && Sp.named nm) || (decide (k = 17) && Sp.bit nm))
  | .mk k nm [a] nms _ => decide (k = 16) && decide (nm = []) && decide (nms = []) && Sp.form a
  | .mk k nm [a, b] nms _ => (decide (k = 14) || decide (k = 15)) && decide (nm = []) && decide (nms = []) && Sp.form a && Sp.form b
  | _ => false
def Sp.eqn : T → Bool
  | .mk k nm [] [x] _ => decide (k = 13) && Sp.named nm && Sp.bit x
  | _ => false
def Sp.faceB : T → Bool
  | .mk k nm kids nms _ => decide (k = 12) && decide (nm = []) && decide (nms = []) && kids.all Sp.eqn
mutual
def Sp.right : T → Bool
  | .mk k nm [] nms _ => decide (nms = []) && ((decide (k = 1) && Sp.named nm) || (decide (k = 10) && decide (nm = [])))
  | .mk k nm [a] nms _ => decide (nm = []) && (((decide (k = 2) || decide (k = 3)) && !decide (nms = []) && nms.all Sp.named && Sp.right a) || (decide (k = 10) && decide (nms = []) && Sp.elem a))
  | .mk k nm [a, b] nms _ => decide (nm = []) && (((decide (k = 4) || decide (k = 5)) && decide (nms.length < 2) && nms.all Sp.named && Sp.right a && Sp.right b) ||
      ((decide (k = 6) || decide (k = 8) || decide (k = 9)) && decide (nms = []) && Sp.right a && Sp.right b) || (decide (k = 7) && decide (nms = []) && Sp.right a && Sp.form b) || (decide (k = 10) && decide (nms = []) && Sp.elem a && Sp.elem b))
  | .mk k nm (a :: b :: c :: l) nms _ => decide (nm = []) && decide (k = 10) && decide (nms = []) && (Sp.elem a && Sp.elem b && Sp.elem c && Sp.elems l)
def Sp.elem : T → Bool
  | .mk k nm [f] nms _ => decide (k = 11) && decide (nm = []) && decide (nms = []) && Sp.faceB f
  | .mk k nm [f, u] nms _ => decide (k = 11) && decide (nm = []) && decide (nms = []) && Sp.faceB f && Sp.right u
  | _ => false
def Sp.elems : List T → Bool
  | [] => true
  | t :: l => Sp.elem t && Sp.elems l
end
theorem elems_all : ∀ l : List T, Sp.elems l = l.all Sp.elem
  | [] => rfl
  | t :: l => by rw [Sp.elems, elems_all l, List.all_cons]

def decPl : List V → Option (D × Int × Int × Bool)
  | [.d x, .d (.int .i64 a), .d (.int .i64 b), .d (.bool w)] => some (x, a, b, w)
  | _ => none
theorem decPl_some {a : List V} {q} (h : decPl a = some q) : a = [.d q.1, .d (.int .i64 q.2.1), .d (.int .i64 q.2.2.1), .d (.bool q.2.2.2)] := by
  unfold decPl at h
  split at h
  · cases h; rfl
  · cases h
noncomputable def K3 : CK R1 := pureK 84 (decDF 85) Sp.ns (fun l => mkB (l.any (fun s => !Sp.named s))) K2
noncomputable def K4 : CK R1 := pureK 61 decPl (fun q => optK (Sp.toC q.1) fun t => some (t, q.2)) (fun q => mkB (Sp.plain q)) K3
/-- A slice of trees. -/
def Sp.ts (f : D → Option T) : D → Option (List T) | .sl 5 l => (match toL f l with | some m => bif shrt m then some m else none | none => none) | _ => none
theorem ts_some {f : D → Option T} {x : D} {m : List T} (h : Sp.ts f x = some m) : ∃ l, x = .sl 5 l ∧ toL f l = some m ∧ shrt m = true := by
  unfold Sp.ts at h
  split at h
  · split at h
    · rename_i l q hq
      cases hs : shrt q <;> rw [hs] at h
      · cases h
      · cases h; exact ⟨_, rfl, hq, hs⟩
    · cases h
  · cases h
/-- Trees, as they lie. -/
theorem toL_ds {f : D → Option T} (hf : ∀ x t, f x = some t → x = t.d) : ∀ {l : List D} {m : List T}, toL f l = some m → l = T.ds m ∧ ∀ t ∈ m, f t.d = some t
  | [], m, h => by cases h; exact ⟨rfl, fun t ht => by cases ht⟩
  | x :: r, m, h => by
    unfold toL at h
    split at h
    · rename_i t l ht hl
      cases h
      obtain ⟨h1, h2⟩ := toL_ds hf hl
      have hx := hf x t ht
      refine ⟨by rw [hx, h1]; rfl, fun u hu => ?_⟩
      cases hu with
      | head => rw [← hx]; exact ht
      | tail _ hu => exact h2 u hu
    · cases h
theorem ts_of {f : D → Option T} : ∀ {m : List T}, (∀ t ∈ m, f t.d = some t) → shrt m = true → Sp.ts f (.sl 5 (T.ds m)) = some m := by
  intro m h hs
  have key : ∀ l : List T, (∀ t ∈ l, f t.d = some t) → toL f (T.ds l) = some l := by
    intro l
    induction l with
    | nil => intro _; rfl
    | cons t l ih =>
      intro h
      simp only [T.ds, toL, h t (List.mem_cons_self ..), ih fun u hu => h u (List.mem_cons_of_mem _ hu)]
  simp only [Sp.ts, key m h, hs]
  rfl
end Go.Vai
end

section
namespace Go.Vai
open Go.Proofs

theorem any_not {l : List (List UInt8)} : (!l.any fun s => !Sp.named s) = l.all Sp.named := by rw [List.not_any_eq_all_not]; simp
theorem ok_inv {k : Int} {nm : List UInt8} {kids : List T} {nms : List (List UInt8)} {pl : Int} (h : (T.mk k nm kids nms pl).ok = true) : shrt nm = true ∧ shrt kids = true ∧ shrt nms = true ∧ nms.all shrt = true ∧ T.oks kids = true := by
  simp only [T.ok, Bool.and_eq_true] at h
  exact ⟨h.1.1.1.1, h.1.1.1.2, h.1.1.2, h.1.2, h.2⟩
theorem depth_inv {k : Int} {nm : List UInt8} {kids : List T} {nms : List (List UInt8)} {pl : Int} {m : Nat} (h : (T.mk k nm kids nms pl).depth ≤ m + 1) : T.depths kids ≤ m := by
  simp only [T.depth] at h; omega
/-- A kid is one that is known. -/
theorem kid_toT {t : T} {l : List T} {m : Nat} (hd : T.depths l ≤ m) (ho : T.oks l = true) (h : t ∈ l) : Sp.toT m t.d = some t :=
  toT_d (Nat.le_trans (depth_mem h) hd) (oks_mem ho h)
theorem kid_toC {t : T} {l : List T} (ho : T.oks l = true) (h : t ∈ l) : Sp.toC t.d = some t := toC_d (oks_mem ho h)
theorem g84 (n : Nat) (l : List (List UInt8)) : evBody cx K2 n 84 [.d (.sl 1 (l.map .str)), .func 85 []] [] = optK (Sp.ns (D.sl 1 (List.map D.str l))) fun b => some (Out.ret (V.d (D.bool (decide ((0 : Int) ≤ Sp.idx (fun s => !Sp.named s) b)))), []) := by kernel_rfl

theorem g61 (n : Nat) (k : Int) (nm : List UInt8) (kids : List T) (nms : List (List UInt8)) (pl a b : Int) (w : Bool) : evBody cx K3 n 61 [.d (.agg [.int .i64 k, .str nm, .sl 5 (T.ds kids), .sl 1 (nms.map .str), .int .i64 pl]), .d (.int .i64 a), .d (.int .i64 b), .d (.bool w)] [] = bif !decide ((↑(T.ds kids).length : Int) = a) then some (Out.ret (V.d (D.bool false)), []) else bif !decide ((↑(List.map D.str nms).length : Int) = b) then some (Out.ret (V.d (D.bool false)), []) else bif !w then bif !decide (nm = []) then some (Out.ret (V.d (D.bool false)), []) else optK (Sp.ns (D.sl 1 (List.map D.str nms))) fun b => some (Out.ret (V.d (D.bool !b.any fun s => !Sp.named s)), []) else optK (Sp.ns (D.sl 1 (List.map D.str nms))) fun b => some (Out.ret (V.d (D.bool !b.any fun s => !Sp.named s)), []) := by kernel_rfl

theorem lim84 (l : List (List UInt8)) (h1 : shrt l = true) (h2 : l.all shrt = true) : evLim cx 84 [.d (.sl 1 (l.map .str)), .func 85 []] [] = some (.ret (mkB (l.any fun s => !Sp.named s)), []) := by
  refine lim_bodyK K2_knows (N := 0) ?_
  rw [g84, ns_of h1 h2, ← idx_any]
  rfl
theorem K3_knows : knows cx K3.S (evLim cx) := pureK_knows K2_knows fun a q b hd h hb => by
  obtain rfl := decDF_some h
  obtain ⟨rfl, h1, h2⟩ := ns_some hb
  exact lim84 b h1 h2

theorem lim61 (t : T) (a b : Int) (w : Bool) (h : t.ok = true) : evLim cx 61 [.d t.d, .d (.int .i64 a), .d (.int .i64 b), .d (.bool w)] [] = some (.ret (mkB (Sp.plain (t, a, b, w))), []) := by
  obtain ⟨k, nm, kids, nms, pl⟩ := t
  obtain ⟨h1, h2, h3, h4, h5⟩ := ok_inv h
  refine lim_bodyK K3_knows (N := 0) ?_
  refine (g61 0 k nm kids nms pl a b w).trans ?_
  rw [ns_of h3 h4, ds_len, List.length_map]
  simp only [optK, any_not, Sp.plain, mkB]
  cases decide ((kids.length : Int) = a) <;> cases decide ((nms.length : Int) = b) <;> cases w <;> cases decide (nm = []) <;> rfl
theorem K4_knows : knows cx K4.S (evLim cx) := pureK_knows K3_knows fun a q b hd h hb => by
  obtain rfl := decPl_some h
  obtain ⟨t, ht, hb⟩ := optK_some hb
  cases hb
  obtain ⟨he, h1⟩ := toC_some ht
  rw [he]
  exact lim61 t _ _ _ h1

theorem g88 (n : Nat) (k : Int) (nm : List UInt8) (kids : List T) (nms : List (List UInt8)) (pl : Int) : evBody cx K4 n 88 [.d (.agg [.int .i64 k, .str nm, .sl 5 (T.ds kids), .sl 1 (nms.map .str), .int .i64 pl])] [] = bif decide (k = (13 : Int)) then bif decide ((↑(T.ds kids).length : Int) = (0 : Int)) then must (decide (nm.length ≤ big)) (bif Sp.named nm then bif decide ((↑(List.map D.str nms).length : Int) = (1 : Int)) then must (decide ((0 : Int) < (↑(List.map D.str nms).length : Int))) (nthD (List.map D.str nms) (0 : Int).toNat fun y => nthD y.cells 0 fun c => match c with
 | D.str s => bif decide (s = [48]) then some (Out.ret (V.d (D.bool true)), []) else must (decide ((0 : Int) < (↑(List.map D.str nms).length : Int))) (nthD (List.map D.str nms) (0 : Int).toNat fun y => nthD y.cells 0 fun c => match c with
  | D.str s => some (Out.ret (V.d (D.bool (decide (s = [49])))), [])
  | x => none)
 | x => none) else some (Out.ret (V.d (D.bool false)), []) else some (Out.ret (V.d (D.bool false)), [])) else some (Out.ret (V.d (D.bool false)), []) else some (Out.ret (V.d (D.bool false)), []) := by kernel_rfl

theorem g62 (n m : Nat) (k : Int) (nm : List UInt8) (kids : List T) (nms : List (List UInt8)) (pl : Int) : evBody cx (pureK 62 decD (Sp.toT m) (fun t => mkB (Sp.form t)) K4) n 62 [.d (.agg [.int .i64 k, .str nm, .sl 5 (T.ds kids), .sl 1 (nms.map .str), .int .i64 pl])] [] = bif decide (k = (1 : Int)) then optK (optK (Sp.toC (D.agg [D.int IntKind.i64 k, D.str nm, D.sl 5 (T.ds kids), D.sl 1 (List.map D.str nms), D.int IntKind.i64 pl], (0 : Int), (0 : Int), true).fst) fun t => some (t, (0 : Int), (0 : Int), true)) fun b => bif Sp.plain b then must (decide (nm.length ≤ big)) (some (Out.ret (V.d (D.bool (Sp.named nm))), [])) else some (Out.ret (V.d (D.bool false)), []) else bif decide (k = (17 : Int)) then optK (optK (Sp.toC (D.agg [D.int IntKind.i64 k, D.str nm, D.sl 5 (T.ds kids), D.sl 1 (List.map D.str nms), D.int IntKind.i64 pl], (0 : Int), (0 : Int), true).fst) fun t => some (t, (0 : Int), (0 : Int), true)) fun b => bif Sp.plain b then bif decide (nm = [48]) then some (Out.ret (V.d (D.bool true)), []) else some (Out.ret (V.d (D.bool (decide (nm = [49])))), []) else some (Out.ret (V.d (D.bool false)), []) else bif decide (k = (16 : Int)) then optK (optK (Sp.toC (D.agg [D.int IntKind.i64 k, D.str nm, D.sl 5 (T.ds kids), D.sl 1 (List.map D.str nms), D.int IntKind.i64 pl], (1 : Int), (0 : Int), false).fst) fun t => some (t, (1 : Int), (0 : Int), false)) fun b => bif Sp.plain b then must (decide ((0 : Int) < (↑(T.ds kids).length : Int))) (nthD (T.ds kids) (0 : Int).toNat fun y => nthD y.cells 0 fun c => nthD y.cells 1 fun c_1 => nthD y.cells 2 fun c_2 => nthD y.cells 3 fun c_3 => nthD y.cells 4 fun c_4 => optK (Sp.toT m (D.agg [c, c_1, c_2, c_3, c_4])) fun b => some (Out.ret (V.d (D.bool (Sp.form b))), [])) else some (Out.ret (V.d (D.bool false)), []) else bif decide (k = (15 : Int)) then bif decide (k = (15 : Int)) then optK (optK (Sp.toC (D.agg [D.int IntKind.i64 k, D.str nm, D.sl 5 (T.ds kids), D.sl 1 (List.map D.str nms), D.int IntKind.i64 pl], (2 : Int), (0 : Int), false).fst) fun t => some (t, (2 : Int), (0 : Int), false)) fun b => bif Sp.plain b then must (decide ((0 : Int) < (↑(T.ds kids).length : Int))) (nthD (T.ds kids) (0 : Int).toNat fun y => nthD y.cells 0 fun c => nthD y.cells 1 fun c_1 => nthD y.cells 2 fun c_2 => nthD y.cells 3 fun c_3 => nthD y.cells 4 fun c_4 => optK (Sp.toT m (D.agg [c, c_1, c_2, c_3, c_4])) fun b => bif Sp.form b then must (decide ((1 : Int) < (↑(T.ds kids).length : Int))) (nthD (T.ds kids) (1 : Int).toNat fun y => nthD y.cells 0 fun c => nthD y.cells 1 fun c_5 => nthD y.cells 2 fun c_6 => nthD y.cells 3 fun c_7 => nthD y.cells 4 fun c_8 => optK (Sp.toT m (D.agg [c, c_5, c_6, c_7, c_8])) fun b => some (Out.ret (V.d (D.bool (Sp.form b))), [])) else some (Out.ret (V.d (D.bool false)), [])) else some (Out.ret (V.d (D.bool false)), []) else some (Out.ret (V.d (D.bool false)), []) else bif decide (k = (14 : Int)) then optK (optK (Sp.toC (D.agg [D.int IntKind.i64 k, D.str nm, D.sl 5 (T.ds kids), D.sl 1 (List.map D.str nms), D.int IntKind.i64 pl], (2 : Int), (0 : Int), false).fst) fun t => some (t, (2 : Int), (0 : Int), false)) fun b => bif Sp.plain b then must (decide ((0 : Int) < (↑(T.ds kids).length : Int))) (nthD (T.ds kids) (0 : Int).toNat fun y => nthD y.cells 0 fun c => nthD y.cells 1 fun c_1 => nthD y.cells 2 fun c_2 => nthD y.cells 3 fun c_3 => nthD y.cells 4 fun c_4 => optK (Sp.toT m (D.agg [c, c_1, c_2, c_3, c_4])) fun b => bif Sp.form b then must (decide ((1 : Int) < (↑(T.ds kids).length : Int))) (nthD (T.ds kids) (1 : Int).toNat fun y => nthD y.cells 0 fun c => nthD y.cells 1 fun c_5 => nthD y.cells 2 fun c_6 => nthD y.cells 3 fun c_7 => nthD y.cells 4 fun c_8 => optK (Sp.toT m (D.agg [c, c_5, c_6, c_7, c_8])) fun b => some (Out.ret (V.d (D.bool (Sp.form b))), [])) else some (Out.ret (V.d (D.bool false)), [])) else some (Out.ret (V.d (D.bool false)), []) else some (Out.ret (V.d (D.bool false)), []) := by kernel_rfl

theorem lenI {α : Type} (l : List α) (n : Nat) : decide ((l.length : Int) = (n : Int)) = decide (l.length = n) := by
  by_cases h : l.length = n
  · rw [decide_eq_true h, decide_eq_true (by omega)]
  · rw [decide_eq_false h, decide_eq_false (by omega)]
theorem lenZ {α : Type} (l : List α) : decide ((l.length : Int) = 0) = decide (l.length = 0) := lenI l 0
theorem lenO {α : Type} (l : List α) : decide ((l.length : Int) = 1) = decide (l.length = 1) := lenI l 1
theorem lenT {α : Type} (l : List α) : decide ((l.length : Int) = 2) = decide (l.length = 2) := lenI l 2
theorem lenP {α : Type} (l : List α) : decide ((0 : Int) < (l.length : Int)) = decide (0 < l.length) := by
  by_cases h : 0 < l.length
  · rw [decide_eq_true h, decide_eq_true (by omega)]
  · rw [decide_eq_false h, decide_eq_false (by omega)]
theorem lenP1 {α : Type} (l : List α) : decide ((1 : Int) < (l.length : Int)) = decide (1 < l.length) := by
  by_cases h : 1 < l.length
  · rw [decide_eq_true h, decide_eq_true (by omega)]
  · rw [decide_eq_false h, decide_eq_false (by omega)]

theorem cond_and {c x : Bool} {σ : St} : (bif c then some (Out.ret (V.d (D.bool x)), σ) else some (Out.ret (V.d (D.bool false)), σ)) = some (Out.ret (V.d (D.bool (c && x))), σ) := by cases c <;> rfl
theorem cond_or {c x : Bool} {σ : St} : (bif c then some (Out.ret (V.d (D.bool true)), σ) else some (Out.ret (V.d (D.bool x)), σ)) = some (Out.ret (V.d (D.bool (c || x))), σ) := by cases c <;> rfl

theorem lim88 (t : T) (h : t.ok = true) : evLim cx 88 [.d t.d] [] = some (.ret (mkB (Sp.eqn t)), []) := by
  obtain ⟨k, nm, kids, nms, pl⟩ := t
  obtain ⟨h1, h2, h3, h4, h5⟩ := ok_inv h
  refine lim_bodyK K4_knows (N := 0) ?_
  refine (g88 0 k nm kids nms pl).trans ?_
  simp only [ds_len, List.length_map, shrt_big h1, lenZ, lenO, lenP, nthD_strs]
  have hk : k = 13 ∨ k ≠ 13 := by omega
  rcases hk with rfl | hk <;> rcases kids with _ | ⟨a, kids⟩ <;> rcases nms with _ | ⟨x, _ | ⟨y, nms⟩⟩ <;> simp [Sp.eqn, mkB, must, optK, Sp.bit, cond_and, cond_or, *]
  show (bif Sp.named nm then (bif decide (x = [48]) then _ else some (Out.ret (V.d (D.bool (decide (x = [49])))), [])) else _) = _
  simp only [cond_or, cond_and]

theorem lim62 : ∀ (m : Nat) (t : T), t.depth ≤ m → t.ok = true → evLim cx 62 [.d t.d] [] = some (.ret (mkB (Sp.form t)), [])
  | 0, .mk .., h, _ => by simp [T.depth] at h
  | m + 1, .mk k nm kids nms pl, hd, ho => by
    have hK : knows cx (pureK 62 decD (Sp.toT m) (fun t => mkB (Sp.form t)) K4).S (evLim cx) := pureK_knows K4_knows fun a q b _ h hb => by
      obtain rfl := decD_some h
      obtain ⟨rfl, h1, h2⟩ := toT_some hb
      exact lim62 m b h1 h2
    obtain ⟨h1, h2, h3, h4, h5⟩ := ok_inv ho
    have hkd := depth_inv hd
    refine lim_bodyK hK (N := 0) ?_
    refine (g62 0 m k nm kids nms pl).trans ?_
    have hC : Sp.toC (D.agg [D.int IntKind.i64 k, D.str nm, D.sl 5 (T.ds kids), D.sl 1 (List.map D.str nms), D.int IntKind.i64 pl]) = some (.mk k nm kids nms pl) := toC_d ho
    have hT : ∀ t ∈ kids, Sp.toT m t.d = some t := fun t h => kid_toT hkd h5 h
    simp only [hC, optK, ds_len, shrt_big h1, must, cond_true, nthD_ds, cells_d, nth0, nth1, nth2, nth3, nth4, agg_d, Sp.plain, lenZ, lenO, lenT, lenP, lenP1]
    clear hC hK ho hd
    have hk : k = 1 ∨ k = 17 ∨ k = 16 ∨ k = 15 ∨ k = 14 ∨ (k ≠ 1 ∧ k ≠ 17 ∧ k ≠ 16 ∧ k ≠ 15 ∧ k ≠ 14) := by omega
    rcases hk with rfl | rfl | rfl | rfl | rfl | ⟨q1, q2, q3, q4, q5⟩ <;> rcases kids with _ | ⟨a, _ | ⟨b, _ | ⟨c, l⟩⟩⟩ <;> rcases nms with _ | ⟨x, nms⟩ <;> simp [Sp.form, mkB, Sp.bit, hT, cond_and, cond_or, Bool.and_assoc, *]
noncomputable def K5 : CK R1 := pureK 62 decD Sp.toC (fun t => mkB (Sp.form t)) (pureK 88 decD Sp.toC (fun t => mkB (Sp.eqn t)) K4)
theorem K5_knows : knows cx K5.S (evLim cx) := by
  have h88 := pureK_knows (f := 88) (dec := decD) (sp := Sp.toC) (mk := fun t => mkB (Sp.eqn t)) K4_knows fun a q b hd h hb => by
    obtain rfl := decD_some h
    obtain ⟨rfl, h1⟩ := toC_some hb
    exact lim88 b h1
  exact pureK_knows h88 fun a q b hd h hb => by
    obtain rfl := decD_some h
    obtain ⟨rfl, h1⟩ := toC_some hb
    exact lim62 b.depth b (Nat.le_refl _) h1
theorem g87 (n : Nat) (t : T) : evBody cx K5 n 87 [.d t.d] [] = optK (Sp.toC t.d) fun b => some (Out.ret (V.d (D.bool !Sp.eqn b)), []) := by
  cases t; kernel_rfl
noncomputable def K6 : CK R1 := pureK 87 decD Sp.toC (fun t => mkB (!Sp.eqn t)) K5
theorem K6_knows : knows cx K6.S (evLim cx) := pureK_knows K5_knows fun a q b hd h hb => by
  obtain rfl := decD_some h
  obtain ⟨rfl, h1⟩ := toC_some hb
  refine lim_bodyK K5_knows (N := 0) ?_
  rw [g87, toC_d h1]
  rfl
end Go.Vai
end

section
namespace Go.Vai
open Go.Proofs

theorem g86 (n : Nat) (l : List T) (S : CK R1) (g : Nat) : evBody cx S n 86 [.d (.sl 5 (T.ds l)), .func g []] [] = LP cx S n 86 0 2 n [(0, V.d (D.sl 5 (T.ds l))), (1, V.func g []), (7, V.d (D.int IntKind.i64 (↑(T.ds l).length : Int))), (8, V.d (D.int IntKind.i64 (0 : Int)))] [] (AK cx S n 86 0 2 (EK cx 86 0)) := by kernel_rfl

theorem l86a (n k : Nat) (l : List T) (i : Int) (f : D → Option T) (p : T → Bool) (S : CK R1) : LP cx (pureK 87 decD f (fun t => mkB (p t)) S) n 86 0 2 (k + 1) [(0, V.d (D.sl 5 (T.ds l))), (1, V.func 87 []), (7, V.d (D.int IntKind.i64 (l.length : Int))), (8, V.d (D.int IntKind.i64 i))] [] (AK cx (pureK 87 decD f (fun t => mkB (p t)) S) n 86 0 2 (EK cx 86 0)) = bif decide (i < (↑l.length : Int)) then must (decide (0 ≤ i) && decide (i < (↑(T.ds l).length : Int))) (nthD (T.ds l) i.toNat fun y => nthD y.cells 0 fun c => nthD y.cells 1 fun c_1 => nthD y.cells 2 fun c_2 => nthD y.cells 3 fun c_3 => nthD y.cells 4 fun c_4 => optK (f (D.agg [c, c_1, c_2, c_3, c_4])) fun b => bif p b then some (Out.ret (V.d (D.int IntKind.i64 i)), []) else LP cx (pureK 87 decD f (fun t => mkB (p t)) S) n 86 0 2 k [(0, V.d (D.sl 5 (T.ds l))), (1, V.func 87 []), (7, V.d (D.int IntKind.i64 (↑l.length : Int))), (8, V.d (D.int IntKind.i64 (IntKind.i64.wrap (i + (1 : Int)))))] [] (AK cx (pureK 87 decD f (fun t => mkB (p t)) S) n 86 0 2 (EK cx 86 0))) else some (Out.ret (V.d (D.int IntKind.i64 (Int.negSucc 0))), []) := by kernel_rfl

theorem l86b (n k : Nat) (l : List T) (i : Int) (f : D → Option T) (p : T → Bool) (S : CK R1) : LP cx (pureK 64 decD f (fun t => mkB (p t)) S) n 86 0 2 (k + 1) [(0, V.d (D.sl 5 (T.ds l))), (1, V.func 64 []), (7, V.d (D.int IntKind.i64 (l.length : Int))), (8, V.d (D.int IntKind.i64 i))] [] (AK cx (pureK 64 decD f (fun t => mkB (p t)) S) n 86 0 2 (EK cx 86 0)) = bif decide (i < (↑l.length : Int)) then must (decide (0 ≤ i) && decide (i < (↑(T.ds l).length : Int))) (nthD (T.ds l) i.toNat fun y => nthD y.cells 0 fun c => nthD y.cells 1 fun c_1 => nthD y.cells 2 fun c_2 => nthD y.cells 3 fun c_3 => nthD y.cells 4 fun c_4 => optK (f (D.agg [c, c_1, c_2, c_3, c_4])) fun b => bif p b then some (Out.ret (V.d (D.int IntKind.i64 i)), []) else LP cx (pureK 64 decD f (fun t => mkB (p t)) S) n 86 0 2 k [(0, V.d (D.sl 5 (T.ds l))), (1, V.func 64 []), (7, V.d (D.int IntKind.i64 (↑l.length : Int))), (8, V.d (D.int IntKind.i64 (IntKind.i64.wrap (i + (1 : Int)))))] [] (AK cx (pureK 64 decD f (fun t => mkB (p t)) S) n 86 0 2 (EK cx 86 0))) else some (Out.ret (V.d (D.int IntKind.i64 (Int.negSucc 0))), []) := by kernel_rfl

theorem g63a (n : Nat) (l : List D) (f : D → Option (List T)) (p : T → Bool) (S : CK R1) : evBody cx (pureK 86 (decDF 87) f (fun t => mkI (Sp.idx p t)) S) n 63 [.d (.sl 5 l), .func 87 []] [] = optK (f (D.sl 5 l)) fun b => some (Out.ret (V.d (D.bool (decide ((0 : Int) ≤ Sp.idx p b)))), []) := by kernel_rfl

theorem g63b (n : Nat) (l : List D) (f : D → Option (List T)) (p : T → Bool) (S : CK R1) : evBody cx (pureK 86 (decDF 64) f (fun t => mkI (Sp.idx p t)) S) n 63 [.d (.sl 5 l), .func 64 []] [] = optK (f (D.sl 5 l)) fun b => some (Out.ret (V.d (D.bool (decide ((0 : Int) ≤ Sp.idx p b)))), []) := by kernel_rfl

theorem lim86a {f : D → Option T} {p : T → Bool} {S : CK R1} (hK : knows cx (pureK 87 decD f (fun t => mkB (p t)) S).S (evLim cx)) (l : List T) (hl : shrt l = true) (hf : ∀ t ∈ l, f t.d = some t) :
    evLim cx 86 [.d (.sl 5 (T.ds l)), .func 87 []] [] = some (.ret (mkI (Sp.idx p l)), []) := by
  refine lim_bodyK hK (N := l.length + 1) ?_
  rw [g86]
  have h := find_loop (fun k i => LP cx (pureK 87 decD f (fun t => mkB (p t)) S) (l.length + 1) 86 0 2 k [(0, V.d (D.sl 5 (T.ds l))), (1, V.func 87 []), (7, V.d (D.int IntKind.i64 (l.length : Int))), (8, V.d (D.int IntKind.i64 i))] [] (AK cx (pureK 87 decD f (fun t => mkB (p t)) S) (l.length + 1) 86 0 2 (EK cx 86 0)))
    l p (fun j => some (Out.ret (V.d (D.int IntKind.i64 j)), [])) (some (Out.ret (V.d (D.int IntKind.i64 (Int.negSucc 0))), [])) (shrt_lt hl)
    (fun k j x hj hx => by
      rw [l86a, ds_len, lt_nat hj, nn_nat, nthD_ds, Int.toNat_natCast, hx]
      simp only [cond_true, must, optK, Bool.and_self, cells_d, nth0, nth1, nth2, nth3, nth4, agg_d, hf x (List.mem_of_getElem? hx)]) (fun k => by rw [l86a, ge_nat, cond_false]) l 0 (l.length + 1) rfl (Nat.zero_le _) (by omega)
  rw [ds_len]
  refine h.trans ?_
  unfold Sp.idx
  cases Sp.findN p l 0 <;> rfl
theorem lim86b {f : D → Option T} {p : T → Bool} {S : CK R1} (hK : knows cx (pureK 64 decD f (fun t => mkB (p t)) S).S (evLim cx)) (l : List T) (hl : shrt l = true) (hf : ∀ t ∈ l, f t.d = some t) :
    evLim cx 86 [.d (.sl 5 (T.ds l)), .func 64 []] [] = some (.ret (mkI (Sp.idx p l)), []) := by
  refine lim_bodyK hK (N := l.length + 1) ?_
  rw [g86]
  have h := find_loop (fun k i => LP cx (pureK 64 decD f (fun t => mkB (p t)) S) (l.length + 1) 86 0 2 k [(0, V.d (D.sl 5 (T.ds l))), (1, V.func 64 []), (7, V.d (D.int IntKind.i64 (l.length : Int))), (8, V.d (D.int IntKind.i64 i))] [] (AK cx (pureK 64 decD f (fun t => mkB (p t)) S) (l.length + 1) 86 0 2 (EK cx 86 0)))
    l p (fun j => some (Out.ret (V.d (D.int IntKind.i64 j)), [])) (some (Out.ret (V.d (D.int IntKind.i64 (Int.negSucc 0))), [])) (shrt_lt hl)
    (fun k j x hj hx => by
      rw [l86b, ds_len, lt_nat hj, nn_nat, nthD_ds, Int.toNat_natCast, hx]
      simp only [cond_true, must, optK, Bool.and_self, cells_d, nth0, nth1, nth2, nth3, nth4, agg_d, hf x (List.mem_of_getElem? hx)]) (fun k => by rw [l86b, ge_nat, cond_false]) l 0 (l.length + 1) rfl (Nat.zero_le _) (by omega)
  rw [ds_len]
  refine h.trans ?_
  unfold Sp.idx
  cases Sp.findN p l 0 <;> rfl
theorem lim63a {f : D → Option T} (hf0 : ∀ x t, f x = some t → x = t.d) {p : T → Bool} {S : CK R1} (hS : knows cx S.S (evLim cx)) (hK : knows cx (pureK 87 decD f (fun t => mkB (p t)) S).S (evLim cx)) (l : List T) (hl : shrt l = true) (hf : ∀ t ∈ l, f t.d = some t) :
    evLim cx 63 [.d (.sl 5 (T.ds l)), .func 87 []] [] = some (.ret (mkB (l.any p)), []) := by
  have h86 : knows cx (pureK 86 (decDF 87) (Sp.ts f) (fun t => mkI (Sp.idx p t)) S).S (evLim cx) := pureK_knows hS fun a q b hd h hb => by
    obtain rfl := decDF_some h
    obtain ⟨l, rfl, h1, h2⟩ := ts_some hb
    obtain ⟨rfl, h3⟩ := toL_ds hf0 h1
    exact lim86a hK b h2 h3
  refine lim_bodyK h86 (N := 0) ?_
  rw [g63a, ts_of hf hl, ← idx_any]
  rfl
theorem lim63b {f : D → Option T} (hf0 : ∀ x t, f x = some t → x = t.d) {p : T → Bool} {S : CK R1} (hS : knows cx S.S (evLim cx)) (hK : knows cx (pureK 64 decD f (fun t => mkB (p t)) S).S (evLim cx)) (l : List T) (hl : shrt l = true) (hf : ∀ t ∈ l, f t.d = some t) :
    evLim cx 63 [.d (.sl 5 (T.ds l)), .func 64 []] [] = some (.ret (mkB (l.any p)), []) := by
  have h86 : knows cx (pureK 86 (decDF 64) (Sp.ts f) (fun t => mkI (Sp.idx p t)) S).S (evLim cx) := pureK_knows hS fun a q b hd h hb => by
    obtain rfl := decDF_some h
    obtain ⟨l, rfl, h1, h2⟩ := ts_some hb
    obtain ⟨rfl, h3⟩ := toL_ds hf0 h1
    exact lim86b hK b h2 h3
  refine lim_bodyK h86 (N := 0) ?_
  rw [g63b, ts_of hf hl, ← idx_any]
  rfl

theorem g65 (n m : Nat) (k : Int) (nm : List UInt8) (kids : List T) (nms : List (List UInt8)) (pl : Int) (S : CK R1) : evBody cx (pureK 63 (decDF 87) (Sp.ts Sp.toC) (fun l => mkB (l.any (fun t => !Sp.eqn t))) (pureK 37 decD (Sp.toT m) (fun t => mkB (Sp.right t)) S)) n 65 [.d (.agg [.int .i64 k, .str nm, .sl 5 (T.ds kids), .sl 1 (nms.map .str), .int .i64 pl])] [] = bif !decide (k = (11 : Int)) then some (Out.ret (V.d (D.bool false)), []) else bif decide ((↑(T.ds kids).length : Int) < (1 : Int)) then some (Out.ret (V.d (D.bool false)), []) else bif decide ((2 : Int) < (↑(T.ds kids).length : Int)) then some (Out.ret (V.d (D.bool false)), []) else bif decide ((0 : Int) < (↑(List.map D.str nms).length : Int)) then some (Out.ret (V.d (D.bool false)), []) else bif !decide (nm = []) then some (Out.ret (V.d (D.bool false)), []) else must (decide ((0 : Int) < (↑(T.ds kids).length : Int))) (nthD (T.ds kids) (0 : Int).toNat fun y => nthD y.cells 0 fun c => nthD y.cells 1 fun c_1 => nthD y.cells 2 fun c_2 => nthD y.cells 3 fun c_3 => nthD y.cells 4 fun c_4 => match c with
 | D.int k' n => bif decide (k' = IntKind.i64) then bif !decide (n = (12 : Int)) then some (Out.ret (V.d (D.bool false)), []) else match c_3 with
  | D.sl s l => bif s.beq (cx.P.cellsOf 9) || l.isEmpty then bif decide ((0 : Int) < (↑l.length : Int)) then some (Out.ret (V.d (D.bool false)), []) else match c_1 with
   | D.str s => bif !decide (s = []) then some (Out.ret (V.d (D.bool false)), []) else match c_2 with
    | D.sl s l => bif s.beq (cx.P.cellsOf 26) || l.isEmpty then optK (Sp.ts Sp.toC (D.sl 5 l)) fun b => bif b.any fun t => !Sp.eqn t then some (Out.ret (V.d (D.bool false)), []) else bif decide ((↑(T.ds kids).length : Int) = (1 : Int)) then some (Out.ret (V.d (D.bool true)), []) else must (decide ((1 : Int) < (↑(T.ds kids).length : Int))) (nthD (T.ds kids) (1 : Int).toNat fun y => nthD y.cells 0 fun c => nthD y.cells 1 fun c_5 => nthD y.cells 2 fun c_6 => nthD y.cells 3 fun c_7 => nthD y.cells 4 fun c_8 => optK (Sp.toT m (D.agg [c, c_5, c_6, c_7, c_8])) fun b => some (Out.ret (V.d (D.bool (Sp.right b))), [])) else none
    | x => none
   | x => none else none
  | x => none else none
 | x => none) := by kernel_rfl

theorem g64 (n : Nat) (k : Int) (nm : List UInt8) (kids : List T) (nms : List (List UInt8)) (pl : Int) (f : D → Option T) (S : CK R1) : evBody cx (pureK 65 decD f (fun t => mkB (Sp.elem t)) S) n 64 [.d (.agg [.int .i64 k, .str nm, .sl 5 (T.ds kids), .sl 1 (nms.map .str), .int .i64 pl])] [] = optK (f (D.agg [D.int IntKind.i64 k, D.str nm, D.sl 5 (T.ds kids), D.sl 1 (List.map D.str nms), D.int IntKind.i64 pl])) fun b => some (Out.ret (V.d (D.bool !Sp.elem b)), []) := by kernel_rfl

theorem g37 (n m : Nat) (k : Int) (nm : List UInt8) (kids : List T) (nms : List (List UInt8)) (pl : Int) : evBody cx (pureK 63 (decDF 64) (Sp.ts (Sp.toT m)) (fun l => mkB (l.any (fun t => !Sp.elem t))) (pureK 37 decD (Sp.toT m) (fun t => mkB (Sp.right t)) K5)) n 37 [.d (.agg [.int .i64 k, .str nm, .sl 5 (T.ds kids), .sl 1 (nms.map .str), .int .i64 pl])] [] = bif decide (k = (1 : Int)) then optK (optK (Sp.toC (D.agg [D.int IntKind.i64 k, D.str nm, D.sl 5 (T.ds kids), D.sl 1 (List.map D.str nms), D.int IntKind.i64 pl], (0 : Int), (0 : Int), true).fst) fun t => some (t, (0 : Int), (0 : Int), true)) fun b => bif Sp.plain b then must (decide (nm.length ≤ big)) (some (Out.ret (V.d (D.bool (Sp.named nm))), [])) else some (Out.ret (V.d (D.bool false)), []) else bif decide (k = (2 : Int)) then bif decide (k = (2 : Int)) then bif decide ((0 : Int) < (↑(List.map D.str nms).length : Int)) then optK (optK (Sp.toC (D.agg [D.int IntKind.i64 k, D.str nm, D.sl 5 (T.ds kids), D.sl 1 (List.map D.str nms), D.int IntKind.i64 pl], (1 : Int), (↑(List.map D.str nms).length : Int), false).fst) fun t => some (t, (1 : Int), (↑(List.map D.str nms).length : Int), false)) fun b => bif Sp.plain b then must (decide ((0 : Int) < (↑(T.ds kids).length : Int))) (nthD (T.ds kids) (0 : Int).toNat fun y => nthD y.cells 0 fun c => nthD y.cells 1 fun c_1 => nthD y.cells 2 fun c_2 => nthD y.cells 3 fun c_3 => nthD y.cells 4 fun c_4 => optK (Sp.toT m (D.agg [c, c_1, c_2, c_3, c_4])) fun b => some (Out.ret (V.d (D.bool (Sp.right b))), [])) else some (Out.ret (V.d (D.bool false)), []) else some (Out.ret (V.d (D.bool false)), []) else bif decide (k = (4 : Int)) then bif decide (k = (4 : Int)) then bif decide ((↑(List.map D.str nms).length : Int) < (2 : Int)) then optK (optK (Sp.toC (D.agg [D.int IntKind.i64 k, D.str nm, D.sl 5 (T.ds kids), D.sl 1 (List.map D.str nms), D.int IntKind.i64 pl], (2 : Int), (↑(List.map D.str nms).length : Int), false).fst) fun t => some (t, (2 : Int), (↑(List.map D.str nms).length : Int), false)) fun b => bif Sp.plain b then must (decide ((0 : Int) < (↑(T.ds kids).length : Int))) (nthD (T.ds kids) (0 : Int).toNat fun y => nthD y.cells 0 fun c => nthD y.cells 1 fun c_1 => nthD y.cells 2 fun c_2 => nthD y.cells 3 fun c_3 => nthD y.cells 4 fun c_4 => optK (Sp.toT m (D.agg [c, c_1, c_2, c_3, c_4])) fun b => bif Sp.right b then must (decide ((1 : Int) < (↑(T.ds kids).length : Int))) (nthD (T.ds kids) (1 : Int).toNat fun y => nthD y.cells 0 fun c => nthD y.cells 1 fun c_5 => nthD y.cells 2 fun c_6 => nthD y.cells 3 fun c_7 => nthD y.cells 4 fun c_8 => optK (Sp.toT m (D.agg [c, c_5, c_6, c_7, c_8])) fun b => some (Out.ret (V.d (D.bool (Sp.right b))), [])) else some (Out.ret (V.d (D.bool false)), [])) else some (Out.ret (V.d (D.bool false)), []) else some (Out.ret (V.d (D.bool false)), []) else bif decide (k = (6 : Int)) then bif decide (k = (6 : Int)) then optK (optK (Sp.toC (D.agg [D.int IntKind.i64 k, D.str nm, D.sl 5 (T.ds kids), D.sl 1 (List.map D.str nms), D.int IntKind.i64 pl], (2 : Int), (0 : Int), false).fst) fun t => some (t, (2 : Int), (0 : Int), false)) fun b => bif Sp.plain b then must (decide ((0 : Int) < (↑(T.ds kids).length : Int))) (nthD (T.ds kids) (0 : Int).toNat fun y => nthD y.cells 0 fun c => nthD y.cells 1 fun c_1 => nthD y.cells 2 fun c_2 => nthD y.cells 3 fun c_3 => nthD y.cells 4 fun c_4 => optK (Sp.toT m (D.agg [c, c_1, c_2, c_3, c_4])) fun b => bif Sp.right b then must (decide ((1 : Int) < (↑(T.ds kids).length : Int))) (nthD (T.ds kids) (1 : Int).toNat fun y => nthD y.cells 0 fun c => nthD y.cells 1 fun c_5 => nthD y.cells 2 fun c_6 => nthD y.cells 3 fun c_7 => nthD y.cells 4 fun c_8 => optK (Sp.toT m (D.agg [c, c_5, c_6, c_7, c_8])) fun b => some (Out.ret (V.d (D.bool (Sp.right b))), [])) else some (Out.ret (V.d (D.bool false)), [])) else some (Out.ret (V.d (D.bool false)), []) else bif decide (k = (7 : Int)) then optK (optK (Sp.toC (D.agg [D.int IntKind.i64 k, D.str nm, D.sl 5 (T.ds kids), D.sl 1 (List.map D.str nms), D.int IntKind.i64 pl], (2 : Int), (0 : Int), false).fst) fun t => some (t, (2 : Int), (0 : Int), false)) fun b => bif Sp.plain b then must (decide ((0 : Int) < (↑(T.ds kids).length : Int))) (nthD (T.ds kids) (0 : Int).toNat fun y => nthD y.cells 0 fun c => nthD y.cells 1 fun c_1 => nthD y.cells 2 fun c_2 => nthD y.cells 3 fun c_3 => nthD y.cells 4 fun c_4 => optK (Sp.toT m (D.agg [c, c_1, c_2, c_3, c_4])) fun b => bif Sp.right b then must (decide ((1 : Int) < (↑(T.ds kids).length : Int))) (nthD (T.ds kids) (1 : Int).toNat fun y => nthD y.cells 0 fun c => nthD y.cells 1 fun c_5 => nthD y.cells 2 fun c_6 => nthD y.cells 3 fun c_7 => nthD y.cells 4 fun c_8 => optK (Sp.toC (D.agg [c, c_5, c_6, c_7, c_8])) fun b => some (Out.ret (V.d (D.bool (Sp.form b))), [])) else some (Out.ret (V.d (D.bool false)), [])) else some (Out.ret (V.d (D.bool false)), []) else bif decide (k = (10 : Int)) then bif decide ((↑(List.map D.str nms).length : Int) = (0 : Int)) then bif decide (nm = []) then optK (Sp.ts (Sp.toT m) (D.sl 5 (T.ds kids))) fun b => some (Out.ret (V.d (D.bool !b.any fun t => !Sp.elem t)), []) else some (Out.ret (V.d (D.bool false)), []) else some (Out.ret (V.d (D.bool false)), []) else some (Out.ret (V.d (D.bool false)), []) else bif decide (k = (8 : Int)) then bif decide (k = (8 : Int)) then optK (optK (Sp.toC (D.agg [D.int IntKind.i64 k, D.str nm, D.sl 5 (T.ds kids), D.sl 1 (List.map D.str nms), D.int IntKind.i64 pl], (2 : Int), (0 : Int), false).fst) fun t => some (t, (2 : Int), (0 : Int), false)) fun b => bif Sp.plain b then must (decide ((0 : Int) < (↑(T.ds kids).length : Int))) (nthD (T.ds kids) (0 : Int).toNat fun y => nthD y.cells 0 fun c => nthD y.cells 1 fun c_1 => nthD y.cells 2 fun c_2 => nthD y.cells 3 fun c_3 => nthD y.cells 4 fun c_4 => optK (Sp.toT m (D.agg [c, c_1, c_2, c_3, c_4])) fun b => bif Sp.right b then must (decide ((1 : Int) < (↑(T.ds kids).length : Int))) (nthD (T.ds kids) (1 : Int).toNat fun y => nthD y.cells 0 fun c => nthD y.cells 1 fun c_5 => nthD y.cells 2 fun c_6 => nthD y.cells 3 fun c_7 => nthD y.cells 4 fun c_8 => optK (Sp.toT m (D.agg [c, c_5, c_6, c_7, c_8])) fun b => some (Out.ret (V.d (D.bool (Sp.right b))), [])) else some (Out.ret (V.d (D.bool false)), [])) else some (Out.ret (V.d (D.bool false)), []) else bif decide (k = (7 : Int)) then optK (optK (Sp.toC (D.agg [D.int IntKind.i64 k, D.str nm, D.sl 5 (T.ds kids), D.sl 1 (List.map D.str nms), D.int IntKind.i64 pl], (2 : Int), (0 : Int), false).fst) fun t => some (t, (2 : Int), (0 : Int), false)) fun b => bif Sp.plain b then must (decide ((0 : Int) < (↑(T.ds kids).length : Int))) (nthD (T.ds kids) (0 : Int).toNat fun y => nthD y.cells 0 fun c => nthD y.cells 1 fun c_1 => nthD y.cells 2 fun c_2 => nthD y.cells 3 fun c_3 => nthD y.cells 4 fun c_4 => optK (Sp.toT m (D.agg [c, c_1, c_2, c_3, c_4])) fun b => bif Sp.right b then must (decide ((1 : Int) < (↑(T.ds kids).length : Int))) (nthD (T.ds kids) (1 : Int).toNat fun y => nthD y.cells 0 fun c => nthD y.cells 1 fun c_5 => nthD y.cells 2 fun c_6 => nthD y.cells 3 fun c_7 => nthD y.cells 4 fun c_8 => optK (Sp.toC (D.agg [c, c_5, c_6, c_7, c_8])) fun b => some (Out.ret (V.d (D.bool (Sp.form b))), [])) else some (Out.ret (V.d (D.bool false)), [])) else some (Out.ret (V.d (D.bool false)), []) else bif decide (k = (10 : Int)) then bif decide ((↑(List.map D.str nms).length : Int) = (0 : Int)) then bif decide (nm = []) then optK (Sp.ts (Sp.toT m) (D.sl 5 (T.ds kids))) fun b => some (Out.ret (V.d (D.bool !b.any fun t => !Sp.elem t)), []) else some (Out.ret (V.d (D.bool false)), []) else some (Out.ret (V.d (D.bool false)), []) else some (Out.ret (V.d (D.bool false)), []) else bif decide (k = (9 : Int)) then optK (optK (Sp.toC (D.agg [D.int IntKind.i64 k, D.str nm, D.sl 5 (T.ds kids), D.sl 1 (List.map D.str nms), D.int IntKind.i64 pl], (2 : Int), (0 : Int), false).fst) fun t => some (t, (2 : Int), (0 : Int), false)) fun b => bif Sp.plain b then must (decide ((0 : Int) < (↑(T.ds kids).length : Int))) (nthD (T.ds kids) (0 : Int).toNat fun y => nthD y.cells 0 fun c => nthD y.cells 1 fun c_1 => nthD y.cells 2 fun c_2 => nthD y.cells 3 fun c_3 => nthD y.cells 4 fun c_4 => optK (Sp.toT m (D.agg [c, c_1, c_2, c_3, c_4])) fun b => bif Sp.right b then must (decide ((1 : Int) < (↑(T.ds kids).length : Int))) (nthD (T.ds kids) (1 : Int).toNat fun y => nthD y.cells 0 fun c => nthD y.cells 1 fun c_5 => nthD y.cells 2 fun c_6 => nthD y.cells 3 fun c_7 => nthD y.cells 4 fun c_8 => optK (Sp.toT m (D.agg [c, c_5, c_6, c_7, c_8])) fun b => some (Out.ret (V.d (D.bool (Sp.right b))), [])) else some (Out.ret (V.d (D.bool false)), [])) else some (Out.ret (V.d (D.bool false)), []) else bif decide (k = (7 : Int)) then optK (optK (Sp.toC (D.agg [D.int IntKind.i64 k, D.str nm, D.sl 5 (T.ds kids), D.sl 1 (List.map D.str nms), D.int IntKind.i64 pl], (2 : Int), (0 : Int), false).fst) fun t => some (t, (2 : Int), (0 : Int), false)) fun b => bif Sp.plain b then must (decide ((0 : Int) < (↑(T.ds kids).length : Int))) (nthD (T.ds kids) (0 : Int).toNat fun y => nthD y.cells 0 fun c => nthD y.cells 1 fun c_1 => nthD y.cells 2 fun c_2 => nthD y.cells 3 fun c_3 => nthD y.cells 4 fun c_4 => optK (Sp.toT m (D.agg [c, c_1, c_2, c_3, c_4])) fun b => bif Sp.right b then must (decide ((1 : Int) < (↑(T.ds kids).length : Int))) (nthD (T.ds kids) (1 : Int).toNat fun y => nthD y.cells 0 fun c => nthD y.cells 1 fun c_5 => nthD y.cells 2 fun c_6 => nthD y.cells 3 fun c_7 => nthD y.cells 4 fun c_8 => optK (Sp.toC (D.agg [c, c_5, c_6, c_7, c_8])) fun b => some (Out.ret (V.d (D.bool (Sp.form b))), [])) else some (Out.ret (V.d (D.bool false)), [])) else some (Out.ret (V.d (D.bool false)), []) else bif decide (k = (10 : Int)) then bif decide ((↑(List.map D.str nms).length : Int) = (0 : Int)) then bif decide (nm = []) then optK (Sp.ts (Sp.toT m) (D.sl 5 (T.ds kids))) fun b => some (Out.ret (V.d (D.bool !b.any fun t => !Sp.elem t)), []) else some (Out.ret (V.d (D.bool false)), []) else some (Out.ret (V.d (D.bool false)), []) else some (Out.ret (V.d (D.bool false)), []) else bif decide (k = (5 : Int)) then bif decide ((↑(List.map D.str nms).length : Int) < (2 : Int)) then optK (optK (Sp.toC (D.agg [D.int IntKind.i64 k, D.str nm, D.sl 5 (T.ds kids), D.sl 1 (List.map D.str nms), D.int IntKind.i64 pl], (2 : Int), (↑(List.map D.str nms).length : Int), false).fst) fun t => some (t, (2 : Int), (↑(List.map D.str nms).length : Int), false)) fun b => bif Sp.plain b then must (decide ((0 : Int) < (↑(T.ds kids).length : Int))) (nthD (T.ds kids) (0 : Int).toNat fun y => nthD y.cells 0 fun c => nthD y.cells 1 fun c_1 => nthD y.cells 2 fun c_2 => nthD y.cells 3 fun c_3 => nthD y.cells 4 fun c_4 => optK (Sp.toT m (D.agg [c, c_1, c_2, c_3, c_4])) fun b => bif Sp.right b then must (decide ((1 : Int) < (↑(T.ds kids).length : Int))) (nthD (T.ds kids) (1 : Int).toNat fun y => nthD y.cells 0 fun c => nthD y.cells 1 fun c_5 => nthD y.cells 2 fun c_6 => nthD y.cells 3 fun c_7 => nthD y.cells 4 fun c_8 => optK (Sp.toT m (D.agg [c, c_5, c_6, c_7, c_8])) fun b => some (Out.ret (V.d (D.bool (Sp.right b))), [])) else some (Out.ret (V.d (D.bool false)), [])) else some (Out.ret (V.d (D.bool false)), []) else some (Out.ret (V.d (D.bool false)), []) else bif decide (k = (6 : Int)) then bif decide (k = (6 : Int)) then optK (optK (Sp.toC (D.agg [D.int IntKind.i64 k, D.str nm, D.sl 5 (T.ds kids), D.sl 1 (List.map D.str nms), D.int IntKind.i64 pl], (2 : Int), (0 : Int), false).fst) fun t => some (t, (2 : Int), (0 : Int), false)) fun b => bif Sp.plain b then must (decide ((0 : Int) < (↑(T.ds kids).length : Int))) (nthD (T.ds kids) (0 : Int).toNat fun y => nthD y.cells 0 fun c => nthD y.cells 1 fun c_1 => nthD y.cells 2 fun c_2 => nthD y.cells 3 fun c_3 => nthD y.cells 4 fun c_4 => optK (Sp.toT m (D.agg [c, c_1, c_2, c_3, c_4])) fun b => bif Sp.right b then must (decide ((1 : Int) < (↑(T.ds kids).length : Int))) (nthD (T.ds kids) (1 : Int).toNat fun y => nthD y.cells 0 fun c => nthD y.cells 1 fun c_5 => nthD y.cells 2 fun c_6 => nthD y.cells 3 fun c_7 => nthD y.cells 4 fun c_8 => optK (Sp.toT m (D.agg [c, c_5, c_6, c_7, c_8])) fun b => some (Out.ret (V.d (D.bool (Sp.right b))), [])) else some (Out.ret (V.d (D.bool false)), [])) else some (Out.ret (V.d (D.bool false)), []) else bif decide (k = (7 : Int)) then optK (optK (Sp.toC (D.agg [D.int IntKind.i64 k, D.str nm, D.sl 5 (T.ds kids), D.sl 1 (List.map D.str nms), D.int IntKind.i64 pl], (2 : Int), (0 : Int), false).fst) fun t => some (t, (2 : Int), (0 : Int), false)) fun b => bif Sp.plain b then must (decide ((0 : Int) < (↑(T.ds kids).length : Int))) (nthD (T.ds kids) (0 : Int).toNat fun y => nthD y.cells 0 fun c => nthD y.cells 1 fun c_1 => nthD y.cells 2 fun c_2 => nthD y.cells 3 fun c_3 => nthD y.cells 4 fun c_4 => optK (Sp.toT m (D.agg [c, c_1, c_2, c_3, c_4])) fun b => bif Sp.right b then must (decide ((1 : Int) < (↑(T.ds kids).length : Int))) (nthD (T.ds kids) (1 : Int).toNat fun y => nthD y.cells 0 fun c => nthD y.cells 1 fun c_5 => nthD y.cells 2 fun c_6 => nthD y.cells 3 fun c_7 => nthD y.cells 4 fun c_8 => optK (Sp.toC (D.agg [c, c_5, c_6, c_7, c_8])) fun b => some (Out.ret (V.d (D.bool (Sp.form b))), [])) else some (Out.ret (V.d (D.bool false)), [])) else some (Out.ret (V.d (D.bool false)), []) else bif decide (k = (10 : Int)) then bif decide ((↑(List.map D.str nms).length : Int) = (0 : Int)) then bif decide (nm = []) then optK (Sp.ts (Sp.toT m) (D.sl 5 (T.ds kids))) fun b => some (Out.ret (V.d (D.bool !b.any fun t => !Sp.elem t)), []) else some (Out.ret (V.d (D.bool false)), []) else some (Out.ret (V.d (D.bool false)), []) else some (Out.ret (V.d (D.bool false)), []) else bif decide (k = (8 : Int)) then bif decide (k = (8 : Int)) then optK (optK (Sp.toC (D.agg [D.int IntKind.i64 k, D.str nm, D.sl 5 (T.ds kids), D.sl 1 (List.map D.str nms), D.int IntKind.i64 pl], (2 : Int), (0 : Int), false).fst) fun t => some (t, (2 : Int), (0 : Int), false)) fun b => bif Sp.plain b then must (decide ((0 : Int) < (↑(T.ds kids).length : Int))) (nthD (T.ds kids) (0 : Int).toNat fun y => nthD y.cells 0 fun c => nthD y.cells 1 fun c_1 => nthD y.cells 2 fun c_2 => nthD y.cells 3 fun c_3 => nthD y.cells 4 fun c_4 => optK (Sp.toT m (D.agg [c, c_1, c_2, c_3, c_4])) fun b => bif Sp.right b then must (decide ((1 : Int) < (↑(T.ds kids).length : Int))) (nthD (T.ds kids) (1 : Int).toNat fun y => nthD y.cells 0 fun c => nthD y.cells 1 fun c_5 => nthD y.cells 2 fun c_6 => nthD y.cells 3 fun c_7 => nthD y.cells 4 fun c_8 => optK (Sp.toT m (D.agg [c, c_5, c_6, c_7, c_8])) fun b => some (Out.ret (V.d (D.bool (Sp.right b))), [])) else some (Out.ret (V.d (D.bool false)), [])) else some (Out.ret (V.d (D.bool false)), []) else bif decide (k = (7 : Int)) then optK (optK (Sp.toC (D.agg [D.int IntKind.i64 k, D.str nm, D.sl 5 (T.ds kids), D.sl 1 (List.map D.str nms), D.int IntKind.i64 pl], (2 : Int), (0 : Int), false).fst) fun t => some (t, (2 : Int), (0 : Int), false)) fun b => bif Sp.plain b then must (decide ((0 : Int) < (↑(T.ds kids).length : Int))) (nthD (T.ds kids) (0 : Int).toNat fun y => nthD y.cells 0 fun c => nthD y.cells 1 fun c_1 => nthD y.cells 2 fun c_2 => nthD y.cells 3 fun c_3 => nthD y.cells 4 fun c_4 => optK (Sp.toT m (D.agg [c, c_1, c_2, c_3, c_4])) fun b => bif Sp.right b then must (decide ((1 : Int) < (↑(T.ds kids).length : Int))) (nthD (T.ds kids) (1 : Int).toNat fun y => nthD y.cells 0 fun c => nthD y.cells 1 fun c_5 => nthD y.cells 2 fun c_6 => nthD y.cells 3 fun c_7 => nthD y.cells 4 fun c_8 => optK (Sp.toC (D.agg [c, c_5, c_6, c_7, c_8])) fun b => some (Out.ret (V.d (D.bool (Sp.form b))), [])) else some (Out.ret (V.d (D.bool false)), [])) else some (Out.ret (V.d (D.bool false)), []) else bif decide (k = (10 : Int)) then bif decide ((↑(List.map D.str nms).length : Int) = (0 : Int)) then bif decide (nm = []) then optK (Sp.ts (Sp.toT m) (D.sl 5 (T.ds kids))) fun b => some (Out.ret (V.d (D.bool !b.any fun t => !Sp.elem t)), []) else some (Out.ret (V.d (D.bool false)), []) else some (Out.ret (V.d (D.bool false)), []) else some (Out.ret (V.d (D.bool false)), []) else bif decide (k = (9 : Int)) then optK (optK (Sp.toC (D.agg [D.int IntKind.i64 k, D.str nm, D.sl 5 (T.ds kids), D.sl 1 (List.map D.str nms), D.int IntKind.i64 pl], (2 : Int), (0 : Int), false).fst) fun t => some (t, (2 : Int), (0 : Int), false)) fun b => bif Sp.plain b then must (decide ((0 : Int) < (↑(T.ds kids).length : Int))) (nthD (T.ds kids) (0 : Int).toNat fun y => nthD y.cells 0 fun c => nthD y.cells 1 fun c_1 => nthD y.cells 2 fun c_2 => nthD y.cells 3 fun c_3 => nthD y.cells 4 fun c_4 => optK (Sp.toT m (D.agg [c, c_1, c_2, c_3, c_4])) fun b => bif Sp.right b then must (decide ((1 : Int) < (↑(T.ds kids).length : Int))) (nthD (T.ds kids) (1 : Int).toNat fun y => nthD y.cells 0 fun c => nthD y.cells 1 fun c_5 => nthD y.cells 2 fun c_6 => nthD y.cells 3 fun c_7 => nthD y.cells 4 fun c_8 => optK (Sp.toT m (D.agg [c, c_5, c_6, c_7, c_8])) fun b => some (Out.ret (V.d (D.bool (Sp.right b))), [])) else some (Out.ret (V.d (D.bool false)), [])) else some (Out.ret (V.d (D.bool false)), []) else bif decide (k = (7 : Int)) then optK (optK (Sp.toC (D.agg [D.int IntKind.i64 k, D.str nm, D.sl 5 (T.ds kids), D.sl 1 (List.map D.str nms), D.int IntKind.i64 pl], (2 : Int), (0 : Int), false).fst) fun t => some (t, (2 : Int), (0 : Int), false)) fun b => bif Sp.plain b then must (decide ((0 : Int) < (↑(T.ds kids).length : Int))) (nthD (T.ds kids) (0 : Int).toNat fun y => nthD y.cells 0 fun c => nthD y.cells 1 fun c_1 => nthD y.cells 2 fun c_2 => nthD y.cells 3 fun c_3 => nthD y.cells 4 fun c_4 => optK (Sp.toT m (D.agg [c, c_1, c_2, c_3, c_4])) fun b => bif Sp.right b then must (decide ((1 : Int) < (↑(T.ds kids).length : Int))) (nthD (T.ds kids) (1 : Int).toNat fun y => nthD y.cells 0 fun c => nthD y.cells 1 fun c_5 => nthD y.cells 2 fun c_6 => nthD y.cells 3 fun c_7 => nthD y.cells 4 fun c_8 => optK (Sp.toC (D.agg [c, c_5, c_6, c_7, c_8])) fun b => some (Out.ret (V.d (D.bool (Sp.form b))), [])) else some (Out.ret (V.d (D.bool false)), [])) else some (Out.ret (V.d (D.bool false)), []) else bif decide (k = (10 : Int)) then bif decide ((↑(List.map D.str nms).length : Int) = (0 : Int)) then bif decide (nm = []) then optK (Sp.ts (Sp.toT m) (D.sl 5 (T.ds kids))) fun b => some (Out.ret (V.d (D.bool !b.any fun t => !Sp.elem t)), []) else some (Out.ret (V.d (D.bool false)), []) else some (Out.ret (V.d (D.bool false)), []) else some (Out.ret (V.d (D.bool false)), []) else bif decide (k = (3 : Int)) then bif decide ((0 : Int) < (↑(List.map D.str nms).length : Int)) then optK (optK (Sp.toC (D.agg [D.int IntKind.i64 k, D.str nm, D.sl 5 (T.ds kids), D.sl 1 (List.map D.str nms), D.int IntKind.i64 pl], (1 : Int), (↑(List.map D.str nms).length : Int), false).fst) fun t => some (t, (1 : Int), (↑(List.map D.str nms).length : Int), false)) fun b => bif Sp.plain b then must (decide ((0 : Int) < (↑(T.ds kids).length : Int))) (nthD (T.ds kids) (0 : Int).toNat fun y => nthD y.cells 0 fun c => nthD y.cells 1 fun c_1 => nthD y.cells 2 fun c_2 => nthD y.cells 3 fun c_3 => nthD y.cells 4 fun c_4 => optK (Sp.toT m (D.agg [c, c_1, c_2, c_3, c_4])) fun b => some (Out.ret (V.d (D.bool (Sp.right b))), [])) else some (Out.ret (V.d (D.bool false)), []) else some (Out.ret (V.d (D.bool false)), []) else bif decide (k = (4 : Int)) then bif decide (k = (4 : Int)) then bif decide ((↑(List.map D.str nms).length : Int) < (2 : Int)) then optK (optK (Sp.toC (D.agg [D.int IntKind.i64 k, D.str nm, D.sl 5 (T.ds kids), D.sl 1 (List.map D.str nms), D.int IntKind.i64 pl], (2 : Int), (↑(List.map D.str nms).length : Int), false).fst) fun t => some (t, (2 : Int), (↑(List.map D.str nms).length : Int), false)) fun b => bif Sp.plain b then must (decide ((0 : Int) < (↑(T.ds kids).length : Int))) (nthD (T.ds kids) (0 : Int).toNat fun y => nthD y.cells 0 fun c => nthD y.cells 1 fun c_1 => nthD y.cells 2 fun c_2 => nthD y.cells 3 fun c_3 => nthD y.cells 4 fun c_4 => optK (Sp.toT m (D.agg [c, c_1, c_2, c_3, c_4])) fun b => bif Sp.right b then must (decide ((1 : Int) < (↑(T.ds kids).length : Int))) (nthD (T.ds kids) (1 : Int).toNat fun y => nthD y.cells 0 fun c => nthD y.cells 1 fun c_5 => nthD y.cells 2 fun c_6 => nthD y.cells 3 fun c_7 => nthD y.cells 4 fun c_8 => optK (Sp.toT m (D.agg [c, c_5, c_6, c_7, c_8])) fun b => some (Out.ret (V.d (D.bool (Sp.right b))), [])) else some (Out.ret (V.d (D.bool false)), [])) else some (Out.ret (V.d (D.bool false)), []) else some (Out.ret (V.d (D.bool false)), []) else bif decide (k = (6 : Int)) then bif decide (k = (6 : Int)) then optK (optK (Sp.toC (D.agg [D.int IntKind.i64 k, D.str nm, D.sl 5 (T.ds kids), D.sl 1 (List.map D.str nms), D.int IntKind.i64 pl], (2 : Int), (0 : Int), false).fst) fun t => some (t, (2 : Int), (0 : Int), false)) fun b => bif Sp.plain b then must (decide ((0 : Int) < (↑(T.ds kids).length : Int))) (nthD (T.ds kids) (0 : Int).toNat fun y => nthD y.cells 0 fun c => nthD y.cells 1 fun c_1 => nthD y.cells 2 fun c_2 => nthD y.cells 3 fun c_3 => nthD y.cells 4 fun c_4 => optK (Sp.toT m (D.agg [c, c_1, c_2, c_3, c_4])) fun b => bif Sp.right b then must (decide ((1 : Int) < (↑(T.ds kids).length : Int))) (nthD (T.ds kids) (1 : Int).toNat fun y => nthD y.cells 0 fun c => nthD y.cells 1 fun c_5 => nthD y.cells 2 fun c_6 => nthD y.cells 3 fun c_7 => nthD y.cells 4 fun c_8 => optK (Sp.toT m (D.agg [c, c_5, c_6, c_7, c_8])) fun b => some (Out.ret (V.d (D.bool (Sp.right b))), [])) else some (Out.ret (V.d (D.bool false)), [])) else some (Out.ret (V.d (D.bool false)), []) else bif decide (k = (7 : Int)) then optK (optK (Sp.toC (D.agg [D.int IntKind.i64 k, D.str nm, D.sl 5 (T.ds kids), D.sl 1 (List.map D.str nms), D.int IntKind.i64 pl], (2 : Int), (0 : Int), false).fst) fun t => some (t, (2 : Int), (0 : Int), false)) fun b => bif Sp.plain b then must (decide ((0 : Int) < (↑(T.ds kids).length : Int))) (nthD (T.ds kids) (0 : Int).toNat fun y => nthD y.cells 0 fun c => nthD y.cells 1 fun c_1 => nthD y.cells 2 fun c_2 => nthD y.cells 3 fun c_3 => nthD y.cells 4 fun c_4 => optK (Sp.toT m (D.agg [c, c_1, c_2, c_3, c_4])) fun b => bif Sp.right b then must (decide ((1 : Int) < (↑(T.ds kids).length : Int))) (nthD (T.ds kids) (1 : Int).toNat fun y => nthD y.cells 0 fun c => nthD y.cells 1 fun c_5 => nthD y.cells 2 fun c_6 => nthD y.cells 3 fun c_7 => nthD y.cells 4 fun c_8 => optK (Sp.toC (D.agg [c, c_5, c_6, c_7, c_8])) fun b => some (Out.ret (V.d (D.bool (Sp.form b))), [])) else some (Out.ret (V.d (D.bool false)), [])) else some (Out.ret (V.d (D.bool false)), []) else bif decide (k = (10 : Int)) then bif decide ((↑(List.map D.str nms).length : Int) = (0 : Int)) then bif decide (nm = []) then optK (Sp.ts (Sp.toT m) (D.sl 5 (T.ds kids))) fun b => some (Out.ret (V.d (D.bool !b.any fun t => !Sp.elem t)), []) else some (Out.ret (V.d (D.bool false)), []) else some (Out.ret (V.d (D.bool false)), []) else some (Out.ret (V.d (D.bool false)), []) else bif decide (k = (8 : Int)) then bif decide (k = (8 : Int)) then optK (optK (Sp.toC (D.agg [D.int IntKind.i64 k, D.str nm, D.sl 5 (T.ds kids), D.sl 1 (List.map D.str nms), D.int IntKind.i64 pl], (2 : Int), (0 : Int), false).fst) fun t => some (t, (2 : Int), (0 : Int), false)) fun b => bif Sp.plain b then must (decide ((0 : Int) < (↑(T.ds kids).length : Int))) (nthD (T.ds kids) (0 : Int).toNat fun y => nthD y.cells 0 fun c => nthD y.cells 1 fun c_1 => nthD y.cells 2 fun c_2 => nthD y.cells 3 fun c_3 => nthD y.cells 4 fun c_4 => optK (Sp.toT m (D.agg [c, c_1, c_2, c_3, c_4])) fun b => bif Sp.right b then must (decide ((1 : Int) < (↑(T.ds kids).length : Int))) (nthD (T.ds kids) (1 : Int).toNat fun y => nthD y.cells 0 fun c => nthD y.cells 1 fun c_5 => nthD y.cells 2 fun c_6 => nthD y.cells 3 fun c_7 => nthD y.cells 4 fun c_8 => optK (Sp.toT m (D.agg [c, c_5, c_6, c_7, c_8])) fun b => some (Out.ret (V.d (D.bool (Sp.right b))), [])) else some (Out.ret (V.d (D.bool false)), [])) else some (Out.ret (V.d (D.bool false)), []) else bif decide (k = (7 : Int)) then optK (optK (Sp.toC (D.agg [D.int IntKind.i64 k, D.str nm, D.sl 5 (T.ds kids), D.sl 1 (List.map D.str nms), D.int IntKind.i64 pl], (2 : Int), (0 : Int), false).fst) fun t => some (t, (2 : Int), (0 : Int), false)) fun b => bif Sp.plain b then must (decide ((0 : Int) < (↑(T.ds kids).length : Int))) (nthD (T.ds kids) (0 : Int).toNat fun y => nthD y.cells 0 fun c => nthD y.cells 1 fun c_1 => nthD y.cells 2 fun c_2 => nthD y.cells 3 fun c_3 => nthD y.cells 4 fun c_4 => optK (Sp.toT m (D.agg [c, c_1, c_2, c_3, c_4])) fun b => bif Sp.right b then must (decide ((1 : Int) < (↑(T.ds kids).length : Int))) (nthD (T.ds kids) (1 : Int).toNat fun y => nthD y.cells 0 fun c => nthD y.cells 1 fun c_5 => nthD y.cells 2 fun c_6 => nthD y.cells 3 fun c_7 => nthD y.cells 4 fun c_8 => optK (Sp.toC (D.agg [c, c_5, c_6, c_7, c_8])) fun b => some (Out.ret (V.d (D.bool (Sp.form b))), [])) else some (Out.ret (V.d (D.bool false)), [])) else some (Out.ret (V.d (D.bool false)), []) else bif decide (k = (10 : Int)) then bif decide ((↑(List.map D.str nms).length : Int) = (0 : Int)) then bif decide (nm = []) then optK (Sp.ts (Sp.toT m) (D.sl 5 (T.ds kids))) fun b => some (Out.ret (V.d (D.bool !b.any fun t => !Sp.elem t)), []) else some (Out.ret (V.d (D.bool false)), []) else some (Out.ret (V.d (D.bool false)), []) else some (Out.ret (V.d (D.bool false)), []) else bif decide (k = (9 : Int)) then optK (optK (Sp.toC (D.agg [D.int IntKind.i64 k, D.str nm, D.sl 5 (T.ds kids), D.sl 1 (List.map D.str nms), D.int IntKind.i64 pl], (2 : Int), (0 : Int), false).fst) fun t => some (t, (2 : Int), (0 : Int), false)) fun b => bif Sp.plain b then must (decide ((0 : Int) < (↑(T.ds kids).length : Int))) (nthD (T.ds kids) (0 : Int).toNat fun y => nthD y.cells 0 fun c => nthD y.cells 1 fun c_1 => nthD y.cells 2 fun c_2 => nthD y.cells 3 fun c_3 => nthD y.cells 4 fun c_4 => optK (Sp.toT m (D.agg [c, c_1, c_2, c_3, c_4])) fun b => bif Sp.right b then must (decide ((1 : Int) < (↑(T.ds kids).length : Int))) (nthD (T.ds kids) (1 : Int).toNat fun y => nthD y.cells 0 fun c => nthD y.cells 1 fun c_5 => nthD y.cells 2 fun c_6 => nthD y.cells 3 fun c_7 => nthD y.cells 4 fun c_8 => optK (Sp.toT m (D.agg [c, c_5, c_6, c_7, c_8])) fun b => some (Out.ret (V.d (D.bool (Sp.right b))), [])) else some (Out.ret (V.d (D.bool false)), [])) else some (Out.ret (V.d (D.bool false)), []) else bif decide (k = (7 : Int)) then optK (optK (Sp.toC (D.agg [D.int IntKind.i64 k, D.str nm, D.sl 5 (T.ds kids), D.sl 1 (List.map D.str nms), D.int IntKind.i64 pl], (2 : Int), (0 : Int), false).fst) fun t => some (t, (2 : Int), (0 : Int), false)) fun b => bif Sp.plain b then must (decide ((0 : Int) < (↑(T.ds kids).length : Int))) (nthD (T.ds kids) (0 : Int).toNat fun y => nthD y.cells 0 fun c => nthD y.cells 1 fun c_1 => nthD y.cells 2 fun c_2 => nthD y.cells 3 fun c_3 => nthD y.cells 4 fun c_4 => optK (Sp.toT m (D.agg [c, c_1, c_2, c_3, c_4])) fun b => bif Sp.right b then must (decide ((1 : Int) < (↑(T.ds kids).length : Int))) (nthD (T.ds kids) (1 : Int).toNat fun y => nthD y.cells 0 fun c => nthD y.cells 1 fun c_5 => nthD y.cells 2 fun c_6 => nthD y.cells 3 fun c_7 => nthD y.cells 4 fun c_8 => optK (Sp.toC (D.agg [c, c_5, c_6, c_7, c_8])) fun b => some (Out.ret (V.d (D.bool (Sp.form b))), [])) else some (Out.ret (V.d (D.bool false)), [])) else some (Out.ret (V.d (D.bool false)), []) else bif decide (k = (10 : Int)) then bif decide ((↑(List.map D.str nms).length : Int) = (0 : Int)) then bif decide (nm = []) then optK (Sp.ts (Sp.toT m) (D.sl 5 (T.ds kids))) fun b => some (Out.ret (V.d (D.bool !b.any fun t => !Sp.elem t)), []) else some (Out.ret (V.d (D.bool false)), []) else some (Out.ret (V.d (D.bool false)), []) else some (Out.ret (V.d (D.bool false)), []) else bif decide (k = (5 : Int)) then bif decide ((↑(List.map D.str nms).length : Int) < (2 : Int)) then optK (optK (Sp.toC (D.agg [D.int IntKind.i64 k, D.str nm, D.sl 5 (T.ds kids), D.sl 1 (List.map D.str nms), D.int IntKind.i64 pl], (2 : Int), (↑(List.map D.str nms).length : Int), false).fst) fun t => some (t, (2 : Int), (↑(List.map D.str nms).length : Int), false)) fun b => bif Sp.plain b then must (decide ((0 : Int) < (↑(T.ds kids).length : Int))) (nthD (T.ds kids) (0 : Int).toNat fun y => nthD y.cells 0 fun c => nthD y.cells 1 fun c_1 => nthD y.cells 2 fun c_2 => nthD y.cells 3 fun c_3 => nthD y.cells 4 fun c_4 => optK (Sp.toT m (D.agg [c, c_1, c_2, c_3, c_4])) fun b => bif Sp.right b then must (decide ((1 : Int) < (↑(T.ds kids).length : Int))) (nthD (T.ds kids) (1 : Int).toNat fun y => nthD y.cells 0 fun c => nthD y.cells 1 fun c_5 => nthD y.cells 2 fun c_6 => nthD y.cells 3 fun c_7 => nthD y.cells 4 fun c_8 => optK (Sp.toT m (D.agg [c, c_5, c_6, c_7, c_8])) fun b => some (Out.ret (V.d (D.bool (Sp.right b))), [])) else some (Out.ret (V.d (D.bool false)), [])) else some (Out.ret (V.d (D.bool false)), []) else some (Out.ret (V.d (D.bool false)), []) else bif decide (k = (6 : Int)) then bif decide (k = (6 : Int)) then optK (optK (Sp.toC (D.agg [D.int IntKind.i64 k, D.str nm, D.sl 5 (T.ds kids), D.sl 1 (List.map D.str nms), D.int IntKind.i64 pl], (2 : Int), (0 : Int), false).fst) fun t => some (t, (2 : Int), (0 : Int), false)) fun b => bif Sp.plain b then must (decide ((0 : Int) < (↑(T.ds kids).length : Int))) (nthD (T.ds kids) (0 : Int).toNat fun y => nthD y.cells 0 fun c => nthD y.cells 1 fun c_1 => nthD y.cells 2 fun c_2 => nthD y.cells 3 fun c_3 => nthD y.cells 4 fun c_4 => optK (Sp.toT m (D.agg [c, c_1, c_2, c_3, c_4])) fun b => bif Sp.right b then must (decide ((1 : Int) < (↑(T.ds kids).length : Int))) (nthD (T.ds kids) (1 : Int).toNat fun y => nthD y.cells 0 fun c => nthD y.cells 1 fun c_5 => nthD y.cells 2 fun c_6 => nthD y.cells 3 fun c_7 => nthD y.cells 4 fun c_8 => optK (Sp.toT m (D.agg [c, c_5, c_6, c_7, c_8])) fun b => some (Out.ret (V.d (D.bool (Sp.right b))), [])) else some (Out.ret (V.d (D.bool false)), [])) else some (Out.ret (V.d (D.bool false)), []) else bif decide (k = (7 : Int)) then optK (optK (Sp.toC (D.agg [D.int IntKind.i64 k, D.str nm, D.sl 5 (T.ds kids), D.sl 1 (List.map D.str nms), D.int IntKind.i64 pl], (2 : Int), (0 : Int), false).fst) fun t => some (t, (2 : Int), (0 : Int), false)) fun b => bif Sp.plain b then must (decide ((0 : Int) < (↑(T.ds kids).length : Int))) (nthD (T.ds kids) (0 : Int).toNat fun y => nthD y.cells 0 fun c => nthD y.cells 1 fun c_1 => nthD y.cells 2 fun c_2 => nthD y.cells 3 fun c_3 => nthD y.cells 4 fun c_4 => optK (Sp.toT m (D.agg [c, c_1, c_2, c_3, c_4])) fun b => bif Sp.right b then must (decide ((1 : Int) < (↑(T.ds kids).length : Int))) (nthD (T.ds kids) (1 : Int).toNat fun y => nthD y.cells 0 fun c => nthD y.cells 1 fun c_5 => nthD y.cells 2 fun c_6 => nthD y.cells 3 fun c_7 => nthD y.cells 4 fun c_8 => optK (Sp.toC (D.agg [c, c_5, c_6, c_7, c_8])) fun b => some (Out.ret (V.d (D.bool (Sp.form b))), [])) else some (Out.ret (V.d (D.bool false)), [])) else some (Out.ret (V.d (D.bool false)), []) else bif decide (k = (10 : Int)) then bif decide ((↑(List.map D.str nms).length : Int) = (0 : Int)) then bif decide (nm = []) then optK (Sp.ts (Sp.toT m) (D.sl 5 (T.ds kids))) fun b => some (Out.ret (V.d (D.bool !b.any fun t => !Sp.elem t)), []) else some (Out.ret (V.d (D.bool false)), []) else some (Out.ret (V.d (D.bool false)), []) else some (Out.ret (V.d (D.bool false)), []) else bif decide (k = (8 : Int)) then bif decide (k = (8 : Int)) then optK (optK (Sp.toC (D.agg [D.int IntKind.i64 k, D.str nm, D.sl 5 (T.ds kids), D.sl 1 (List.map D.str nms), D.int IntKind.i64 pl], (2 : Int), (0 : Int), false).fst) fun t => some (t, (2 : Int), (0 : Int), false)) fun b => bif Sp.plain b then must (decide ((0 : Int) < (↑(T.ds kids).length : Int))) (nthD (T.ds kids) (0 : Int).toNat fun y => nthD y.cells 0 fun c => nthD y.cells 1 fun c_1 => nthD y.cells 2 fun c_2 => nthD y.cells 3 fun c_3 => nthD y.cells 4 fun c_4 => optK (Sp.toT m (D.agg [c, c_1, c_2, c_3, c_4])) fun b => bif Sp.right b then must (decide ((1 : Int) < (↑(T.ds kids).length : Int))) (nthD (T.ds kids) (1 : Int).toNat fun y => nthD y.cells 0 fun c => nthD y.cells 1 fun c_5 => nthD y.cells 2 fun c_6 => nthD y.cells 3 fun c_7 => nthD y.cells 4 fun c_8 => optK (Sp.toT m (D.agg [c, c_5, c_6, c_7, c_8])) fun b => some (Out.ret (V.d (D.bool (Sp.right b))), [])) else some (Out.ret (V.d (D.bool false)), [])) else some (Out.ret (V.d (D.bool false)), []) else bif decide (k = (7 : Int)) then optK (optK (Sp.toC (D.agg [D.int IntKind.i64 k, D.str nm, D.sl 5 (T.ds kids), D.sl 1 (List.map D.str nms), D.int IntKind.i64 pl], (2 : Int), (0 : Int), false).fst) fun t => some (t, (2 : Int), (0 : Int), false)) fun b => bif Sp.plain b then must (decide ((0 : Int) < (↑(T.ds kids).length : Int))) (nthD (T.ds kids) (0 : Int).toNat fun y => nthD y.cells 0 fun c => nthD y.cells 1 fun c_1 => nthD y.cells 2 fun c_2 => nthD y.cells 3 fun c_3 => nthD y.cells 4 fun c_4 => optK (Sp.toT m (D.agg [c, c_1, c_2, c_3, c_4])) fun b => bif Sp.right b then must (decide ((1 : Int) < (↑(T.ds kids).length : Int))) (nthD (T.ds kids) (1 : Int).toNat fun y => nthD y.cells 0 fun c => nthD y.cells 1 fun c_5 => nthD y.cells 2 fun c_6 => nthD y.cells 3 fun c_7 => nthD y.cells 4 fun c_8 => optK (Sp.toC (D.agg [c, c_5, c_6, c_7, c_8])) fun b => some (Out.ret (V.d (D.bool (Sp.form b))), [])) else some (Out.ret (V.d (D.bool false)), [])) else some (Out.ret (V.d (D.bool false)), []) else bif decide (k = (10 : Int)) then bif decide ((↑(List.map D.str nms).length : Int) = (0 : Int)) then bif decide (nm = []) then optK (Sp.ts (Sp.toT m) (D.sl 5 (T.ds kids))) fun b => some (Out.ret (V.d (D.bool !b.any fun t => !Sp.elem t)), []) else some (Out.ret (V.d (D.bool false)), []) else some (Out.ret (V.d (D.bool false)), []) else some (Out.ret (V.d (D.bool false)), []) else bif decide (k = (9 : Int)) then optK (optK (Sp.toC (D.agg [D.int IntKind.i64 k, D.str nm, D.sl 5 (T.ds kids), D.sl 1 (List.map D.str nms), D.int IntKind.i64 pl], (2 : Int), (0 : Int), false).fst) fun t => some (t, (2 : Int), (0 : Int), false)) fun b => bif Sp.plain b then must (decide ((0 : Int) < (↑(T.ds kids).length : Int))) (nthD (T.ds kids) (0 : Int).toNat fun y => nthD y.cells 0 fun c => nthD y.cells 1 fun c_1 => nthD y.cells 2 fun c_2 => nthD y.cells 3 fun c_3 => nthD y.cells 4 fun c_4 => optK (Sp.toT m (D.agg [c, c_1, c_2, c_3, c_4])) fun b => bif Sp.right b then must (decide ((1 : Int) < (↑(T.ds kids).length : Int))) (nthD (T.ds kids) (1 : Int).toNat fun y => nthD y.cells 0 fun c => nthD y.cells 1 fun c_5 => nthD y.cells 2 fun c_6 => nthD y.cells 3 fun c_7 => nthD y.cells 4 fun c_8 => optK (Sp.toT m (D.agg [c, c_5, c_6, c_7, c_8])) fun b => some (Out.ret (V.d (D.bool (Sp.right b))), [])) else some (Out.ret (V.d (D.bool false)), [])) else some (Out.ret (V.d (D.bool false)), []) else bif decide (k = (7 : Int)) then optK (optK (Sp.toC (D.agg [D.int IntKind.i64 k, D.str nm, D.sl 5 (T.ds kids), D.sl 1 (List.map D.str nms), D.int IntKind.i64 pl], (2 : Int), (0 : Int), false).fst) fun t => some (t, (2 : Int), (0 : Int), false)) fun b => bif Sp.plain b then must (decide ((0 : Int) < (↑(T.ds kids).length : Int))) (nthD (T.ds kids) (0 : Int).toNat fun y => nthD y.cells 0 fun c => nthD y.cells 1 fun c_1 => nthD y.cells 2 fun c_2 => nthD y.cells 3 fun c_3 => nthD y.cells 4 fun c_4 => optK (Sp.toT m (D.agg [c, c_1, c_2, c_3, c_4])) fun b => bif Sp.right b then must (decide ((1 : Int) < (↑(T.ds kids).length : Int))) (nthD (T.ds kids) (1 : Int).toNat fun y => nthD y.cells 0 fun c => nthD y.cells 1 fun c_5 => nthD y.cells 2 fun c_6 => nthD y.cells 3 fun c_7 => nthD y.cells 4 fun c_8 => optK (Sp.toC (D.agg [c, c_5, c_6, c_7, c_8])) fun b => some (Out.ret (V.d (D.bool (Sp.form b))), [])) else some (Out.ret (V.d (D.bool false)), [])) else some (Out.ret (V.d (D.bool false)), []) else bif decide (k = (10 : Int)) then bif decide ((↑(List.map D.str nms).length : Int) = (0 : Int)) then bif decide (nm = []) then optK (Sp.ts (Sp.toT m) (D.sl 5 (T.ds kids))) fun b => some (Out.ret (V.d (D.bool !b.any fun t => !Sp.elem t)), []) else some (Out.ret (V.d (D.bool false)), []) else some (Out.ret (V.d (D.bool false)), []) else some (Out.ret (V.d (D.bool false)), []) := by kernel_rfl

theorem cond_nand {c x : Bool} {σ : St} : (bif c then some (Out.ret (V.d (D.bool false)), σ) else some (Out.ret (V.d (D.bool x)), σ)) = some (Out.ret (V.d (D.bool (!c && x))), σ) := by cases c <;> rfl

theorem lim65 {m : Nat} (hm : ∀ t : T, t.depth ≤ m → t.ok = true → evLim cx 37 [.d t.d] [] = some (.ret (mkB (Sp.right t)), [])) (t : T) (hd : t.depth ≤ m) (ho : t.ok = true) :
    evLim cx 65 [.d t.d] [] = some (.ret (mkB (Sp.elem t)), []) := by
  have hA : knows cx (pureK 37 decD (Sp.toT m) (fun t => mkB (Sp.right t)) K5).S (evLim cx) := pureK_knows K5_knows fun a q b _ h hb => by
    obtain rfl := decD_some h
    obtain ⟨rfl, h1, h2⟩ := toT_some hb
    exact hm b h1 h2
  have hE : knows cx (pureK 63 (decDF 87) (Sp.ts Sp.toC) (fun l => mkB (l.any (fun t => !Sp.eqn t))) (pureK 37 decD (Sp.toT m) (fun t => mkB (Sp.right t)) K5)).S (evLim cx) := pureK_knows hA fun a q b hd h hb => by
    obtain rfl := decDF_some h
    obtain ⟨l, rfl, h1, h2⟩ := ts_some hb
    obtain ⟨rfl, h3⟩ := toL_ds (fun x t h => (toC_some h).1) h1
    exact lim63a (fun x t h => (toC_some h).1) K5_knows K6_knows b h2 h3
  obtain ⟨k, nm, kids, nms, pl⟩ := t
  obtain ⟨h1, h2, h3, h4, h5⟩ := ok_inv ho
  have hkd : T.depths kids ≤ m := by simp only [T.depth] at hd; omega
  refine lim_bodyK hE (N := 0) ?_
  refine (g65 0 m k nm kids nms pl K5).trans ?_
  have hT : ∀ t ∈ kids, Sp.toT m t.d = some t := fun t h => kid_toT hkd h5 h
  have hC : ∀ t ∈ kids, Sp.ts Sp.toC (.sl 5 (T.ds t.kids)) = some t.kids := fun t h => by
    obtain ⟨k', nm', kids', nms', pl'⟩ := t
    obtain ⟨_, q2, _, _, q5⟩ := ok_inv (oks_mem h5 h)
    exact ts_of (fun u hu => kid_toC q5 hu) q2
  have e9 : Nat.beq 1 (cx.P.cellsOf 9) = true := by kernel_rfl
  have e26 : Nat.beq 5 (cx.P.cellsOf 26) = true := by kernel_rfl
  simp only [optK, ds_len, List.length_map, must, cond_true, nthD_ds, cells_d, nth0, nth1, nth2, nth3, nth4, agg_d, lenZ, lenO, lenT, lenP, lenP1, decide_true, e9, e26, Bool.true_or]
  have hk : k = 11 ∨ k ≠ 11 := by omega
  rcases hk with rfl | hk <;> rcases kids with _ | ⟨a, _ | ⟨b, _ | ⟨c, l⟩⟩⟩ <;> rcases nms with _ | ⟨x, nms⟩ <;> simp [Sp.elem, mkB, hT, hC, cond_and, cond_or, *]
  · obtain ⟨k, nm', kids', nms', pl'⟩ := a
    rcases nms' with _ | ⟨x, nms'⟩ <;> simp [Sp.faceB, k_mk, nm_mk, nms_mk, kids_mk, cond_and, cond_nand, Bool.and_assoc, List.not_any_eq_all_not]; rfl
  · obtain ⟨k, nm', kids', nms', pl'⟩ := a
    rcases nms' with _ | ⟨x, nms'⟩ <;> simp [Sp.faceB, k_mk, nm_mk, nms_mk, kids_mk, cond_and, cond_nand, Bool.and_assoc, List.not_any_eq_all_not]; rfl
  · rw [decide_eq_false (by omega), decide_eq_true (by omega)]
    rfl

theorem lim64 {m : Nat} (hm : ∀ t : T, t.depth ≤ m → t.ok = true → evLim cx 37 [.d t.d] [] = some (.ret (mkB (Sp.right t)), [])) :
    knows cx (pureK 64 decD (Sp.toT m) (fun t => mkB (!Sp.elem t)) K5).S (evLim cx) := pureK_knows K5_knows fun a q b _ h hb => by
  obtain rfl := decD_some h
  obtain ⟨rfl, h1, h2⟩ := toT_some hb
  have h65 : knows cx (pureK 65 decD (Sp.toT m) (fun t => mkB (Sp.elem t)) K5).S (evLim cx) := pureK_knows K5_knows fun a q b _ h hb => by
    obtain rfl := decD_some h
    obtain ⟨rfl, h1, h2⟩ := toT_some hb
    exact lim65 hm b h1 h2
  refine lim_bodyK h65 (N := 0) ?_
  obtain ⟨k, nm, kids, nms, pl⟩ := b
  refine (g64 0 k nm kids nms pl (Sp.toT m) K5).trans ?_
  have := toT_d h1 h2
  simp only [T.d] at this
  rw [this]
  rfl

theorem lim37 : ∀ (m : Nat) (t : T), t.depth ≤ m → t.ok = true → evLim cx 37 [.d t.d] [] = some (.ret (mkB (Sp.right t)), [])
  | 0, .mk .., h, _ => by simp [T.depth] at h
  | m + 1, .mk k nm kids nms pl, hd, ho => by
    have hm : ∀ t : T, t.depth ≤ m → t.ok = true → evLim cx 37 [.d t.d] [] = some (.ret (mkB (Sp.right t)), []) := fun t h1 h2 => lim37 m t h1 h2
    have hA : knows cx (pureK 37 decD (Sp.toT m) (fun t => mkB (Sp.right t)) K5).S (evLim cx) := pureK_knows K5_knows fun a q b _ h hb => by
      obtain rfl := decD_some h
      obtain ⟨rfl, h1, h2⟩ := toT_some hb
      exact hm b h1 h2
    have hR : knows cx (pureK 63 (decDF 64) (Sp.ts (Sp.toT m)) (fun l => mkB (l.any (fun t => !Sp.elem t))) (pureK 37 decD (Sp.toT m) (fun t => mkB (Sp.right t)) K5)).S (evLim cx) := pureK_knows hA fun a q b hd h hb => by
      obtain rfl := decDF_some h
      obtain ⟨l, rfl, h1, h2⟩ := ts_some hb
      obtain ⟨rfl, h3⟩ := toL_ds (fun x t h => (toT_some h).1) h1
      exact lim63b (fun x t h => (toT_some h).1) K5_knows (lim64 hm) b h2 h3
    obtain ⟨h1, h2, h3, h4, h5⟩ := ok_inv ho
    have hkd := depth_inv hd
    refine lim_bodyK hR (N := 0) ?_
    refine (g37 0 m k nm kids nms pl).trans ?_
    have hC : Sp.toC (D.agg [D.int IntKind.i64 k, D.str nm, D.sl 5 (T.ds kids), D.sl 1 (List.map D.str nms), D.int IntKind.i64 pl]) = some (.mk k nm kids nms pl) := toC_d ho
    have hT : ∀ t ∈ kids, Sp.toT m t.d = some t := fun t h => kid_toT hkd h5 h
    have hTC : ∀ t ∈ kids, Sp.toC t.d = some t := fun t h => kid_toC h5 h
    have hts : Sp.ts (Sp.toT m) (.sl 5 (T.ds kids)) = some kids := ts_of hT h2
    simp only [hC, hts, optK, ds_len, List.length_map, shrt_big h1, must, cond_true, nthD_ds, cells_d, nth0, nth1, nth2, nth3, nth4, agg_d, Sp.plain, lenZ, lenO, lenT, lenP, lenP1, decide_true, Bool.and_true]
    clear hC hR hA ho hd hm hts
    have hk : k = 1 ∨ k = 2 ∨ k = 3 ∨ k = 4 ∨ k = 5 ∨ k = 6 ∨ k = 7 ∨ k = 8 ∨ k = 9 ∨ k = 10 ∨ (k ≠ 1 ∧ k ≠ 2 ∧ k ≠ 3 ∧ k ≠ 4 ∧ k ≠ 5 ∧ k ≠ 6 ∧ k ≠ 7 ∧ k ≠ 8 ∧ k ≠ 9 ∧ k ≠ 10) := by omega
    rcases hk with rfl | rfl | rfl | rfl | rfl | rfl | rfl | rfl | rfl | rfl | ⟨q1, q2, q3, q4, q5, q6, q7, q8, q9, q10⟩
    all_goals simp only [*, Int.reduceEq, decide_true, decide_false, cond_true, cond_false]
    all_goals rcases kids with _ | ⟨a, _ | ⟨b, _ | ⟨c, l⟩⟩⟩
    all_goals rcases nms with _ | ⟨x, _ | ⟨y, nms⟩⟩
    all_goals simp [Sp.right, mkB, hT, hTC, cond_and, cond_or, Bool.and_assoc, List.not_any_eq_all_not, elems_all]
    all_goals first | (simp [*]; done) | (rw [decide_eq_false (p := ((nms.length : Int) + 1 + 1 < 2)) (by omega), decide_eq_false (p := nms.length + 1 + 1 < 2) (by omega)]; simp)
end Go.Vai
end

section
namespace Go.Vai
open Go.Proofs

theorem spl9 : Nat.beq 1 (cx.P.cellsOf 9) = true := by kernel_rfl
theorem spl26 : Nat.beq 5 (cx.P.cellsOf 26) = true := by kernel_rfl

end Go.Vai
end

section
namespace Go.Vai
open Go.Proofs

/-- The printer, with some bytes in it; it may have printed none. -/
def adV : Bool → V | true => .ptr 0 0 | false => .d .nilptr
def psS (u : Bool) (L : List D) : St := [(0, .val 76546051 (.agg [adV u, .sl 6291457 L 1, .d (.bool false)])), (1, .tok L.length)]
def Sp.app (L : List D) (s : List UInt8) : List D := L ++ s.map fun b => .int .u8 b.toNat
def Sp.room (L : List D) (s : List UInt8) : Bool := decide (L.length + s.length ≤ 65536)
def Sp.fit (n : Nat) (L : List D) : Bool := decide (n = L.length)
theorem fit_self (L : List D) : Sp.fit L.length L = true := decide_eq_true rfl
theorem app_app (L : List D) (s t : List UInt8) : Sp.app (Sp.app L s) t = Sp.app L (s ++ t) := by simp [Sp.app]
theorem app_len (L : List D) (s : List UInt8) : (Sp.app L s).length = L.length + s.length := by simp [Sp.app]
theorem room_app {L : List D} {s t : List UInt8} (h : Sp.room L (s ++ t) = true) : Sp.room L s = true ∧ Sp.room (Sp.app L s) t = true := by
  simp only [Sp.room, decide_eq_true_eq, List.length_append, app_len] at h ⊢
  omega

def catS : List D → Option (List UInt8)
  | [] => some []
  | .str s :: r => (match catS r with | some t => some (s ++ t) | none => none)
  | _ :: _ => none

/-- The printer, ahead of a call. -/
def psD : St → Option (List D × Nat)
  | [(0, .val 76546051 (.agg [.ptr 0 0, .sl 6291457 L 1, .d (.bool false)])), (1, .tok n)] => some (L, n)
  | [(0, .val 76546051 (.agg [.d .nilptr, .sl 6291457 L 1, .d (.bool false)])), (1, .tok n)] => some (L, n)
  | _ => none
theorem psD_some {σ : St} {L : List D} {n : Nat} (h : psD σ = some (L, n)) (hn : Sp.fit n L = true) : ∃ u, σ = psS u L := by
  simp only [Sp.fit, decide_eq_true_eq] at hn
  subst hn
  unfold psD at h
  split at h
  · cases h; exact ⟨true, rfl⟩
  · cases h; exact ⟨false, rfl⟩
  · cases h

/-- A function that prints a text, of its arguments' data. -/
def prK {α : Type} (f : Nat) (dec : List V → Option α) (sp : α → Option (List UInt8)) (S : CK R1) : CK R1 :=
  more f (fun a σ => match dec a, psD σ with | some q, some p => some (q, p) | _, _ => none)
    (fun K q => match q with | (x, L, n) => optK (sp x) fun s => must (Sp.fit n L) (must (Sp.room L s) (K (.ret (.tup [])) (psS true (Sp.app L s)))))
    (fun K q => by
      obtain ⟨x, L, n⟩ := q
      simp only
      rw [optP_optK]
      congr 1
      funext s
      simp only [must, optP_cond]
      rfl) S
theorem prK_knows {α : Type} {f : Nat} {dec : List V → Option α} {sp : α → Option (List UInt8)} {S : CK R1} (hS : knows cx S.S (evLim cx))
    (hf : ∀ a q s u L, dec a = some q → sp q = some s → Sp.room L s = true → evLim cx f a (psS u L) = some (.ret (.tup []), psS true (Sp.app L s))) : knows cx (prK f dec sp S).S (evLim cx) :=
  more_knows hS fun a σ q r hd h => by
    obtain ⟨q, L, n⟩ := q
    simp only at hd h
    split at hd
    · rename_i q' p hq hp
      cases hd
      obtain ⟨s, hs, h⟩ := optK_some h
      obtain ⟨h1, h⟩ := must_some h
      obtain ⟨h2, h⟩ := must_some h
      cases h
      obtain ⟨u, rfl⟩ := psD_some hp h1
      exact hf a q s u L hq hs h2
    · cases hd

theorem g66 (n : Nat) (S : CK R1) (L : List D) : evBody cx S n 66 [.ptr 0 0] (psS true L) = some (Out.ret (V.d (D.int IntKind.i64 (↑L.length : Int))), [(0, Ob.val 76546051 (V.agg [V.ptr 0 0, V.sl 6291457 L 1, V.d (D.bool false)])), (1, Ob.tok L.length)]) := by kernel_rfl

theorem g89 (n : Nat) (S : CK R1) (L : List D) : evBody cx S n 89 [.ptr 0 0] (psS true L) = some (Out.ret (V.tup []), [(0, Ob.val 76546051 (V.agg [V.ptr 0 0, V.sl 6291457 L 1, V.d (D.bool false)])), (1, Ob.tok L.length)]) := by kernel_rfl

theorem g89f (n : Nat) (S : CK R1) (L : List D) : evBody cx S n 89 [.ptr 0 0] (psS false L) = some (Out.ret (V.tup []), [(0, Ob.val 76546051 (V.agg [V.ptr 0 0, V.sl 6291457 L 1, V.d (D.bool false)])), (1, Ob.tok L.length)]) := by kernel_rfl

theorem g66f (n : Nat) (S : CK R1) (L : List D) : evBody cx S n 66 [.ptr 0 0] (psS false L) = some (.ret (.d (.int .i64 L.length)), psS false L) := by kernel_rfl

def decO : List V → Option Unit | [.ptr 0 0] => some () | _ => none
theorem decO_some {a : List V} {x} (h : decO a = some x) : a = [.ptr 0 0] := by
  unfold decO at h
  split at h
  · rfl
  · cases h
def decOS : List V → Option (List UInt8) | [.ptr 0 0, .d (.str s)] => some s | _ => none
theorem decOS_some {a : List V} {s} (h : decOS a = some s) : a = [.ptr 0 0, .d (.str s)] := by
  unfold decOS at h
  split at h
  · cases h; rfl
  · cases h
/-- The copy check. -/
def K89 : CK R1 := more 89 (fun a σ => match decO a, psD σ with | some _, some p => some p | _, _ => none) (fun K q => match q with | (L, n) => must (Sp.fit n L) (K (.ret (.tup [])) (psS true L)))
    (fun K q => by obtain ⟨L, n⟩ := q; simp only [must, optP_cond]; rfl) (CK.plain none1)
theorem K89_knows : knows cx K89.S (evLim cx) := more_knows none1K_knows fun a σ q r hd h => by
  obtain ⟨L, n⟩ := q
  simp only at hd h
  split at hd
  · rename_i p ha hp
    cases hd
    obtain ⟨h1, h⟩ := must_some h
    cases h
    obtain rfl := decO_some ha
    obtain ⟨u, rfl⟩ := psD_some hp h1
    refine lim_bodyK none1K_knows (N := 0) ?_
    cases u
    · exact g89f 0 _ L
    · exact g89 0 _ L
  · cases hd
end Go.Vai
end

section
namespace Go.Vai
open Go.Proofs

theorem g67 (n : Nat) (L : List D) (s : List UInt8) : evBody cx K89 n 67 [.ptr 0 0, .d (.str s)] (psS true L) = must (Sp.fit L.length L) (must (decide (L.length = L.length) && decide (L.length + (List.map (fun b => D.int IntKind.u8 (↑b.toNat : Int)) s).length ≤ 4294967296)) (some (Out.ret (V.tup [V.d (D.int IntKind.i64 (↑s.length : Int)), V.d D.nilIface]), [(0, Ob.val 76546051 (V.agg [V.ptr 0 0, V.sl 6291457 (L ++ List.map (fun b => D.int IntKind.u8 (↑b.toNat : Int)) s) 1, V.d (D.bool false)])), (1, Ob.tok (L.length + (List.map (fun b => D.int IntKind.u8 (↑b.toNat : Int)) s).length))]))) := by kernel_rfl

theorem g67f (n : Nat) (L : List D) (s : List UInt8) : evBody cx K89 n 67 [.ptr 0 0, .d (.str s)] (psS false L) = must (Sp.fit L.length L) (must (decide (L.length = L.length) && decide (L.length + (List.map (fun b => D.int IntKind.u8 (↑b.toNat : Int)) s).length ≤ 4294967296)) (some (Out.ret (V.tup [V.d (D.int IntKind.i64 (↑s.length : Int)), V.d D.nilIface]), [(0, Ob.val 76546051 (V.agg [V.ptr 0 0, V.sl 6291457 (L ++ List.map (fun b => D.int IntKind.u8 (↑b.toNat : Int)) s) 1, V.d (D.bool false)])), (1, Ob.tok (L.length + (List.map (fun b => D.int IntKind.u8 (↑b.toNat : Int)) s).length))]))) := by kernel_rfl

noncomputable def K67 : CK R1 := more 67 (fun a σ => match decOS a, psD σ with | some s, some p => some (s, p) | _, _ => none)
    (fun K q => match q with | (s, L, n) => must (Sp.fit n L) (must (Sp.room L s) (K (.ret (.tup [.d (.int .i64 s.length), .d .nilIface])) (psS true (Sp.app L s)))))
    (fun K q => by obtain ⟨s, L, n⟩ := q; simp only [must, optP_cond]; rfl)
  (more 66 (fun a σ => match decO a, psD σ with | some _, some p => some (p, σ) | _, _ => none) (fun K q => match q with | ((L, n), σ) => must (Sp.fit n L) (K (.ret (.d (.int .i64 L.length))) σ))
    (fun K q => by obtain ⟨⟨L, n⟩, σ⟩ := q; simp only [must, optP_cond]; rfl) (CK.plain none1))

theorem lim67 (u : Bool) (L : List D) (s : List UInt8) (h : Sp.room L s = true) : evLim cx 67 [.ptr 0 0, .d (.str s)] (psS u L) = some (.ret (.tup [.d (.int .i64 s.length), .d .nilIface]), psS true (Sp.app L s)) := by
  have h1 : decide (L.length + (List.map (fun b : UInt8 => D.int IntKind.u8 (b.toNat : Int)) s).length ≤ 4294967296) = true := decide_eq_true (by simp only [Sp.room, decide_eq_true_eq] at h; rw [List.length_map]; omega)
  have e : (Sp.app L s).length = L.length + (List.map (fun b : UInt8 => D.int IntKind.u8 (b.toNat : Int)) s).length := by simp [Sp.app]
  refine lim_bodyK K89_knows (N := 0) ?_
  cases u
  · rw [g67f, h1]
    simp only [fit_self, must, cond_true, decide_true, Bool.and_self]
    rw [psS, e]; rfl
  · rw [g67, h1]
    simp only [fit_self, must, cond_true, decide_true, Bool.and_self]
    rw [psS, e]; rfl

theorem K67_knows : knows cx K67.S (evLim cx) := by
  have h66 : knows cx (more 66 (fun a σ => match decO a, psD σ with | some _, some p => some (p, σ) | _, _ => none) (fun K q => match q with | ((L, n), σ) => must (Sp.fit n L) (K (.ret (.d (.int .i64 L.length))) σ))
    (fun K q => by obtain ⟨⟨L, n⟩, σ⟩ := q; simp only [must, optP_cond]; rfl) (CK.plain none1)).S (evLim cx) := more_knows none1K_knows fun a σ q r hd h => by
    obtain ⟨⟨L, n⟩, τ⟩ := q
    simp only at hd h
    split at hd
    · rename_i p ha hp
      cases hd
      obtain ⟨h1, h⟩ := must_some h
      cases h
      obtain rfl := decO_some ha
      obtain ⟨u, rfl⟩ := psD_some hp h1
      refine lim_bodyK none1K_knows (N := 0) ?_
      cases u
      · exact g66f 0 _ _
      · exact g66 0 _ _
    · cases hd
  exact more_knows h66 fun a σ q r hd h => by
    obtain ⟨s, L, n⟩ := q
    simp only at hd h
    split at hd
    · rename_i s' p ha hp
      cases hd
      obtain ⟨h1, h⟩ := must_some h
      obtain ⟨h2, h⟩ := must_some h
      cases h
      obtain rfl := decOS_some ha
      obtain ⟨u, rfl⟩ := psD_some hp h1
      exact lim67 u L s h2
    · cases hd
end Go.Vai
end

section
namespace Go.Vai
open Go.Proofs

theorem g38 (n : Nat) (L : List D) (l : List D) : evBody cx K67 n 38 [.ptr 0 0, .d (.sl 1 l)] (psS true L) = LP cx K67 n 38 2 1 n [(0, V.ptr 0 0), (6, V.d (D.sl 1 l)), (7, V.d (D.int IntKind.i64 (↑l.length : Int))), (8, V.d (D.int IntKind.i64 (0 : Int)))] [(0, Ob.val 76546051 (V.agg [V.ptr 0 0, V.sl 6291457 L 1, V.d (D.bool false)])), (1, Ob.tok L.length)] (AK cx K67 n 38 2 1 (EK cx 38 2)) := by kernel_rfl

theorem g38f (n : Nat) (L : List D) (l : List D) : evBody cx K67 n 38 [.ptr 0 0, .d (.sl 1 l)] (psS false L) = LP cx K67 n 38 2 1 n [(0, V.ptr 0 0), (6, V.d (D.sl 1 l)), (7, V.d (D.int IntKind.i64 (↑l.length : Int))), (8, V.d (D.int IntKind.i64 (0 : Int)))] [(0, Ob.val 76546051 (V.agg [V.d D.nilptr, V.sl 6291457 L 1, V.d (D.bool false)])), (1, Ob.tok L.length)] (AK cx K67 n 38 2 1 (EK cx 38 2)) := by kernel_rfl

theorem l38 (n k : Nat) (L : List D) (l : List (List UInt8)) (i : Int) : LP cx K67 n 38 2 1 (k + 1) [(0, .ptr 0 0), (6, .d (.sl 1 (l.map .str))), (7, .d (.int .i64 (l.length : Int))), (8, .d (.int .i64 i))] (psS true L) (AK cx K67 n 38 2 1 (EK cx 38 2)) = bif decide (i < (↑l.length : Int)) then must (decide (0 ≤ i) && decide (i < (↑(List.map D.str l).length : Int))) (nthD (List.map D.str l) i.toNat fun y => nthD y.cells 0 fun c => match c with
 | D.str s => must (Sp.fit L.length L) (bif decide ((65536 : Int) < IntKind.i64.wrap ((↑L.length : Int) + (↑s.length : Int))) then some (Out.ret (V.tup []), [(0, Ob.val 76546051 (V.agg [V.ptr 0 0, V.sl 6291457 L 1, V.d (D.bool true)])), (1, Ob.tok L.length)]) else must (Sp.fit L.length L) (must (Sp.room L s) (LP cx K67 n 38 2 1 k [(0, V.ptr 0 0), (6, V.d (D.sl 1 (List.map D.str l))), (7, V.d (D.int IntKind.i64 (↑l.length : Int))), (8, V.d (D.int IntKind.i64 (IntKind.i64.wrap (i + (1 : Int)))))] [(0, Ob.val 76546051 (V.agg [V.ptr 0 0, V.sl 6291457 (Sp.app L s) 1, V.d (D.bool false)])), (1, Ob.tok (Sp.app L s).length)] (AK cx K67 n 38 2 1 (EK cx 38 2)))))
 | x => none) else some (Out.ret (V.tup []), [(0, Ob.val 76546051 (V.agg [V.ptr 0 0, V.sl 6291457 L 1, V.d (D.bool false)])), (1, Ob.tok L.length)]) := by kernel_rfl

theorem l38f (n k : Nat) (L : List D) (l : List (List UInt8)) (i : Int) : LP cx K67 n 38 2 1 (k + 1) [(0, .ptr 0 0), (6, .d (.sl 1 (l.map .str))), (7, .d (.int .i64 (l.length : Int))), (8, .d (.int .i64 i))] (psS false L) (AK cx K67 n 38 2 1 (EK cx 38 2)) = bif decide (i < (↑l.length : Int)) then must (decide (0 ≤ i) && decide (i < (↑(List.map D.str l).length : Int))) (nthD (List.map D.str l) i.toNat fun y => nthD y.cells 0 fun c => match c with
 | D.str s => must (Sp.fit L.length L) (bif decide ((65536 : Int) < IntKind.i64.wrap ((↑L.length : Int) + (↑s.length : Int))) then some (Out.ret (V.tup []), [(0, Ob.val 76546051 (V.agg [V.d D.nilptr, V.sl 6291457 L 1, V.d (D.bool true)])), (1, Ob.tok L.length)]) else must (Sp.fit L.length L) (must (Sp.room L s) (LP cx K67 n 38 2 1 k [(0, V.ptr 0 0), (6, V.d (D.sl 1 (List.map D.str l))), (7, V.d (D.int IntKind.i64 (↑l.length : Int))), (8, V.d (D.int IntKind.i64 (IntKind.i64.wrap (i + (1 : Int)))))] [(0, Ob.val 76546051 (V.agg [V.ptr 0 0, V.sl 6291457 (Sp.app L s) 1, V.d (D.bool false)])), (1, Ob.tok (Sp.app L s).length)] (AK cx K67 n 38 2 1 (EK cx 38 2)))))
 | x => none) else some (Out.ret (V.tup []), [(0, Ob.val 76546051 (V.agg [V.d D.nilptr, V.sl 6291457 L 1, V.d (D.bool false)])), (1, Ob.tok L.length)]) := by kernel_rfl

theorem app_nil (L : List D) : Sp.app L [] = L := by simp [Sp.app]
theorem room_dec {L : List D} {s : List UInt8} (h : Sp.room L s = true) : decide ((65536 : Int) < IntKind.i64.wrap ((L.length : Int) + (s.length : Int))) = false := by
  simp only [Sp.room, decide_eq_true_eq] at h
  rw [IntWalk.i64_in _ (by omega)]
  exact decide_eq_false (by omega)

noncomputable abbrev L38 (n k : Nat) (u : Bool) (L : List D) (l : List (List UInt8)) (i : Int) : Option R1 :=
  LP cx K67 n 38 2 1 k [(0, .ptr 0 0), (6, .d (.sl 1 (l.map .str))), (7, .d (.int .i64 (l.length : Int))), (8, .d (.int .i64 i))] (psS u L) (AK cx K67 n 38 2 1 (EK cx 38 2))

theorem loop38 (n : Nat) (l : List (List UInt8)) (hl : l.length < 4294967296) : ∀ (r : List (List UInt8)) (j k : Nat) (u : Bool) (L : List D), l.drop j = r → j ≤ l.length → r.length < k → Sp.room L r.flatten = true →
    L38 n k u L l j = some (.ret (.tup []), psS (u || !r.isEmpty) (Sp.app L r.flatten))
  | [], j, k, u, L, hd, hj, hk, hr => by
    obtain ⟨k, rfl⟩ : ∃ i, k = i + 1 := ⟨k - 1, by omega⟩
    have : l.length ≤ j := by simpa using hd
    obtain rfl : j = l.length := by omega
    simp only [L38, List.flatten_nil, app_nil]
    cases u
    · rw [l38f, ge_nat]; rfl
    · rw [l38, ge_nat]; rfl
  | s :: r, j, k, u, L, hd, hj, hk, hr => by
    obtain ⟨k, rfl⟩ : ∃ i, k = i + 1 := ⟨k - 1, by omega⟩
    obtain ⟨h1, h2, h3⟩ := at_drop hd
    rw [List.flatten_cons] at hr
    obtain ⟨hr1, hr2⟩ := room_app hr
    have ih := loop38 n l hl r (j + 1) k true (Sp.app L s) h3 h1 (by simp at hk; omega) hr2
    simp only [L38, Bool.true_or] at ih
    have e : psS true (Sp.app (Sp.app L s) r.flatten) = psS (u || !(s :: r).isEmpty) (Sp.app L (s :: r).flatten) := by
      rw [app_app, List.flatten_cons]; cases u <;> rfl
    rw [← e]
    simp only [L38]
    cases u
    · rw [l38f, List.length_map, lt_nat h1, nn_nat, nthD_strs, Int.toNat_natCast, h2, up_short h1 hl]
      simp only [cond_true, must, optK, Bool.and_self, D.cells, nth0, fit_self, room_dec hr1, cond_false, hr1]
      exact ih
    · rw [l38, List.length_map, lt_nat h1, nn_nat, nthD_strs, Int.toNat_natCast, h2, up_short h1 hl]
      simp only [cond_true, must, optK, Bool.and_self, D.cells, nth0, fit_self, room_dec hr1, cond_false, hr1]
      exact ih

theorem lim38 (u : Bool) (L : List D) (l : List (List UInt8)) (hl : l.length < 4294967296) (hne : l ≠ []) (hr : Sp.room L l.flatten = true) :
    evLim cx 38 [.ptr 0 0, .d (.sl 1 (l.map .str))] (psS u L) = some (.ret (.tup []), psS true (Sp.app L l.flatten)) := by
  have h := loop38 (l.length + 1) l hl l 0 (l.length + 1) u L rfl (Nat.zero_le _) (by omega) hr
  simp only [L38] at h
  have e : (u || !l.isEmpty) = true := by cases l; exact absurd rfl hne; cases u <;> rfl
  rw [e] at h
  refine lim_bodyK K67_knows (N := l.length + 1) ?_
  cases u
  · rw [g38f, List.length_map]; exact h
  · rw [g38, List.length_map]; exact h

theorem catS_some : ∀ {l : List D} {s : List UInt8}, catS l = some s → ∃ m : List (List UInt8), l = m.map .str ∧ s = m.flatten
  | [], s, h => by cases h; exact ⟨[], rfl, rfl⟩
  | x :: r, s, h => by
    unfold catS at h
    split at h
    · rename_i he; cases he
    · rename_i t q he
      cases he
      split at h
      · rename_i u hu
        cases h
        obtain ⟨m, rfl, rfl⟩ := catS_some hu
        exact ⟨t :: m, rfl, rfl⟩
      · cases h
    · cases h

/-- A few texts. -/
def decPut : List V → Option (List D) | [.ptr 0 0, .d (.sl 1 (a :: l))] => bif Nat.ble l.length 100 then some (a :: l) else none | _ => none
theorem decPut_some {a : List V} {l} (h : decPut a = some l) : a = [.ptr 0 0, .d (.sl 1 l)] ∧ l ≠ [] ∧ l.length < 4294967296 := by
  unfold decPut at h
  split at h
  · rename_i x r
    cases hc : Nat.ble r.length 100 <;> rw [hc] at h
    · cases h
    · cases h
      have := Nat.le_of_ble_eq_true hc
      exact ⟨rfl, by simp, by simp; omega⟩
  · cases h
noncomputable def K38 : CK R1 := prK 38 decPut catS (CK.plain none1)
theorem K38_knows : knows cx K38.S (evLim cx) := prK_knows none1K_knows fun a q s u L h hs hr => by
  obtain ⟨rfl, h1, h2⟩ := decPut_some h
  obtain ⟨m, rfl, rfl⟩ := catS_some hs
  exact lim38 u L m (by simpa using h2) (by intro e; rw [e] at h1; exact h1 rfl) hr

/-- The library's Join. -/
def Sp.joinS (l : List (List UInt8)) (sep : List UInt8) : List UInt8 := Lib.join l sep
def decJ : List V → Option (D × List UInt8) | [.d x, .d (.str s)] => some (x, s) | _ => none
def Sp.nsS (q : D × List UInt8) : Option (List (List UInt8) × List UInt8) := match Sp.ns q.1 with | some l => bif decide ((Lib.join l q.2).length ≤ 140737488355328) then some (l, q.2) else none | none => none
theorem lim90 (l : List (List UInt8)) (sep : List UInt8) (h1 : shrt l = true) (h2 : (Lib.join l sep).length ≤ 140737488355328) : evLim cx 90 [.d (.sl 1 (l.map .str)), .d (.str sep)] [] = some (.ret (.d (.str (Sp.joinS l sep))), []) := by
  refine lim_of (n := 1) ?_
  have e : cx.nat 90 [.d (.sl 1 (l.map .str)), .d (.str sep)] [] = some (.ret (.d (.str (Lib.join l sep))), []) := by
    have e0 : cx.nat 90 [.d (.sl 1 (l.map .str)), .d (.str sep)] [] = natJoin [.d (.sl 1 (l.map .str)), .d (.str sep)] [] := by kernel_rfl
    rw [e0]
    simp only [natJoin, strsX_map, optK]
    rw [decide_eq_true h2, decide_eq_true (by have := shrt_lt h1; omega)]
    rfl
  show evWith cx (evFun cx 0) 0 90 _ [] = _
  unfold evWith
  rw [e]
  rfl
noncomputable def K90 : CK R1 := pureK 90 decJ Sp.nsS (fun q => mkS (Sp.joinS q.1 q.2)) K38
theorem K90_knows : knows cx K90.S (evLim cx) := pureK_knows K38_knows fun a q b hd h hb => by
  obtain ⟨x, s⟩ := q
  unfold decJ at h
  split at h
  · cases h
    unfold Sp.nsS at hb
    split at hb
    · rename_i l hl
      simp only at hl hb
      cases hc : decide ((Lib.join l s).length ≤ 140737488355328) <;> rw [hc] at hb
      · cases hb
      · cases hb
        obtain ⟨rfl, h1, h2⟩ := ns_some hl
        exact lim90 l s h1 (of_decide_eq_true hc)
    · cases hb
  · cases h
end Go.Vai
end

section
namespace Go.Vai
open Go.Proofs

def Sp.brk (b : Bool) (s : List UInt8) : List UInt8 := bif b then [40] ++ s ++ [41] else s
def Sp.cls (k : Int) : Int := bif decide (k = 2) || decide (k = 3) || decide (k = 4) || decide (k = 5) then 0 else bif decide (k = 6) || decide (k = 7) then 1 else 2
def Sp.rnk (k : Int) : Int := bif decide (k = 14) then 0 else bif decide (k = 15) then 1 else 2
def Sp.at (l : List (List UInt8)) (i : Nat) : List UInt8 := l.getD i []
mutual
/-- A formula's text, without its brackets. -/
def Sp.fmb : T → List UInt8
  | .mk k nm kids _ _ => bif decide (k = 16) then [126] ++ Sp.at (Sp.fms kids 2) 0 else bif decide (k = 15) then Sp.at (Sp.fms kids 1) 0 ++ [32, 47, 92, 32] ++ Sp.at (Sp.fms kids 2) 1
      else bif decide (k = 14) then Sp.at (Sp.fms kids 0) 0 ++ [32, 92, 47, 32] ++ Sp.at (Sp.fms kids 1) 1 else nm
def Sp.fms : List T → Int → List (List UInt8)
  | [], _ => []
  | t :: l, a => Sp.brk (decide (Sp.rnk t.k < a)) (Sp.fmb t) :: Sp.fms l a
end
/-- A formula's text. -/
def Sp.fm (t : T) (a : Int) : List UInt8 := Sp.brk (decide (Sp.rnk t.k < a)) (Sp.fmb t)
def Sp.eqT (t : T) : List UInt8 := [40] ++ t.nm ++ [61] ++ Sp.at t.nms 0 ++ [41]
def Sp.faceT (t : T) : List UInt8 := (bif t.kids.isEmpty then [49] else []) ++ (t.kids.map Sp.eqT).flatten
/-- Is it an Ann of a name? -/
def Sp.annN (l : List T) : Bool := match l with | .mk k _ (.mk k' _ _ _ _ :: _) _ _ :: _ => decide (k = 9) && decide (k' = 1) | _ => false
mutual
/-- A term's text, without its brackets. -/
def Sp.bare : T → List UInt8
  | .mk k nm kids nms _ => bif decide (k = 1) then nm
    else bif decide (k = 2) then [92] ++ Sp.joinS nms [32] ++ [46, 32] ++ Sp.at (Sp.texts kids 0) 0
    else bif decide (k = 3) then [60] ++ Sp.joinS nms [32] ++ [62, 32] ++ Sp.at (Sp.texts kids 0) 0
    else bif decide (k = 4) then (bif decide (nms.length = 1) then [40] ++ Sp.at nms 0 ++ [32, 58, 32] ++ Sp.at (Sp.texts kids 0) 0 ++ [41] else Sp.brk (Sp.annN kids) (Sp.at (Sp.texts kids 1) 0)) ++ [32, 45, 62, 32] ++ Sp.at (Sp.texts kids 0) 1
    else bif decide (k = 5) then (bif decide (nms.length = 1) then [40] ++ Sp.at nms 0 ++ [32, 58, 32] ++ Sp.at (Sp.texts kids 0) 0 ++ [41] else Sp.brk (Sp.annN kids) (Sp.at (Sp.texts kids 1) 0)) ++ [32, 42, 32] ++ Sp.at (Sp.texts kids 0) 1
    else bif decide (k = 6) then Sp.at (Sp.texts kids 1) 0 ++ [32] ++ Sp.at (Sp.texts kids 2) 1
    else bif decide (k = 7) then Sp.at (Sp.texts kids 1) 0 ++ [32, 64, 32] ++ (match kids with | _ :: b :: _ => Sp.fm b 2 | _ => [])
    else bif decide (k = 8) then [40] ++ Sp.at (Sp.texts kids 0) 0 ++ [44, 32] ++ Sp.at (Sp.texts kids 0) 1 ++ [41]
    else bif decide (k = 9) then [40] ++ Sp.at (Sp.texts kids 0) 0 ++ [32, 58, 32] ++ Sp.at (Sp.texts kids 0) 1 ++ [41]
    else [91] ++ Sp.boxT true kids ++ [93]
def Sp.texts : List T → Int → List (List UInt8)
  | [], _ => []
  | t :: l, a => Sp.brk (decide (Sp.cls t.k < a)) (Sp.bare t) :: Sp.texts l a
def Sp.elT : T → List UInt8
  | .mk _ _ kids _ _ => (match kids with | f :: _ => Sp.faceT f | _ => []) ++ (bif decide (kids.length = 2) then [32, 45, 62, 32] ++ Sp.at (Sp.texts kids 0) 1 else [])
def Sp.boxT : Bool → List T → List UInt8
  | _, [] => []
  | b, e :: l => (bif b then [] else [44, 32]) ++ Sp.elT e ++ Sp.boxT false l
end
/-- A term's text, that stands as a term (0), in an app (1), as an atom (2). -/
def Sp.text (t : T) (a : Int) : List UInt8 := Sp.brk (decide (Sp.cls t.k < a)) (Sp.bare t)
theorem texts_at : ∀ (l : List T) (a : Int) (i : Nat) (t : T), l[i]? = some t → Sp.at (Sp.texts l a) i = Sp.text t a
  | [], _, _, _, h => by simp at h
  | u :: l, a, 0, t, h => by simp at h; subst h; rfl
  | u :: l, a, i + 1, t, h => by rw [Sp.texts]; exact texts_at l a i t (by simpa using h)
theorem fms_at : ∀ (l : List T) (a : Int) (i : Nat) (t : T), l[i]? = some t → Sp.at (Sp.fms l a) i = Sp.fm t a
  | [], _, _, _, h => by simp at h
  | u :: l, a, 0, t, h => by simp at h; subst h; rfl
  | u :: l, a, i + 1, t, h => by rw [Sp.fms]; exact fms_at l a i t (by simpa using h)

def decT2 : List V → Option (D × Int) | [.ptr 0 0, .d x, .d (.int .i64 a)] => some (x, a) | _ => none
theorem decT2_some {a : List V} {x : D} {n : Int} (h : decT2 a = some (x, n)) : a = [.ptr 0 0, .d x, .d (.int .i64 n)] := by
  unfold decT2 at h
  split at h
  · cases h; rfl
  · cases h
def decT1 : List V → Option D | [.ptr 0 0, .d x] => some x | _ => none
theorem decT1_some {a : List V} {x : D} (h : decT1 a = some x) : a = [.ptr 0 0, .d x] := by
  unfold decT1 at h
  split at h
  · cases h; rfl
  · cases h
def decTS : List V → Option (D × List UInt8) | [.ptr 0 0, .d x, .d (.str s)] => some (x, s) | _ => none
theorem decTS_some {a : List V} {x : D} {s} (h : decTS a = some (x, s)) : a = [.ptr 0 0, .d x, .d (.str s)] := by
  unfold decTS at h
  split at h
  · cases h; rfl
  · cases h
def sp39 (m : Nat) : D × Int → Option (List UInt8) | (x, a) => optK (Sp.toT m x) fun t => must (Sp.right t) (some (Sp.text t a))
def sp92 (m : Nat) : D × Int → Option (List UInt8) | (x, a) => optK (Sp.toT m x) fun t => must (Sp.form t) (some (Sp.fm t a))

/-- What a closure of the printer and a tree sees: the printer's cell first, or the tree's. -/
def ps70 (u : Bool) (L : List D) (x : D) : St := [(0, .val 1 (.ptr 1 0)), (1, .val 76546051 (.agg [bif u then .ptr 1 0 else .d .nilptr, .sl 6291457 L 2, .d (.bool false)])), (2, .tok L.length), (3, .val 5 (.d x))]
def ps108 (u : Bool) (L : List D) (x : D) : St := [(0, .val 5 (.d x)), (1, .val 1 (.ptr 2 0)), (2, .val 76546051 (.agg [bif u then .ptr 2 0 else .d .nilptr, .sl 6291457 L 3, .d (.bool false)])), (3, .tok L.length)]
/-- What a bracket sees. -/
def psB (u : Bool) (L : List D) (x : D) : St := psS u L ++ [(2, .val 1 (.ptr 0 0)), (3, .val 5 (.d x))]
def psF (u : Bool) (L : List D) (x : D) : St := psS u L ++ [(2, .val 5 (.d x)), (3, .val 1 (.ptr 0 0))]
def ps70D : St → Option (D × List D × Nat)
  | [(0, .val 1 (.ptr 1 0)), (1, .val 76546051 (.agg [.ptr 1 0, .sl 6291457 L 2, .d (.bool false)])), (2, .tok n), (3, .val 5 (.d x))] => some (x, L, n)
  | [(0, .val 1 (.ptr 1 0)), (1, .val 76546051 (.agg [.d .nilptr, .sl 6291457 L 2, .d (.bool false)])), (2, .tok n), (3, .val 5 (.d x))] => some (x, L, n)
  | _ => none
def ps108D : St → Option (D × List D × Nat)
  | [(0, .val 5 (.d x)), (1, .val 1 (.ptr 2 0)), (2, .val 76546051 (.agg [.ptr 2 0, .sl 6291457 L 3, .d (.bool false)])), (3, .tok n)] => some (x, L, n)
  | [(0, .val 5 (.d x)), (1, .val 1 (.ptr 2 0)), (2, .val 76546051 (.agg [.d .nilptr, .sl 6291457 L 3, .d (.bool false)])), (3, .tok n)] => some (x, L, n)
  | _ => none
def psBD : St → Option (D × List D × Nat)
  | [a, b, (2, .val 1 (.ptr 0 0)), (3, .val 5 (.d x))] => (match psD [a, b] with | some (L, n) => some (x, L, n) | none => none)
  | _ => none
def psFD : St → Option (D × List D × Nat)
  | [a, b, (2, .val 5 (.d x)), (3, .val 1 (.ptr 0 0))] => (match psD [a, b] with | some (L, n) => some (x, L, n) | none => none)
  | _ => none
theorem ps70D_some {σ : St} {x : D} {L : List D} {n : Nat} (h : ps70D σ = some (x, L, n)) (hn : Sp.fit n L = true) : ∃ u, σ = ps70 u L x := by
  simp only [Sp.fit, decide_eq_true_eq] at hn
  subst hn
  unfold ps70D at h
  split at h
  · cases h; exact ⟨true, rfl⟩
  · cases h; exact ⟨false, rfl⟩
  · cases h
theorem ps108D_some {σ : St} {x : D} {L : List D} {n : Nat} (h : ps108D σ = some (x, L, n)) (hn : Sp.fit n L = true) : ∃ u, σ = ps108 u L x := by
  simp only [Sp.fit, decide_eq_true_eq] at hn
  subst hn
  unfold ps108D at h
  split at h
  · cases h; exact ⟨true, rfl⟩
  · cases h; exact ⟨false, rfl⟩
  · cases h
theorem psBD_some {σ : St} {x : D} {L : List D} {n : Nat} (h : psBD σ = some (x, L, n)) (hn : Sp.fit n L = true) : ∃ u, σ = psB u L x := by
  unfold psBD at h
  split at h
  · split at h
    · rename_i hp
      cases h
      obtain ⟨u, hu⟩ := psD_some hp hn
      refine ⟨u, ?_⟩
      unfold psB
      rw [← hu]
      rfl
    · cases h
  · cases h
theorem psFD_some {σ : St} {x : D} {L : List D} {n : Nat} (h : psFD σ = some (x, L, n)) (hn : Sp.fit n L = true) : ∃ u, σ = psF u L x := by
  unfold psFD at h
  split at h
  · split at h
    · rename_i hp
      cases h
      obtain ⟨u, hu⟩ := psD_some hp hn
      refine ⟨u, ?_⟩
      unfold psF
      rw [← hu]
      rfl
    · cases h
  · cases h

/-- A closure that prints; a bracket around it. -/
def clK (f : Nat) (dec : List V → Option Bool) (pd : St → Option (D × List D × Nat)) (ps : Bool → List D → D → St) (sp : Bool → D → Option (List UInt8)) (S : CK R1) : CK R1 :=
  more f (fun a σ => match dec a, pd σ with | some b, some p => some (b, p) | _, _ => none)
    (fun K q => match q with | (b, x, L, n) => optK (sp b x) fun s => must (Sp.fit n L) (must (Sp.room L s) (K (.ret (.tup [])) (ps true (Sp.app L s) x))))
    (fun K q => by
      obtain ⟨b, x, L, n⟩ := q
      simp only
      rw [optP_optK]
      congr 1
      funext s
      simp only [must, optP_cond]
      rfl) S
theorem clK_knows {f : Nat} {dec : List V → Option Bool} {pd : St → Option (D × List D × Nat)} {ps : Bool → List D → D → St} {sp : Bool → D → Option (List UInt8)} {S : CK R1} (hS : knows cx S.S (evLim cx))
    (hp : ∀ {σ x L n}, pd σ = some (x, L, n) → Sp.fit n L = true → ∃ u, σ = ps u L x)
    (hf : ∀ a b x s u L, dec a = some b → sp b x = some s → Sp.room L s = true → evLim cx f a (ps u L x) = some (.ret (.tup []), ps true (Sp.app L s) x)) : knows cx (clK f dec pd ps sp S).S (evLim cx) :=
  more_knows hS fun a σ q r hd h => by
    obtain ⟨b, x, L, n⟩ := q
    simp only at hd h
    split at hd
    · rename_i b' p hb hpd
      cases hd
      obtain ⟨s, hs, h⟩ := optK_some h
      obtain ⟨h1, h⟩ := must_some h
      obtain ⟨h2, h⟩ := must_some h
      cases h
      obtain ⟨u, rfl⟩ := hp hpd h1
      exact hf a b x s u L hb hs h2
    · cases hd
def dec70 : List V → Option Bool | [.ptr 0 0, .ptr 3 0] => some true | _ => none
def dec108 : List V → Option Bool | [.ptr 0 0, .ptr 1 0] => some true | _ => none
def dec68 (g : Nat) : List V → Option Bool | [.ptr 0 0, .d (.bool b), .func f [.ptr 2 0, .ptr 3 0]] => bif Nat.beq f g then some b else none | _ => none
theorem dec70_some {a : List V} {b} (h : dec70 a = some b) : a = [.ptr 0 0, .ptr 3 0] := by
  unfold dec70 at h
  split at h
  · rfl
  · cases h
theorem dec108_some {a : List V} {b} (h : dec108 a = some b) : a = [.ptr 0 0, .ptr 1 0] := by
  unfold dec108 at h
  split at h
  · rfl
  · cases h
theorem dec68_some {g : Nat} {a : List V} {b} (h : dec68 g a = some b) : a = [.ptr 0 0, .d (.bool b), .func g [.ptr 2 0, .ptr 3 0]] := by
  unfold dec68 at h
  split at h
  · rename_i b' f
    cases hc : Nat.beq f g <;> rw [hc] at h
    · cases h
    · obtain rfl := Nat.eq_of_beq_eq_true hc
      cases h; rfl
  · cases h
/-- The ranks and classes. -/
def decI1 : List V → Option Int | [.d (.int .i64 a)] => some a | _ => none
noncomputable def K91 : CK R1 := pureK 69 decD Sp.toC (fun t => mkI (Sp.cls t.k)) (pureK 107 decI1 some (fun k => mkI (Sp.rnk k)) K90)
end Go.Vai
end

section
namespace Go.Vai
open Go.Proofs

def Sp.isBd (t : T) : Bool := Sp.right t && (decide (t.k = 4) || decide (t.k = 5))
def Sp.isTw (t : T) : Bool := Sp.right t && (decide (t.k = 8) || decide (t.k = 9))
def Sp.isBx (t : T) : Bool := Sp.right t && decide (t.k = 10)
def Sp.bdT : T → List UInt8 → List UInt8 | .mk _ _ kids nms _, s => (bif decide (nms.length = 1) then [40] ++ Sp.at nms 0 ++ [32, 58, 32] ++ Sp.at (Sp.texts kids 0) 0 ++ [41] else Sp.brk (Sp.annN kids) (Sp.at (Sp.texts kids 1) 0)) ++ s ++ Sp.at (Sp.texts kids 0) 1
def Sp.twT : T → List UInt8 → List UInt8 | .mk _ _ kids _ _, s => [40] ++ Sp.at (Sp.texts kids 0) 0 ++ s ++ Sp.at (Sp.texts kids 0) 1 ++ [41]
def Sp.bxT : T → List UInt8 | .mk _ _ kids _ _ => [91] ++ Sp.boxT true kids ++ [93]
def sp91 (m : Nat) : D × List UInt8 → Option (List UInt8) | (x, s) => optK (Sp.toT m x) fun t => must (Sp.isBd t) (some (Sp.bdT t s))
def sp93 (m : Nat) : D × List UInt8 → Option (List UInt8) | (x, s) => optK (Sp.toT m x) fun t => must (Sp.isTw t) (some (Sp.twT t s))
def sp94 (m : Nat) (x : D) : Option (List UInt8) := optK (Sp.toT m x) fun t => must (Sp.isBx t) (some (Sp.bxT t))
def sp71 (m : Nat) (x : D) : Option (List UInt8) := optK (Sp.toT m x) fun t => must (Sp.right t) (some (Sp.bare t))
noncomputable def sp92C : D × Int → Option (List UInt8) | (x, a) => optK (Sp.toC x) fun t => must (Sp.form t) (some (Sp.fm t a))
def sp108 (m : Nat) (x : D) : Option (List UInt8) := optK (Sp.toT m x) fun t => must (Sp.form t) (some (Sp.fmb t))

/-- What sees term. -/
noncomputable def KT (m : Nat) : CK R1 := prK 39 decT2 (sp39 m) K91
/-- What sees formula. -/
noncomputable def KM (m : Nat) : CK R1 := prK 92 decT2 (sp92 m) K91
noncomputable def K108 (m : Nat) : CK R1 := clK 68 (dec68 108) psFD psF (fun b x => optK (sp108 m x) fun s => some (Sp.brk b s)) K91
noncomputable def K106 (m : Nat) : CK R1 := clK 68 (dec68 106) psBD psB (fun b x => optK (sp39 m (x, 1)) fun s => some (Sp.brk b s)) (KT m)
noncomputable def K70 (m : Nat) : CK R1 := clK 68 (dec68 70) psBD psB (fun b x => optK (sp71 m x) fun s => some (Sp.brk b s)) K91
noncomputable def K71 (m : Nat) : CK R1 := prK 91 decTS (sp91 (m + 1)) (prK 93 decTS (sp93 (m + 1)) (prK 94 decT1 (sp94 (m + 1)) (prK 92 decT2 sp92C (KT m))))
end Go.Vai
end

/-
  The seat's context for the interpreter: the program, what lives where, the listed variables.
  Lex: what the small functions answer.
  Lex: names, prefixes.
  Lex: what is let by.
  Lex: one token.
  Lex: bounds; texts; what a text's tokens are.
  Lex: the tokens of a text.
  Lex: is it a text?
-/
import Derived.Test.YtdgdfglbhndjnaaDoorVaiPart7
import Derived.Test.YtdgdfglbhndjnaaDoorCards
import Derived.Test.YtdgdfglbhndjnaaDoorTie
import Derived.KernelRfl
import Derived.IntWalk

set_option linter.all false
set_option linter.unusedSimpArgs false
set_option linter.unusedVariables false

section
namespace Go.Vai
open Go.Proofs
def liveT : List (Nat × List (Nat × List Nat)) := [(12, [(0, [2, 3, 4]), (2, [2, 3, 4, 7]), (4, []), (6, [2, 3, 4, 8]), (9, [2, 3, 4, 7]), (19, [2, 3, 4, 8])]),
  (13, [(0, [0]), (2, [0, 5]), (4, [0, 8]), (6, [0, 8, 9]), (9, [0, 5]), (23, [0, 8, 9])]),
  (14, [(0, []), (2, [1, 3, 48, 49, 50]), (11, [1, 3, 48, 49, 50])]),
  (18, [(0, [0]), (2, [0, 9, 10, 11]), (4, [6]), (5, [0, 9, 10, 11]), (6, [6, 55, 56, 57]), (19, [6, 55, 56, 57])]),
  (19, [(0, [4]), (2, [0, 4, 5]), (7, [0, 4, 5])]),
  (25, [(0, [0, 1, 4])]),
  (26, [(0, []), (1, [0, 1]), (2, [0, 1])]),
  (30, [(0, [1]), (2, [0, 1]), (3, [0, 1]), (4, [0, 1]), (6, [0, 1]), (8, [0, 1]), (21, [0, 1])]),
  (31, [(0, [2]), (2, [0, 2, 14, 15]), (11, [0, 2, 14, 15])]),
  (32, [(0, []), (2, [1, 8, 9, 10]), (5, [1, 8, 9, 10])]),
  (33, [(0, [1, 2, 5]), (2, [1, 2, 5, 6]), (4, [5]), (6, [1, 2, 5, 7]), (11, [1, 2, 5, 6]), (23, [1, 2, 5, 7])]),
  (37, [(0, [])]),
  (38, [(0, []), (2, [0, 6, 7, 8]), (3, [0, 6, 7, 8])]),
  (42, [(0, []), (2, [3]), (4, [1, 3, 4, 5]), (45, [1, 3, 4, 5])]),
  (43, [(0, [1, 5, 6])]),
  (49, [(0, [3]), (2, [0, 3]), (5, [0, 3])]),
  (53, [(0, [])]),
  (54, [(0, [6]), (2, [0, 1, 5, 6]), (4, [0, 1, 5, 6]), (13, [0, 1, 5, 6])]),
  (56, [(0, [0, 1, 4, 5]), (2, [0, 4, 6])]),
  (60, [(0, [3]), (2, [0, 3]), (5, [0, 3])]),
  (62, [(0, [])]),
  (69, [(0, [])]),
  (71, [(0, [])]),
  (73, [(0, [0, 6]), (2, [0, 6, 7]), (4, [0, 6, 7]), (6, [0, 6, 7]), (8, [0, 6, 7, 8, 9]), (10, [0, 6, 7, 8, 9]), (17, [0, 6, 7]), (25, [0, 6, 7]), (37, [0, 6, 7, 8, 9])]),
  (74, [(0, [])]),
  (75, [(0, []), (2, [0, 3]), (5, [0, 3])]),
  (76, [(0, []), (2, [1, 3]), (9, [1, 3])]),
  (77, [(0, [5]), (2, [0, 1, 5, 6]), (7, [0, 1, 5, 6])]),
  (79, [(0, [3]), (2, [1, 3, 4]), (4, [1, 3, 4, 5, 6]), (6, [1, 3, 4, 5, 6, 7]), (7, [1, 3, 4]), (17, [1, 3, 4, 5, 6, 7])]),
  (80, [(0, [0, 1, 4])]),
  (81, [(0, [0, 4, 5]), (2, [0, 1, 4, 5]), (5, [0, 1, 4, 5])]),
  (86, [(0, []), (2, [0, 1, 7, 8]), (5, [0, 1, 7, 8])]),
  (90, [(0, [0, 1]), (2, [0, 1, 5]), (4, [0, 1, 5, 39, 40, 41]), (6, [8]), (8, [1, 8, 63, 64, 65]), (25, [0, 1, 5, 39, 40, 41]), (45, [1, 8, 63, 64, 65])]),
  (94, [(0, [0]), (2, [0, 12, 13, 14]), (4, [0, 5, 12, 13, 14]), (6, [0, 5, 12, 13, 14, 38, 39, 40]), (7, [0, 12, 13, 14]), (21, [0, 5, 12, 13, 14, 38, 39, 40])]),
  (95, [(0, []), (2, [0, 3]), (4, [0, 3, 4, 5, 7]), (5, [0, 3]), (6, [0, 3, 4, 5, 7, 8]), (19, [0, 3, 4, 5, 7, 8])]),
  (99, [(0, []), (2, [0, 1, 6, 7]), (15, [0, 1, 6, 7])]),
  (101, [(0, [4, 5]), (2, [0, 1, 4, 5]), (5, [0, 1, 4, 5])]),
  (102, [(0, [2]), (2, [0, 2, 3]), (11, [0, 2, 3])]),
  (103, [(0, []), (2, [0, 1, 7, 8]), (5, [0, 1, 7, 8])]),
  (107, [(0, [])]),
  (108, [(0, [])]),
  (110, [(0, [4, 5]), (2, [0, 1, 4, 5]), (5, [0, 1, 4, 5])])]

def live (f key : Nat) : List Nat := match getA liveT f with | some l => (match getA l key with | some r => r | none => []) | none => []
def signsD : D := .agg [.str [45, 62], .str [47, 92], .str [92, 47], .str [40], .str [41], .str [91], .str [93], .str [44], .str [46], .str [58], .str [59], .str [61], .str [92], .str [60], .str [62], .str [64], .str [126], .str [42], .str [48], .str [49]]
def acc : D := .agg [.int .u8 128, .int .u8 191, .int .u8 160, .int .u8 191, .int .u8 128, .int .u8 159, .int .u8 144, .int .u8 191, .int .u8 128, .int .u8 143, .int .u8 0, .int .u8 0, .int .u8 0, .int .u8 0, .int .u8 0, .int .u8 0, .int .u8 0, .int .u8 0, .int .u8 0, .int .u8 0, .int .u8 0, .int .u8 0, .int .u8 0, .int .u8 0, .int .u8 0, .int .u8 0, .int .u8 0, .int .u8 0, .int .u8 0, .int .u8 0, .int .u8 0, .int .u8 0]
def unW : DataW Unit → List D
  | .lit (.int k n) => [.int k n]
  | .agg l => l.map fun d => match d with | .lit (.int k n) => .int k n | _ => .nilIface
  | _ => []
noncomputable def glob : Nat → Option D
  | 0 => some signsD
  | 1 => some (.agg (unW Go.Pinned.utf8First))
  | 2 => some acc
  | _ => none
/-- What calls are spoken of. -/
def big : Nat := 4611686018427387904
def dom (f : Nat) (args : List V) : Bool :=
  bif Nat.beq f 30 then (match args with | [.d (.str s), .d (.int .i64 a)] => decide (s.length ≤ big) && (decide (0 ≤ a) && decide (a ≤ (s.length : Int))) | _ => true)
  else bif Nat.beq f 99 then (match args with | [.d (.str s), .d (.int .i64 a)] => decide (s.length ≤ big) && (decide (0 ≤ a) && decide (a < (s.length : Int))) | _ => true)
  else bif Nat.beq f 58 then (match args with | [.d (.str (b :: _))] => decide (128 ≤ b.toNat) | _ => true)
  else bif Nat.beq f 12 || Nat.beq f 14 then true
  else (match args with | [.d (.str s)] => decide (s.length ≤ big) | _ => true)
def flat (f key : Nat) : List Nat := bif Nat.beq f 54 && Nat.beq key 13 then [6, 7] else bif (Nat.beq f 101 || Nat.beq f 110) && Nat.beq key 5 then [5, 6] else bif Nat.beq f 102 && Nat.beq key 11 then [3] else bif Nat.beq f 81 && Nat.beq key 5 then [5] else []

noncomputable def cx : Cx := { dom := dom, P := Go.Proofs.Tryd.prog, live := live, glob := glob, keep := fun f => Nat.beq f 55, dfr := fun f => Nat.beq f 23, gives := fun f => Nat.beq f 13, pend := fun f r => bif Nat.beq f 26 && Nat.beq r 1 then some 5 else none, flat := flat, bare := fun nt d => (Nat.beq nt 129 && Nat.beq d 103) || (Nat.beq nt 42 && Nat.beq d 31) }

end Go.Vai
end

section
namespace Go.Vai
open Go.Proofs

/- What is asked of single bytes. -/
def Sp.blank (c : Int) : Bool := decide (c = 32) || decide (c = 9) || decide (c = 10) || decide (c = 13)
def Sp.letter (c : Int) : Bool := (decide (97 ≤ c) && decide (c ≤ 122)) || (decide (65 ≤ c) && decide (c ≤ 90)) || decide (c = 95)
def Sp.digit (c : Int) : Bool := decide (48 ≤ c) && decide (c ≤ 57)
def Sp.moreN (c : Int) : Int := bif decide (c < 128) then 0 else bif decide (194 ≤ c) && decide (c ≤ 223) then 1 else bif decide (224 ≤ c) && decide (c ≤ 239) then 2 else bif decide (240 ≤ c) && decide (c ≤ 244) then 3 else -1
def Sp.moreL (c : Int) : Int := bif decide (c < 128) then 0 else bif decide (194 ≤ c) && decide (c ≤ 223) then 128 else bif decide (224 ≤ c) && decide (c ≤ 239) then 2048 else bif decide (240 ≤ c) && decide (c ≤ 244) then 65536 else 0
def Sp.hasPre (s p : List UInt8) : Bool := decide (s.take p.length = p)

def none1 : Caller := fun _ _ _ => none

theorem none1_knows (cx : Cx) : knows cx none1 (evLim cx) := fun _ _ _ _ _ h => by cases h

/-- What is known, and one thing more. -/
def also (f : Nat) (F : List V → Option Out) (S : Caller) : Caller := fun g args σ =>
  bif Nat.beq g f then (match σ with | [] => (match F args with | some o => some (o, []) | none => none) | _ :: _ => none) else S g args σ

theorem also_knows {cx : Cx} {f : Nat} {F : List V → Option Out} {S : Caller} (hS : knows cx S (evLim cx)) (hF : ∀ args o, cx.dom f args = true → F args = some o → evLim cx f args [] = some (o, [])) : knows cx (also f F S) (evLim cx) := by
  intro g args σ r hd h
  unfold also at h
  cases hg : Nat.beq g f <;> rw [hg] at h
  · exact hS g args σ r hd h
  · obtain rfl := Nat.eq_of_beq_eq_true hg
    cases σ with
    | cons a b => cases h
    | nil =>
      simp only [cond_true] at h
      cases ho : F args with
      | none => rw [ho] at h; cases h
      | some o => rw [ho] at h; cases h; exact hF args o hd ho

def byteF (F : Int → Bool) : List V → Option Out
  | [.d (.int .u8 c)] => some (.ret (.d (.bool (F c))))
  | _ => none

theorem byteF_some {F : Int → Bool} {args : List V} {o : Out} (h : byteF F args = some o) : ∃ c, args = [.d (.int .u8 c)] ∧ o = .ret (.d (.bool (F c))) := by
  unfold byteF at h
  split at h
  · cases h; exact ⟨_, rfl, rfl⟩
  · cases h

theorem b16 (n : Nat) (S : Caller) (c : Int) :
    evBody cx S n 96 [.d (.int .u8 c)] [] =
  bif decide (c = (32 : Int)) then some (Out.ret (V.d (D.bool true)), [])
  else
    bif decide (c = (9 : Int)) then some (Out.ret (V.d (D.bool true)), [])
    else
      bif decide (c = (10 : Int)) then some (Out.ret (V.d (D.bool true)), [])
      else some (Out.ret (V.d (D.bool (decide (c = (13 : Int))))), []) := by kernel_rfl

theorem b17 (n : Nat) (S : Caller) (c : Int) :
    evBody cx S n 97 [.d (.int .u8 c)] [] =
  bif decide (c = (95 : Int)) then some (Out.ret (V.d (D.bool true)), [])
  else
    bif decide ((97 : Int) ≤ c) then
      bif decide (c ≤ (122 : Int)) then some (Out.ret (V.d (D.bool true)), [])
      else
        bif decide ((65 : Int) ≤ c) then some (Out.ret (V.d (D.bool (decide (c ≤ (90 : Int))))), [])
        else some (Out.ret (V.d (D.bool false)), [])
    else
      bif decide ((65 : Int) ≤ c) then some (Out.ret (V.d (D.bool (decide (c ≤ (90 : Int))))), [])
      else some (Out.ret (V.d (D.bool false)), []) := by kernel_rfl

theorem b18 (n : Nat) (S : Caller) (c : Int) :
    evBody cx S n 98 [.d (.int .u8 c)] [] =
  bif decide ((48 : Int) ≤ c) then some (Out.ret (V.d (D.bool (decide (c ≤ (57 : Int))))), [])
  else some (Out.ret (V.d (D.bool false)), []) := by kernel_rfl

theorem b25 (n : Nat) (S : Caller) (c : Int) :
    evBody cx S n 83 [.d (.int .u8 c)] [] =
  bif decide ((97 : Int) ≤ c) then
    bif decide (c ≤ (122 : Int)) then some (Out.ret (V.d (D.bool true)), [])
    else
      bif decide ((65 : Int) ≤ c) then
        bif decide (c ≤ (90 : Int)) then some (Out.ret (V.d (D.bool true)), [])
        else some (Out.ret (V.d (D.bool (decide (c = (95 : Int))))), [])
      else some (Out.ret (V.d (D.bool (decide (c = (95 : Int))))), [])
  else
    bif decide ((65 : Int) ≤ c) then
      bif decide (c ≤ (90 : Int)) then some (Out.ret (V.d (D.bool true)), [])
      else some (Out.ret (V.d (D.bool (decide (c = (95 : Int))))), [])
    else some (Out.ret (V.d (D.bool (decide (c = (95 : Int))))), []) := by kernel_rfl

theorem b23 (n : Nat) (S : Caller) (c : Int) :
    evBody cx S n 109 [.d (.int .u8 c)] [] =
  bif decide (c < (128 : Int)) then
    some (Out.ret (V.tup [V.d (D.int IntKind.i64 (0 : Int)), V.d (D.int IntKind.i64 (0 : Int))]), [])
  else
    bif decide ((194 : Int) ≤ c) then
      bif decide (c ≤ (223 : Int)) then
        some (Out.ret (V.tup [V.d (D.int IntKind.i64 (1 : Int)), V.d (D.int IntKind.i64 (128 : Int))]), [])
      else
        bif decide ((224 : Int) ≤ c) then
          bif decide (c ≤ (239 : Int)) then
            some (Out.ret (V.tup [V.d (D.int IntKind.i64 (2 : Int)), V.d (D.int IntKind.i64 (2048 : Int))]), [])
          else
            bif decide ((240 : Int) ≤ c) then
              bif decide (c ≤ (244 : Int)) then
                some
                  (Out.ret (V.tup [V.d (D.int IntKind.i64 (3 : Int)), V.d (D.int IntKind.i64 (65536 : Int))]),
                    [])
              else
                some
                  (Out.ret (V.tup [V.d (D.int IntKind.i64 (Int.negSucc 0)), V.d (D.int IntKind.i64 (0 : Int))]), [])
            else
              some
                (Out.ret (V.tup [V.d (D.int IntKind.i64 (Int.negSucc 0)), V.d (D.int IntKind.i64 (0 : Int))]), [])
        else
          bif decide ((240 : Int) ≤ c) then
            bif decide (c ≤ (244 : Int)) then
              some
                (Out.ret (V.tup [V.d (D.int IntKind.i64 (3 : Int)), V.d (D.int IntKind.i64 (65536 : Int))]), [])
            else
              some
                (Out.ret (V.tup [V.d (D.int IntKind.i64 (Int.negSucc 0)), V.d (D.int IntKind.i64 (0 : Int))]), [])
          else
            some (Out.ret (V.tup [V.d (D.int IntKind.i64 (Int.negSucc 0)), V.d (D.int IntKind.i64 (0 : Int))]), [])
    else
      bif decide ((224 : Int) ≤ c) then
        bif decide (c ≤ (239 : Int)) then
          some (Out.ret (V.tup [V.d (D.int IntKind.i64 (2 : Int)), V.d (D.int IntKind.i64 (2048 : Int))]), [])
        else
          bif decide ((240 : Int) ≤ c) then
            bif decide (c ≤ (244 : Int)) then
              some
                (Out.ret (V.tup [V.d (D.int IntKind.i64 (3 : Int)), V.d (D.int IntKind.i64 (65536 : Int))]), [])
            else
              some
                (Out.ret (V.tup [V.d (D.int IntKind.i64 (Int.negSucc 0)), V.d (D.int IntKind.i64 (0 : Int))]), [])
          else
            some (Out.ret (V.tup [V.d (D.int IntKind.i64 (Int.negSucc 0)), V.d (D.int IntKind.i64 (0 : Int))]), [])
      else
        bif decide ((240 : Int) ≤ c) then
          bif decide (c ≤ (244 : Int)) then
            some
              (Out.ret (V.tup [V.d (D.int IntKind.i64 (3 : Int)), V.d (D.int IntKind.i64 (65536 : Int))]), [])
          else
            some (Out.ret (V.tup [V.d (D.int IntKind.i64 (Int.negSucc 0)), V.d (D.int IntKind.i64 (0 : Int))]), [])
        else some (Out.ret (V.tup [V.d (D.int IntKind.i64 (Int.negSucc 0)), V.d (D.int IntKind.i64 (0 : Int))]), []) := by kernel_rfl

theorem b24 (n : Nat) (S : Caller) (s p : List UInt8) :
    evBody cx S n 82 [.d (.str s), .d (.str p)] [] =
  bif decide ((↑p.length : Int) ≤ (↑s.length : Int)) then
    must (decide ((↑p.length : Int) ≤ (↑s.length : Int)))
      (some (Out.ret (V.d (D.bool (decide (List.drop 0 (List.take (↑p.length : Int).toNat s) = p)))), []))
  else some (Out.ret (V.d (D.bool false)), []) := by kernel_rfl

theorem lim16 (c : Int) : evLim cx 96 [.d (.int .u8 c)] [] = some (.ret (.d (.bool (Sp.blank c))), []) := by
  refine lim_body (N := 0) (none1_knows cx) ?_
  rw [b16]
  unfold Sp.blank
  cases decide (c = 32) <;> cases decide (c = 9) <;> cases decide (c = 10) <;> rfl

theorem lim17 (c : Int) : evLim cx 97 [.d (.int .u8 c)] [] = some (.ret (.d (.bool (Sp.letter c))), []) := by
  refine lim_body (N := 0) (none1_knows cx) ?_
  rw [b17]
  unfold Sp.letter
  cases decide (c = 95) <;> cases decide (97 ≤ c) <;> cases decide (c ≤ 122) <;> cases decide (65 ≤ c) <;> cases decide (c ≤ 90) <;> rfl

theorem lim18 (c : Int) : evLim cx 98 [.d (.int .u8 c)] [] = some (.ret (.d (.bool (Sp.digit c))), []) := by
  refine lim_body (N := 0) (none1_knows cx) ?_
  rw [b18]
  unfold Sp.digit
  cases decide (48 ≤ c) <;> rfl

theorem lim25 (c : Int) : evLim cx 83 [.d (.int .u8 c)] [] = some (.ret (.d (.bool (Sp.letter c))), []) := by
  refine lim_body (N := 0) (none1_knows cx) ?_
  rw [b25]
  unfold Sp.letter
  cases decide (c = 95) <;> cases decide (97 ≤ c) <;> cases decide (c ≤ 122) <;> cases decide (65 ≤ c) <;> cases decide (c ≤ 90) <;> rfl

theorem lim23 (c : Int) : evLim cx 109 [.d (.int .u8 c)] [] = some (.ret (.tup [.d (.int .i64 (Sp.moreN c)), .d (.int .i64 (Sp.moreL c))]), []) := by
  refine lim_body (N := 0) (none1_knows cx) ?_
  rw [b23]
  unfold Sp.moreN Sp.moreL
  cases decide (c < 128) <;> cases decide (194 ≤ c) <;> cases decide (c ≤ 223) <;> cases decide (224 ≤ c) <;> cases decide (c ≤ 239) <;> cases decide (240 ≤ c) <;> cases decide (c ≤ 244) <;> rfl

theorem lim24 (s p : List UInt8) : evLim cx 82 [.d (.str s), .d (.str p)] [] = some (.ret (.d (.bool (Sp.hasPre s p))), []) := by
  refine lim_body (N := 0) (none1_knows cx) ?_
  rw [b24]
  unfold Sp.hasPre
  by_cases h : p.length ≤ s.length
  · have h' : decide ((p.length : Int) ≤ s.length) = true := decide_eq_true (by omega)
    simp only [h', must, cond_true, Int.toNat_natCast, List.drop_zero]
  · have h' : decide ((p.length : Int) ≤ s.length) = false := decide_eq_false (by omega)
    have : decide (s.take p.length = p) = false := decide_eq_false fun e => by
      have := congrArg List.length e
      simp at this
      omega
    simp only [h', cond_false, this]

end Go.Vai
end

section
namespace Go.Vai
open Go.Proofs

theorem drop_nil {s : List UInt8} {j : Nat} (h : s.drop j = []) : s.length ≤ j := by
  have := congrArg List.length h
  simp at this
  omega
theorem drop_cons {s r : List UInt8} {b : UInt8} {j : Nat} (h : s.drop j = b :: r) : j < s.length ∧ s[j]? = some b ∧ s.drop (j + 1) = r := by
  have h1 : j < s.length := by
    have := congrArg List.length h
    simp at this
    omega
  refine ⟨h1, ?_, ?_⟩
  · have := congrArg (·[0]?) h
    simpa using this
  · rw [← List.drop_drop, h]; rfl

theorem wrap1 {j : Nat} (h : j ≤ 4611686018427387904) : IntKind.i64.wrap ((j : Int) + 1) = ((j + 1 : Nat) : Int) := by
  rw [IntWalk.i64_in _ (by omega)]; rfl

def preF : List V → Option Out
  | [.d (.str s), .d (.str p)] => some (.ret (.d (.bool (Sp.hasPre s p))))
  | _ => none

theorem preF_some {args : List V} {o : Out} (h : preF args = some o) : ∃ s p, args = [.d (.str s), .d (.str p)] ∧ o = .ret (.d (.bool (Sp.hasPre s p))) := by
  unfold preF at h
  split at h
  · cases h; exact ⟨_, _, rfl, rfl⟩
  · cases h

noncomputable def S22 : Caller := also 83 (byteF Sp.letter) none1
noncomputable def S21 : Caller := also 82 preF none1

theorem S22_knows : knows cx S22 (evLim cx) := also_knows (none1_knows cx) fun args o _ h => by
  obtain ⟨c, rfl, rfl⟩ := byteF_some h
  exact lim25 c
theorem S21_knows : knows cx S21 (evLim cx) := also_knows (none1_knows cx) fun args o _ h => by
  obtain ⟨s, p, rfl, rfl⟩ := preF_some h
  exact lim24 s p

theorem b21 (n : Nat) (s p : List UInt8) :
    evBody cx S21 n 59 [.d (.str s), .d (.str p)] [] =
 some (Out.ret (V.d (D.bool (Sp.hasPre s p))), []) := by kernel_rfl

theorem b22 (n : Nat) (s : List UInt8) :
    evBody cx S22 n 60 [.d (.str s)] [] =
  LP cx S22 n 60 0 2 n [(0, V.d (D.str s)), (3, V.d (D.int IntKind.i64 (0 : Int)))] []
    (AK cx S22 n 60 0 2 (EK cx 60 0)) := by kernel_rfl

theorem l22 (n k : Nat) (s : List UInt8) (i : Int) :
    LP cx S22 n 60 0 2 (k+1) [(0, .d (.str s)), (3, .d (.int .i64 i))] [] (AK cx S22 n 60 0 2 (EK cx 60 0)) =
  bif decide (i < (↑s.length : Int)) then
    must (decide (0 ≤ i) && decide (i < (↑s.length : Int)))
      (optK s[i.toNat]? fun b =>
        bif Sp.letter (↑b.toNat : Int) then
          LP cx S22 n 60 0 2 k [(0, V.d (D.str s)), (3, V.d (D.int IntKind.i64 (IntKind.i64.wrap (i + (1 : Int)))))]
            [] (AK cx S22 n 60 0 2 (EK cx 60 0))
        else
          bif decide ((0 : Int) < i) then
            must (decide (0 ≤ i) && decide (i < (↑s.length : Int)))
              (optK s[i.toNat]? fun b =>
                bif decide ((48 : Int) ≤ (↑b.toNat : Int)) then
                  must (decide (0 ≤ i) && decide (i < (↑s.length : Int)))
                    (optK s[i.toNat]? fun b =>
                      bif decide ((↑b.toNat : Int) ≤ (57 : Int)) then
                        LP cx S22 n 60 0 2 k
                          [(0, V.d (D.str s)), (3, V.d (D.int IntKind.i64 (IntKind.i64.wrap (i + (1 : Int)))))] []
                          (AK cx S22 n 60 0 2 (EK cx 60 0))
                      else some (Out.ret (V.d (D.int IntKind.i64 i)), []))
                else some (Out.ret (V.d (D.int IntKind.i64 i)), []))
          else some (Out.ret (V.d (D.int IntKind.i64 i)), []))
  else some (Out.ret (V.d (D.int IntKind.i64 i)), []) := by kernel_rfl

theorem lim21 (s p : List UInt8) : evLim cx 59 [.d (.str s), .d (.str p)] [] = some (.ret (.d (.bool (Sp.hasPre s p))), []) :=
  lim_body (N := 0) S21_knows (b21 0 s p)

/-- Where the name ends that a text has up to a place. -/
def Sp.nameGo : List UInt8 → Nat → Nat
  | [], j => j
  | b :: r, j => bif Sp.letter b.toNat || (decide (0 < j) && Sp.digit b.toNat) then Sp.nameGo r (j + 1) else j

def Sp.nameLen (s : List UInt8) : Nat := Sp.nameGo s 0

theorem name_loop {s : List UInt8} (hs : s.length ≤ 4611686018427387904) (n : Nat) : ∀ (r : List UInt8) (j k : Nat), s.drop j = r → j ≤ s.length → r.length < k →
    LP cx S22 n 60 0 2 k [(0, .d (.str s)), (3, .d (.int .i64 (j : Int)))] [] (AK cx S22 n 60 0 2 (EK cx 60 0)) = some (.ret (.d (.int .i64 (Sp.nameGo r j : Nat))), [])
  | [], j, k + 1, hr, hj, _ => by
    have := drop_nil hr
    rw [l22, decide_eq_false (by omega), cond_false]
    rfl
  | b :: r, j, k + 1, hr, hj, hk => by
    obtain ⟨h1, h2, h3⟩ := drop_cons hr
    have ih := name_loop hs n r (j + 1) k h3 h1 (by simpa using hk)
    have h0 : decide ((0 : Int) ≤ (j : Int)) = true := decide_eq_true (by omega)
    have hlt : decide ((j : Int) < (s.length : Int)) = true := decide_eq_true (by omega)
    rw [l22]
    simp only [hlt, h0, must, cond_true, Bool.and_self, Int.toNat_natCast, h2, optK, wrap1 (show j ≤ 4611686018427387904 by omega), ih, Sp.nameGo, Sp.digit]
    have hz : decide ((0 : Int) < (j : Int)) = decide (0 < j) := by
      by_cases h : 0 < j
      · rw [decide_eq_true h, decide_eq_true (by omega)]
      · rw [decide_eq_false h, decide_eq_false (by omega)]
    rw [hz]
    cases Sp.letter b.toNat <;> cases decide (0 < j) <;> cases decide ((48 : Int) ≤ (b.toNat : Int)) <;> cases decide ((b.toNat : Int) ≤ (57 : Int)) <;> rfl

theorem lim22 (s : List UInt8) (hs : s.length ≤ 4611686018427387904) : evLim cx 60 [.d (.str s)] [] = some (.ret (.d (.int .i64 (Sp.nameLen s : Nat))), []) := by
  refine lim_body (N := s.length + 1) S22_knows ?_
  rw [b22]
  exact name_loop hs _ s 0 _ rfl (Nat.zero_le _) (by omega)

end Go.Vai
end

section
namespace Go.Vai
open Go.Proofs

noncomputable def S13 : Caller := also 59 preF none1

theorem S13_knows : knows cx S13 (evLim cx) := also_knows (none1_knows cx) fun args o _ h => by
  obtain ⟨s, p, rfl, rfl⟩ := preF_some h
  exact lim21 s p

theorem b13 (n : Nat) (s : List UInt8) (a : Int) :
    evBody cx S13 n 30 [.d (.str s), .d (.int .i64 a)] [] =
  LP cx S13 n 30 0 1 n [(0, V.d (D.str s)), (1, V.d (D.int IntKind.i64 a))] [] (AK cx S13 n 30 0 1 (EK cx 30 0)) := by kernel_rfl

theorem l13 (n k : Nat) (s : List UInt8) (i : Int) :
    LP cx S13 n 30 0 1 (k+1) [(0, .d (.str s)), (1, .d (.int .i64 i))] [] (AK cx S13 n 30 0 1 (EK cx 30 0)) =
  bif decide (i < (↑s.length : Int)) then
    must (decide (0 ≤ i) && decide (i < (↑s.length : Int)))
      (optK s[i.toNat]? fun b =>
        bif decide ((↑b.toNat : Int) = (32 : Int)) then
          bif decide ((↑b.toNat : Int) = (32 : Int)) then
            LP cx S13 n 30 0 1 k [(0, V.d (D.str s)), (1, V.d (D.int IntKind.i64 (IntKind.i64.wrap (i + (1 : Int)))))]
              [] (AK cx S13 n 30 0 1 (EK cx 30 0))
          else
            bif decide ((↑b.toNat : Int) = (45 : Int)) then
              must (decide (0 ≤ i) && decide (i ≤ (↑s.length : Int)))
                (bif !Sp.hasPre (List.drop i.toNat (List.take s.length s)) [45, 45] then
                  some (Out.ret (V.d (D.int IntKind.i64 i)), [])
                else
                  LP cx S13 n 30 0 10 n [(0, V.d (D.str s)), (1, V.d (D.int IntKind.i64 i))] []
                    (AL cx S13 n 30 0 1 10 (inK cx S13 n 30 0 1 k (AK cx S13 n 30 0 1 (EK cx 30 0)))))
            else some (Out.ret (V.d (D.int IntKind.i64 i)), [])
        else
          bif decide ((↑b.toNat : Int) = (9 : Int)) then
            bif decide ((↑b.toNat : Int) = (9 : Int)) then
              LP cx S13 n 30 0 1 k
                [(0, V.d (D.str s)), (1, V.d (D.int IntKind.i64 (IntKind.i64.wrap (i + (1 : Int)))))] []
                (AK cx S13 n 30 0 1 (EK cx 30 0))
            else
              bif decide ((↑b.toNat : Int) = (45 : Int)) then
                must (decide (0 ≤ i) && decide (i ≤ (↑s.length : Int)))
                  (bif !Sp.hasPre (List.drop i.toNat (List.take s.length s)) [45, 45] then
                    some (Out.ret (V.d (D.int IntKind.i64 i)), [])
                  else
                    LP cx S13 n 30 0 10 n [(0, V.d (D.str s)), (1, V.d (D.int IntKind.i64 i))] []
                      (AL cx S13 n 30 0 1 10 (inK cx S13 n 30 0 1 k (AK cx S13 n 30 0 1 (EK cx 30 0)))))
              else some (Out.ret (V.d (D.int IntKind.i64 i)), [])
          else
            bif decide ((↑b.toNat : Int) = (10 : Int)) then
              bif decide ((↑b.toNat : Int) = (10 : Int)) then
                LP cx S13 n 30 0 1 k
                  [(0, V.d (D.str s)), (1, V.d (D.int IntKind.i64 (IntKind.i64.wrap (i + (1 : Int)))))] []
                  (AK cx S13 n 30 0 1 (EK cx 30 0))
              else
                bif decide ((↑b.toNat : Int) = (45 : Int)) then
                  must (decide (0 ≤ i) && decide (i ≤ (↑s.length : Int)))
                    (bif !Sp.hasPre (List.drop i.toNat (List.take s.length s)) [45, 45] then
                      some (Out.ret (V.d (D.int IntKind.i64 i)), [])
                    else
                      LP cx S13 n 30 0 10 n [(0, V.d (D.str s)), (1, V.d (D.int IntKind.i64 i))] []
                        (AL cx S13 n 30 0 1 10 (inK cx S13 n 30 0 1 k (AK cx S13 n 30 0 1 (EK cx 30 0)))))
                else some (Out.ret (V.d (D.int IntKind.i64 i)), [])
            else
              bif decide ((↑b.toNat : Int) = (13 : Int)) then
                LP cx S13 n 30 0 1 k
                  [(0, V.d (D.str s)), (1, V.d (D.int IntKind.i64 (IntKind.i64.wrap (i + (1 : Int)))))] []
                  (AK cx S13 n 30 0 1 (EK cx 30 0))
              else
                bif decide ((↑b.toNat : Int) = (45 : Int)) then
                  must (decide (0 ≤ i) && decide (i ≤ (↑s.length : Int)))
                    (bif !Sp.hasPre (List.drop i.toNat (List.take s.length s)) [45, 45] then
                      some (Out.ret (V.d (D.int IntKind.i64 i)), [])
                    else
                      LP cx S13 n 30 0 10 n [(0, V.d (D.str s)), (1, V.d (D.int IntKind.i64 i))] []
                        (AL cx S13 n 30 0 1 10 (inK cx S13 n 30 0 1 k (AK cx S13 n 30 0 1 (EK cx 30 0)))))
                else some (Out.ret (V.d (D.int IntKind.i64 i)), []))
  else some (Out.ret (V.d (D.int IntKind.i64 i)), []) := by kernel_rfl

theorem l13i (n k k' : Nat) (s : List UInt8) (i : Int) :
    LP cx S13 n 30 0 10 (k+1) [(0, .d (.str s)), (1, .d (.int .i64 i))] [] (AL cx S13 n 30 0 1 10 (inK cx S13 n 30 0 1 k' (AK cx S13 n 30 0 1 (EK cx 30 0)))) =
  bif decide (i < (↑s.length : Int)) then
    must (decide (0 ≤ i) && decide (i < (↑s.length : Int)))
      (optK s[i.toNat]? fun b =>
        bif !decide ((↑b.toNat : Int) = (10 : Int)) then
          LP cx S13 n 30 0 10 k [(0, V.d (D.str s)), (1, V.d (D.int IntKind.i64 (IntKind.i64.wrap (i + (1 : Int)))))]
            [] (AL cx S13 n 30 0 1 10 (inK cx S13 n 30 0 1 k' (AK cx S13 n 30 0 1 (EK cx 30 0))))
        else
          LP cx S13 n 30 0 1 k' [(0, V.d (D.str s)), (1, V.d (D.int IntKind.i64 i))] []
            (AK cx S13 n 30 0 1 (EK cx 30 0)))
  else LP cx S13 n 30 0 1 k' [(0, V.d (D.str s)), (1, V.d (D.int IntKind.i64 i))] [] (AK cx S13 n 30 0 1 (EK cx 30 0)) := by kernel_rfl

/-- The first place that is not let by; 'true': in a comment. -/
def Sp.pastGo : Bool → List UInt8 → Nat → Nat
  | _, [], j => j
  | true, b :: r, j => Sp.pastGo (!decide ((b.toNat : Int) = 10)) r (j + 1)
  | false, b :: r, j => bif Sp.blank b.toNat then Sp.pastGo false r (j + 1) else bif decide ((b.toNat : Int) = 45) && Sp.hasPre (b :: r) [45, 45] then Sp.pastGo true r (j + 1) else j

theorem past_loop {s : List UInt8} (hs : s.length ≤ 4611686018427387904) {n : Nat} (hn : s.length < n) : ∀ (r : List UInt8) (j : Nat), s.drop j = r → j ≤ s.length →
    (∀ k, r.length < k → LP cx S13 n 30 0 1 k [(0, .d (.str s)), (1, .d (.int .i64 (j : Int)))] [] (AK cx S13 n 30 0 1 (EK cx 30 0)) = some (.ret (.d (.int .i64 (Sp.pastGo false r j : Nat))), [])) ∧
    (∀ k k', r.length < k → r.length < k' → LP cx S13 n 30 0 10 k [(0, .d (.str s)), (1, .d (.int .i64 (j : Int)))] [] (AL cx S13 n 30 0 1 10 (inK cx S13 n 30 0 1 k' (AK cx S13 n 30 0 1 (EK cx 30 0)))) =
      some (.ret (.d (.int .i64 (Sp.pastGo true r j : Nat))), []))
  | [], j, hr, hj => by
    have := drop_nil hr
    have hge : decide ((j : Int) < (s.length : Int)) = false := decide_eq_false (by omega)
    have outer : ∀ k, 0 < k → LP cx S13 n 30 0 1 k [(0, .d (.str s)), (1, .d (.int .i64 (j : Int)))] [] (AK cx S13 n 30 0 1 (EK cx 30 0)) = some (.ret (.d (.int .i64 (j : Nat))), []) := by
      intro k hk
      obtain ⟨k, rfl⟩ : ∃ i, k = i + 1 := ⟨k - 1, by omega⟩
      rw [l13, hge, cond_false]
    refine ⟨outer, fun k k' hk hk' => ?_⟩
    obtain ⟨k, rfl⟩ : ∃ i, k = i + 1 := ⟨k - 1, by simp at hk; omega⟩
    rw [l13i, hge, cond_false, outer k' hk']
    rfl
  | b :: r, j, hr, hj => by
    obtain ⟨h1, h2, h3⟩ := drop_cons hr
    obtain ⟨ih1, ih2⟩ := past_loop hs hn r (j + 1) h3 h1
    have hlen : (b :: r).length ≤ s.length := by rw [← hr]; simp
    have h0 : decide ((0 : Int) ≤ (j : Int)) = true := decide_eq_true (by omega)
    have hlt : decide ((j : Int) < (s.length : Int)) = true := decide_eq_true (by omega)
    have hle : decide ((j : Int) ≤ (s.length : Int)) = true := decide_eq_true (by omega)
    have hw := wrap1 (show j ≤ 4611686018427387904 by omega)
    have step : ∀ k k', ((b.toNat : Int) = 10) = False → r.length < k' → r.length < k → LP cx S13 n 30 0 10 (k + 1) [(0, .d (.str s)), (1, .d (.int .i64 (j : Int)))] [] (AL cx S13 n 30 0 1 10 (inK cx S13 n 30 0 1 k' (AK cx S13 n 30 0 1 (EK cx 30 0)))) =
        some (.ret (.d (.int .i64 (Sp.pastGo true r (j + 1) : Nat))), []) := by
      intro k k' hb hk' hk
      rw [l13i]
      simp only [hlt, h0, must, cond_true, Bool.and_self, Int.toNat_natCast, h2, optK, hw, hb, decide_false, Bool.not_false]
      exact ih2 k k' hk hk'
    have outer : ∀ k, (b :: r).length < k → LP cx S13 n 30 0 1 k [(0, .d (.str s)), (1, .d (.int .i64 (j : Int)))] [] (AK cx S13 n 30 0 1 (EK cx 30 0)) = some (.ret (.d (.int .i64 (Sp.pastGo false (b :: r) j : Nat))), []) := by
      intro k hk
      obtain ⟨k, rfl⟩ : ∃ i, k = i + 1 := ⟨k - 1, by omega⟩
      obtain ⟨m, rfl⟩ : ∃ i, n = i + 1 := ⟨n - 1, by omega⟩
      have hk' : r.length < k := by simpa using hk
      rw [l13]
      simp only [hlt, h0, hle, must, cond_true, Bool.and_self, Int.toNat_natCast, h2, optK, hw, ih1 k hk', List.take_length, hr, Sp.pastGo, Sp.blank]
      by_cases h45 : (b.toNat : Int) = 45
      · have e1 : decide ((b.toNat : Int) = 32) = false := decide_eq_false (by omega)
        have e2 : decide ((b.toNat : Int) = 9) = false := decide_eq_false (by omega)
        have e3 : decide ((b.toNat : Int) = 10) = false := decide_eq_false (by omega)
        have e4 : decide ((b.toNat : Int) = 13) = false := decide_eq_false (by omega)
        have e5 : decide ((b.toNat : Int) = 45) = true := decide_eq_true h45
        have hin := step m k (by simp; omega) hk' (by simp at hlen; omega)
        simp only [e1, e2, e3, e4, e5, cond_false, cond_true, Bool.or_self, Bool.true_and, hin]
        cases Sp.hasPre (b :: r) [45, 45] <;> rfl
      · have e5 : decide ((b.toNat : Int) = 45) = false := decide_eq_false h45
        simp only [e5, cond_false, Bool.false_and]
        cases decide ((b.toNat : Int) = 32) <;> cases decide ((b.toNat : Int) = 9) <;> cases decide ((b.toNat : Int) = 10) <;> cases decide ((b.toNat : Int) = 13) <;> rfl
    refine ⟨outer, fun k k' hk hk' => ?_⟩
    obtain ⟨k, rfl⟩ : ∃ i, k = i + 1 := ⟨k - 1, by omega⟩
    by_cases hb : (b.toNat : Int) = 10
    · rw [l13i]
      simp only [hlt, h0, must, cond_true, Bool.and_self, Int.toNat_natCast, h2, optK, hb, decide_true, Bool.not_true, cond_false]
      rw [outer k' hk']
      simp [Sp.pastGo, Sp.blank, hb]
    · rw [step k k' (by simp [hb]) (by simp at hk'; omega) (by simpa using hk)]
      simp [Sp.pastGo, hb]

def Sp.past (s : List UInt8) (j : Nat) : Nat := Sp.pastGo false (s.drop j) j

theorem lim13 (s : List UInt8) (j : Nat) (hs : s.length ≤ 4611686018427387904) (hj : j ≤ s.length) : evLim cx 30 [.d (.str s), .d (.int .i64 (j : Int))] [] = some (.ret (.d (.int .i64 (Sp.past s j : Nat))), []) := by
  refine lim_body (N := s.length + 1) S13_knows ?_
  rw [b13]
  exact (past_loop hs (Nat.lt_succ_self _) (s.drop j) j rfl hj).1 _ (by simp; omega)

end Go.Vai
end

section
namespace Go.Vai
open Go.Proofs

def nameF : List V → Option Out
  | [.d (.str s)] => some (.ret (.d (.int .i64 (Sp.nameLen s : Nat))))
  | _ => none

theorem nameF_some {args : List V} {o : Out} (h : nameF args = some o) : ∃ s, args = [.d (.str s)] ∧ o = .ret (.d (.int .i64 (Sp.nameLen s : Nat))) := by
  unfold nameF at h
  split at h
  · cases h; exact ⟨_, rfl, rfl⟩
  · cases h

noncomputable def S14 : Caller := also 60 nameF (also 59 preF none1)

theorem S14_knows : knows cx S14 (evLim cx) := also_knows S13_knows fun args o hd h => by
  obtain ⟨s, rfl, rfl⟩ := nameF_some h
  exact lim22 s (of_decide_eq_true hd)

theorem b14 (n : Nat) (s : List UInt8) :
    evBody cx S14 n 31 [.d (.str s)] [] =
  must (decide (s.length ≤ big))
    (bif decide ((0 : Int) < (↑(Sp.nameLen s) : Int)) then
      must (decide ((↑(Sp.nameLen s) : Int) ≤ (↑s.length : Int)))
        (some
          (Out.ret
              (V.d
                (D.agg
                  [D.int IntKind.i64 (1 : Int), D.str (List.drop 0 (List.take (↑(Sp.nameLen s) : Int).toNat s)),
                    D.int IntKind.i64 (0 : Int)])),
            []))
    else
      LP cx S14 n 31 0 5 n
        [(0, V.d (D.str s)), (2, V.ptr 2 0),
          (14,
            V.d
              (D.agg
                [D.str [45, 62], D.str [47, 92], D.str [92, 47], D.str [40], D.str [41], D.str [91], D.str [93],
                  D.str [44], D.str [46], D.str [58], D.str [59], D.str [61], D.str [92], D.str [60], D.str [62],
                  D.str [64], D.str [126], D.str [42], D.str [48], D.str [49]])),
          (15, V.d (D.int IntKind.i64 (0 : Int)))]
        [(2, Ob.val 3 (V.d (D.agg [D.int IntKind.i64 (0 : Int), D.str [], D.int IntKind.i64 (0 : Int)])))]
        (AK cx S14 n 31 0 5 (EK cx 31 0))) := by kernel_rfl

theorem l14_0 (n k : Nat) (s : List UInt8) :
    LP cx S14 n 31 0 5 (k+1) [(0, .d (.str s)), (2, .ptr 2 0), (14, .d signsD), (15, .d (.int .i64 0))] [(2, .val 3 (.d (.agg [.int .i64 0, .str [], .int .i64 0])))] (AK cx S14 n 31 0 5 (EK cx 31 0)) =
  bif Sp.hasPre s [45, 62] then
    some (Out.ret (V.d (D.agg [D.int IntKind.i64 (2 : Int), D.str [45, 62], D.int IntKind.i64 (0 : Int)])), [])
  else
    LP cx S14 n 31 0 5 k
      [(0, V.d (D.str s)), (2, V.ptr 2 0),
        (14,
          V.d
            (D.agg
              [D.str [45, 62], D.str [47, 92], D.str [92, 47], D.str [40], D.str [41], D.str [91], D.str [93],
                D.str [44], D.str [46], D.str [58], D.str [59], D.str [61], D.str [92], D.str [60], D.str [62],
                D.str [64], D.str [126], D.str [42], D.str [48], D.str [49]])),
        (15, V.d (D.int IntKind.i64 (1 : Int)))]
      [(2, Ob.val 3 (V.d (D.agg [D.int IntKind.i64 (0 : Int), D.str [], D.int IntKind.i64 (0 : Int)])))]
      (AK cx S14 n 31 0 5 (EK cx 31 0)) := by kernel_rfl

theorem l14_1 (n k : Nat) (s : List UInt8) :
    LP cx S14 n 31 0 5 (k+1) [(0, .d (.str s)), (2, .ptr 2 0), (14, .d signsD), (15, .d (.int .i64 1))] [(2, .val 3 (.d (.agg [.int .i64 0, .str [], .int .i64 0])))] (AK cx S14 n 31 0 5 (EK cx 31 0)) =
  bif Sp.hasPre s [47, 92] then
    some (Out.ret (V.d (D.agg [D.int IntKind.i64 (2 : Int), D.str [47, 92], D.int IntKind.i64 (0 : Int)])), [])
  else
    LP cx S14 n 31 0 5 k
      [(0, V.d (D.str s)), (2, V.ptr 2 0),
        (14,
          V.d
            (D.agg
              [D.str [45, 62], D.str [47, 92], D.str [92, 47], D.str [40], D.str [41], D.str [91], D.str [93],
                D.str [44], D.str [46], D.str [58], D.str [59], D.str [61], D.str [92], D.str [60], D.str [62],
                D.str [64], D.str [126], D.str [42], D.str [48], D.str [49]])),
        (15, V.d (D.int IntKind.i64 (2 : Int)))]
      [(2, Ob.val 3 (V.d (D.agg [D.int IntKind.i64 (0 : Int), D.str [], D.int IntKind.i64 (0 : Int)])))]
      (AK cx S14 n 31 0 5 (EK cx 31 0)) := by kernel_rfl

theorem l14_2 (n k : Nat) (s : List UInt8) :
    LP cx S14 n 31 0 5 (k+1) [(0, .d (.str s)), (2, .ptr 2 0), (14, .d signsD), (15, .d (.int .i64 2))] [(2, .val 3 (.d (.agg [.int .i64 0, .str [], .int .i64 0])))] (AK cx S14 n 31 0 5 (EK cx 31 0)) =
  bif Sp.hasPre s [92, 47] then
    some (Out.ret (V.d (D.agg [D.int IntKind.i64 (2 : Int), D.str [92, 47], D.int IntKind.i64 (0 : Int)])), [])
  else
    LP cx S14 n 31 0 5 k
      [(0, V.d (D.str s)), (2, V.ptr 2 0),
        (14,
          V.d
            (D.agg
              [D.str [45, 62], D.str [47, 92], D.str [92, 47], D.str [40], D.str [41], D.str [91], D.str [93],
                D.str [44], D.str [46], D.str [58], D.str [59], D.str [61], D.str [92], D.str [60], D.str [62],
                D.str [64], D.str [126], D.str [42], D.str [48], D.str [49]])),
        (15, V.d (D.int IntKind.i64 (3 : Int)))]
      [(2, Ob.val 3 (V.d (D.agg [D.int IntKind.i64 (0 : Int), D.str [], D.int IntKind.i64 (0 : Int)])))]
      (AK cx S14 n 31 0 5 (EK cx 31 0)) := by kernel_rfl

theorem l14_3 (n k : Nat) (s : List UInt8) :
    LP cx S14 n 31 0 5 (k+1) [(0, .d (.str s)), (2, .ptr 2 0), (14, .d signsD), (15, .d (.int .i64 3))] [(2, .val 3 (.d (.agg [.int .i64 0, .str [], .int .i64 0])))] (AK cx S14 n 31 0 5 (EK cx 31 0)) =
  bif Sp.hasPre s [40] then
    some (Out.ret (V.d (D.agg [D.int IntKind.i64 (2 : Int), D.str [40], D.int IntKind.i64 (0 : Int)])), [])
  else
    LP cx S14 n 31 0 5 k
      [(0, V.d (D.str s)), (2, V.ptr 2 0),
        (14,
          V.d
            (D.agg
              [D.str [45, 62], D.str [47, 92], D.str [92, 47], D.str [40], D.str [41], D.str [91], D.str [93],
                D.str [44], D.str [46], D.str [58], D.str [59], D.str [61], D.str [92], D.str [60], D.str [62],
                D.str [64], D.str [126], D.str [42], D.str [48], D.str [49]])),
        (15, V.d (D.int IntKind.i64 (4 : Int)))]
      [(2, Ob.val 3 (V.d (D.agg [D.int IntKind.i64 (0 : Int), D.str [], D.int IntKind.i64 (0 : Int)])))]
      (AK cx S14 n 31 0 5 (EK cx 31 0)) := by kernel_rfl

theorem l14_4 (n k : Nat) (s : List UInt8) :
    LP cx S14 n 31 0 5 (k+1) [(0, .d (.str s)), (2, .ptr 2 0), (14, .d signsD), (15, .d (.int .i64 4))] [(2, .val 3 (.d (.agg [.int .i64 0, .str [], .int .i64 0])))] (AK cx S14 n 31 0 5 (EK cx 31 0)) =
  bif Sp.hasPre s [41] then
    some (Out.ret (V.d (D.agg [D.int IntKind.i64 (2 : Int), D.str [41], D.int IntKind.i64 (0 : Int)])), [])
  else
    LP cx S14 n 31 0 5 k
      [(0, V.d (D.str s)), (2, V.ptr 2 0),
        (14,
          V.d
            (D.agg
              [D.str [45, 62], D.str [47, 92], D.str [92, 47], D.str [40], D.str [41], D.str [91], D.str [93],
                D.str [44], D.str [46], D.str [58], D.str [59], D.str [61], D.str [92], D.str [60], D.str [62],
                D.str [64], D.str [126], D.str [42], D.str [48], D.str [49]])),
        (15, V.d (D.int IntKind.i64 (5 : Int)))]
      [(2, Ob.val 3 (V.d (D.agg [D.int IntKind.i64 (0 : Int), D.str [], D.int IntKind.i64 (0 : Int)])))]
      (AK cx S14 n 31 0 5 (EK cx 31 0)) := by kernel_rfl

theorem l14_5 (n k : Nat) (s : List UInt8) :
    LP cx S14 n 31 0 5 (k+1) [(0, .d (.str s)), (2, .ptr 2 0), (14, .d signsD), (15, .d (.int .i64 5))] [(2, .val 3 (.d (.agg [.int .i64 0, .str [], .int .i64 0])))] (AK cx S14 n 31 0 5 (EK cx 31 0)) =
  bif Sp.hasPre s [91] then
    some (Out.ret (V.d (D.agg [D.int IntKind.i64 (2 : Int), D.str [91], D.int IntKind.i64 (0 : Int)])), [])
  else
    LP cx S14 n 31 0 5 k
      [(0, V.d (D.str s)), (2, V.ptr 2 0),
        (14,
          V.d
            (D.agg
              [D.str [45, 62], D.str [47, 92], D.str [92, 47], D.str [40], D.str [41], D.str [91], D.str [93],
                D.str [44], D.str [46], D.str [58], D.str [59], D.str [61], D.str [92], D.str [60], D.str [62],
                D.str [64], D.str [126], D.str [42], D.str [48], D.str [49]])),
        (15, V.d (D.int IntKind.i64 (6 : Int)))]
      [(2, Ob.val 3 (V.d (D.agg [D.int IntKind.i64 (0 : Int), D.str [], D.int IntKind.i64 (0 : Int)])))]
      (AK cx S14 n 31 0 5 (EK cx 31 0)) := by kernel_rfl

theorem l14_6 (n k : Nat) (s : List UInt8) :
    LP cx S14 n 31 0 5 (k+1) [(0, .d (.str s)), (2, .ptr 2 0), (14, .d signsD), (15, .d (.int .i64 6))] [(2, .val 3 (.d (.agg [.int .i64 0, .str [], .int .i64 0])))] (AK cx S14 n 31 0 5 (EK cx 31 0)) =
  bif Sp.hasPre s [93] then
    some (Out.ret (V.d (D.agg [D.int IntKind.i64 (2 : Int), D.str [93], D.int IntKind.i64 (0 : Int)])), [])
  else
    LP cx S14 n 31 0 5 k
      [(0, V.d (D.str s)), (2, V.ptr 2 0),
        (14,
          V.d
            (D.agg
              [D.str [45, 62], D.str [47, 92], D.str [92, 47], D.str [40], D.str [41], D.str [91], D.str [93],
                D.str [44], D.str [46], D.str [58], D.str [59], D.str [61], D.str [92], D.str [60], D.str [62],
                D.str [64], D.str [126], D.str [42], D.str [48], D.str [49]])),
        (15, V.d (D.int IntKind.i64 (7 : Int)))]
      [(2, Ob.val 3 (V.d (D.agg [D.int IntKind.i64 (0 : Int), D.str [], D.int IntKind.i64 (0 : Int)])))]
      (AK cx S14 n 31 0 5 (EK cx 31 0)) := by kernel_rfl

theorem l14_7 (n k : Nat) (s : List UInt8) :
    LP cx S14 n 31 0 5 (k+1) [(0, .d (.str s)), (2, .ptr 2 0), (14, .d signsD), (15, .d (.int .i64 7))] [(2, .val 3 (.d (.agg [.int .i64 0, .str [], .int .i64 0])))] (AK cx S14 n 31 0 5 (EK cx 31 0)) =
  bif Sp.hasPre s [44] then
    some (Out.ret (V.d (D.agg [D.int IntKind.i64 (2 : Int), D.str [44], D.int IntKind.i64 (0 : Int)])), [])
  else
    LP cx S14 n 31 0 5 k
      [(0, V.d (D.str s)), (2, V.ptr 2 0),
        (14,
          V.d
            (D.agg
              [D.str [45, 62], D.str [47, 92], D.str [92, 47], D.str [40], D.str [41], D.str [91], D.str [93],
                D.str [44], D.str [46], D.str [58], D.str [59], D.str [61], D.str [92], D.str [60], D.str [62],
                D.str [64], D.str [126], D.str [42], D.str [48], D.str [49]])),
        (15, V.d (D.int IntKind.i64 (8 : Int)))]
      [(2, Ob.val 3 (V.d (D.agg [D.int IntKind.i64 (0 : Int), D.str [], D.int IntKind.i64 (0 : Int)])))]
      (AK cx S14 n 31 0 5 (EK cx 31 0)) := by kernel_rfl

theorem l14_8 (n k : Nat) (s : List UInt8) :
    LP cx S14 n 31 0 5 (k+1) [(0, .d (.str s)), (2, .ptr 2 0), (14, .d signsD), (15, .d (.int .i64 8))] [(2, .val 3 (.d (.agg [.int .i64 0, .str [], .int .i64 0])))] (AK cx S14 n 31 0 5 (EK cx 31 0)) =
  bif Sp.hasPre s [46] then
    some (Out.ret (V.d (D.agg [D.int IntKind.i64 (2 : Int), D.str [46], D.int IntKind.i64 (0 : Int)])), [])
  else
    LP cx S14 n 31 0 5 k
      [(0, V.d (D.str s)), (2, V.ptr 2 0),
        (14,
          V.d
            (D.agg
              [D.str [45, 62], D.str [47, 92], D.str [92, 47], D.str [40], D.str [41], D.str [91], D.str [93],
                D.str [44], D.str [46], D.str [58], D.str [59], D.str [61], D.str [92], D.str [60], D.str [62],
                D.str [64], D.str [126], D.str [42], D.str [48], D.str [49]])),
        (15, V.d (D.int IntKind.i64 (9 : Int)))]
      [(2, Ob.val 3 (V.d (D.agg [D.int IntKind.i64 (0 : Int), D.str [], D.int IntKind.i64 (0 : Int)])))]
      (AK cx S14 n 31 0 5 (EK cx 31 0)) := by kernel_rfl

theorem l14_9 (n k : Nat) (s : List UInt8) :
    LP cx S14 n 31 0 5 (k+1) [(0, .d (.str s)), (2, .ptr 2 0), (14, .d signsD), (15, .d (.int .i64 9))] [(2, .val 3 (.d (.agg [.int .i64 0, .str [], .int .i64 0])))] (AK cx S14 n 31 0 5 (EK cx 31 0)) =
  bif Sp.hasPre s [58] then
    some (Out.ret (V.d (D.agg [D.int IntKind.i64 (2 : Int), D.str [58], D.int IntKind.i64 (0 : Int)])), [])
  else
    LP cx S14 n 31 0 5 k
      [(0, V.d (D.str s)), (2, V.ptr 2 0),
        (14,
          V.d
            (D.agg
              [D.str [45, 62], D.str [47, 92], D.str [92, 47], D.str [40], D.str [41], D.str [91], D.str [93],
                D.str [44], D.str [46], D.str [58], D.str [59], D.str [61], D.str [92], D.str [60], D.str [62],
                D.str [64], D.str [126], D.str [42], D.str [48], D.str [49]])),
        (15, V.d (D.int IntKind.i64 (10 : Int)))]
      [(2, Ob.val 3 (V.d (D.agg [D.int IntKind.i64 (0 : Int), D.str [], D.int IntKind.i64 (0 : Int)])))]
      (AK cx S14 n 31 0 5 (EK cx 31 0)) := by kernel_rfl

theorem l14_10 (n k : Nat) (s : List UInt8) :
    LP cx S14 n 31 0 5 (k+1) [(0, .d (.str s)), (2, .ptr 2 0), (14, .d signsD), (15, .d (.int .i64 10))] [(2, .val 3 (.d (.agg [.int .i64 0, .str [], .int .i64 0])))] (AK cx S14 n 31 0 5 (EK cx 31 0)) =
  bif Sp.hasPre s [59] then
    some (Out.ret (V.d (D.agg [D.int IntKind.i64 (2 : Int), D.str [59], D.int IntKind.i64 (0 : Int)])), [])
  else
    LP cx S14 n 31 0 5 k
      [(0, V.d (D.str s)), (2, V.ptr 2 0),
        (14,
          V.d
            (D.agg
              [D.str [45, 62], D.str [47, 92], D.str [92, 47], D.str [40], D.str [41], D.str [91], D.str [93],
                D.str [44], D.str [46], D.str [58], D.str [59], D.str [61], D.str [92], D.str [60], D.str [62],
                D.str [64], D.str [126], D.str [42], D.str [48], D.str [49]])),
        (15, V.d (D.int IntKind.i64 (11 : Int)))]
      [(2, Ob.val 3 (V.d (D.agg [D.int IntKind.i64 (0 : Int), D.str [], D.int IntKind.i64 (0 : Int)])))]
      (AK cx S14 n 31 0 5 (EK cx 31 0)) := by kernel_rfl

theorem l14_11 (n k : Nat) (s : List UInt8) :
    LP cx S14 n 31 0 5 (k+1) [(0, .d (.str s)), (2, .ptr 2 0), (14, .d signsD), (15, .d (.int .i64 11))] [(2, .val 3 (.d (.agg [.int .i64 0, .str [], .int .i64 0])))] (AK cx S14 n 31 0 5 (EK cx 31 0)) =
  bif Sp.hasPre s [61] then
    some (Out.ret (V.d (D.agg [D.int IntKind.i64 (2 : Int), D.str [61], D.int IntKind.i64 (0 : Int)])), [])
  else
    LP cx S14 n 31 0 5 k
      [(0, V.d (D.str s)), (2, V.ptr 2 0),
        (14,
          V.d
            (D.agg
              [D.str [45, 62], D.str [47, 92], D.str [92, 47], D.str [40], D.str [41], D.str [91], D.str [93],
                D.str [44], D.str [46], D.str [58], D.str [59], D.str [61], D.str [92], D.str [60], D.str [62],
                D.str [64], D.str [126], D.str [42], D.str [48], D.str [49]])),
        (15, V.d (D.int IntKind.i64 (12 : Int)))]
      [(2, Ob.val 3 (V.d (D.agg [D.int IntKind.i64 (0 : Int), D.str [], D.int IntKind.i64 (0 : Int)])))]
      (AK cx S14 n 31 0 5 (EK cx 31 0)) := by kernel_rfl

theorem l14_12 (n k : Nat) (s : List UInt8) :
    LP cx S14 n 31 0 5 (k+1) [(0, .d (.str s)), (2, .ptr 2 0), (14, .d signsD), (15, .d (.int .i64 12))] [(2, .val 3 (.d (.agg [.int .i64 0, .str [], .int .i64 0])))] (AK cx S14 n 31 0 5 (EK cx 31 0)) =
  bif Sp.hasPre s [92] then
    some (Out.ret (V.d (D.agg [D.int IntKind.i64 (2 : Int), D.str [92], D.int IntKind.i64 (0 : Int)])), [])
  else
    LP cx S14 n 31 0 5 k
      [(0, V.d (D.str s)), (2, V.ptr 2 0),
        (14,
          V.d
            (D.agg
              [D.str [45, 62], D.str [47, 92], D.str [92, 47], D.str [40], D.str [41], D.str [91], D.str [93],
                D.str [44], D.str [46], D.str [58], D.str [59], D.str [61], D.str [92], D.str [60], D.str [62],
                D.str [64], D.str [126], D.str [42], D.str [48], D.str [49]])),
        (15, V.d (D.int IntKind.i64 (13 : Int)))]
      [(2, Ob.val 3 (V.d (D.agg [D.int IntKind.i64 (0 : Int), D.str [], D.int IntKind.i64 (0 : Int)])))]
      (AK cx S14 n 31 0 5 (EK cx 31 0)) := by kernel_rfl

theorem l14_13 (n k : Nat) (s : List UInt8) :
    LP cx S14 n 31 0 5 (k+1) [(0, .d (.str s)), (2, .ptr 2 0), (14, .d signsD), (15, .d (.int .i64 13))] [(2, .val 3 (.d (.agg [.int .i64 0, .str [], .int .i64 0])))] (AK cx S14 n 31 0 5 (EK cx 31 0)) =
  bif Sp.hasPre s [60] then
    some (Out.ret (V.d (D.agg [D.int IntKind.i64 (2 : Int), D.str [60], D.int IntKind.i64 (0 : Int)])), [])
  else
    LP cx S14 n 31 0 5 k
      [(0, V.d (D.str s)), (2, V.ptr 2 0),
        (14,
          V.d
            (D.agg
              [D.str [45, 62], D.str [47, 92], D.str [92, 47], D.str [40], D.str [41], D.str [91], D.str [93],
                D.str [44], D.str [46], D.str [58], D.str [59], D.str [61], D.str [92], D.str [60], D.str [62],
                D.str [64], D.str [126], D.str [42], D.str [48], D.str [49]])),
        (15, V.d (D.int IntKind.i64 (14 : Int)))]
      [(2, Ob.val 3 (V.d (D.agg [D.int IntKind.i64 (0 : Int), D.str [], D.int IntKind.i64 (0 : Int)])))]
      (AK cx S14 n 31 0 5 (EK cx 31 0)) := by kernel_rfl

theorem l14_14 (n k : Nat) (s : List UInt8) :
    LP cx S14 n 31 0 5 (k+1) [(0, .d (.str s)), (2, .ptr 2 0), (14, .d signsD), (15, .d (.int .i64 14))] [(2, .val 3 (.d (.agg [.int .i64 0, .str [], .int .i64 0])))] (AK cx S14 n 31 0 5 (EK cx 31 0)) =
  bif Sp.hasPre s [62] then
    some (Out.ret (V.d (D.agg [D.int IntKind.i64 (2 : Int), D.str [62], D.int IntKind.i64 (0 : Int)])), [])
  else
    LP cx S14 n 31 0 5 k
      [(0, V.d (D.str s)), (2, V.ptr 2 0),
        (14,
          V.d
            (D.agg
              [D.str [45, 62], D.str [47, 92], D.str [92, 47], D.str [40], D.str [41], D.str [91], D.str [93],
                D.str [44], D.str [46], D.str [58], D.str [59], D.str [61], D.str [92], D.str [60], D.str [62],
                D.str [64], D.str [126], D.str [42], D.str [48], D.str [49]])),
        (15, V.d (D.int IntKind.i64 (15 : Int)))]
      [(2, Ob.val 3 (V.d (D.agg [D.int IntKind.i64 (0 : Int), D.str [], D.int IntKind.i64 (0 : Int)])))]
      (AK cx S14 n 31 0 5 (EK cx 31 0)) := by kernel_rfl

theorem l14_15 (n k : Nat) (s : List UInt8) :
    LP cx S14 n 31 0 5 (k+1) [(0, .d (.str s)), (2, .ptr 2 0), (14, .d signsD), (15, .d (.int .i64 15))] [(2, .val 3 (.d (.agg [.int .i64 0, .str [], .int .i64 0])))] (AK cx S14 n 31 0 5 (EK cx 31 0)) =
  bif Sp.hasPre s [64] then
    some (Out.ret (V.d (D.agg [D.int IntKind.i64 (2 : Int), D.str [64], D.int IntKind.i64 (0 : Int)])), [])
  else
    LP cx S14 n 31 0 5 k
      [(0, V.d (D.str s)), (2, V.ptr 2 0),
        (14,
          V.d
            (D.agg
              [D.str [45, 62], D.str [47, 92], D.str [92, 47], D.str [40], D.str [41], D.str [91], D.str [93],
                D.str [44], D.str [46], D.str [58], D.str [59], D.str [61], D.str [92], D.str [60], D.str [62],
                D.str [64], D.str [126], D.str [42], D.str [48], D.str [49]])),
        (15, V.d (D.int IntKind.i64 (16 : Int)))]
      [(2, Ob.val 3 (V.d (D.agg [D.int IntKind.i64 (0 : Int), D.str [], D.int IntKind.i64 (0 : Int)])))]
      (AK cx S14 n 31 0 5 (EK cx 31 0)) := by kernel_rfl

theorem l14_16 (n k : Nat) (s : List UInt8) :
    LP cx S14 n 31 0 5 (k+1) [(0, .d (.str s)), (2, .ptr 2 0), (14, .d signsD), (15, .d (.int .i64 16))] [(2, .val 3 (.d (.agg [.int .i64 0, .str [], .int .i64 0])))] (AK cx S14 n 31 0 5 (EK cx 31 0)) =
  bif Sp.hasPre s [126] then
    some (Out.ret (V.d (D.agg [D.int IntKind.i64 (2 : Int), D.str [126], D.int IntKind.i64 (0 : Int)])), [])
  else
    LP cx S14 n 31 0 5 k
      [(0, V.d (D.str s)), (2, V.ptr 2 0),
        (14,
          V.d
            (D.agg
              [D.str [45, 62], D.str [47, 92], D.str [92, 47], D.str [40], D.str [41], D.str [91], D.str [93],
                D.str [44], D.str [46], D.str [58], D.str [59], D.str [61], D.str [92], D.str [60], D.str [62],
                D.str [64], D.str [126], D.str [42], D.str [48], D.str [49]])),
        (15, V.d (D.int IntKind.i64 (17 : Int)))]
      [(2, Ob.val 3 (V.d (D.agg [D.int IntKind.i64 (0 : Int), D.str [], D.int IntKind.i64 (0 : Int)])))]
      (AK cx S14 n 31 0 5 (EK cx 31 0)) := by kernel_rfl

theorem l14_17 (n k : Nat) (s : List UInt8) :
    LP cx S14 n 31 0 5 (k+1) [(0, .d (.str s)), (2, .ptr 2 0), (14, .d signsD), (15, .d (.int .i64 17))] [(2, .val 3 (.d (.agg [.int .i64 0, .str [], .int .i64 0])))] (AK cx S14 n 31 0 5 (EK cx 31 0)) =
  bif Sp.hasPre s [42] then
    some (Out.ret (V.d (D.agg [D.int IntKind.i64 (2 : Int), D.str [42], D.int IntKind.i64 (0 : Int)])), [])
  else
    LP cx S14 n 31 0 5 k
      [(0, V.d (D.str s)), (2, V.ptr 2 0),
        (14,
          V.d
            (D.agg
              [D.str [45, 62], D.str [47, 92], D.str [92, 47], D.str [40], D.str [41], D.str [91], D.str [93],
                D.str [44], D.str [46], D.str [58], D.str [59], D.str [61], D.str [92], D.str [60], D.str [62],
                D.str [64], D.str [126], D.str [42], D.str [48], D.str [49]])),
        (15, V.d (D.int IntKind.i64 (18 : Int)))]
      [(2, Ob.val 3 (V.d (D.agg [D.int IntKind.i64 (0 : Int), D.str [], D.int IntKind.i64 (0 : Int)])))]
      (AK cx S14 n 31 0 5 (EK cx 31 0)) := by kernel_rfl

theorem l14_18 (n k : Nat) (s : List UInt8) :
    LP cx S14 n 31 0 5 (k+1) [(0, .d (.str s)), (2, .ptr 2 0), (14, .d signsD), (15, .d (.int .i64 18))] [(2, .val 3 (.d (.agg [.int .i64 0, .str [], .int .i64 0])))] (AK cx S14 n 31 0 5 (EK cx 31 0)) =
  bif Sp.hasPre s [48] then
    some (Out.ret (V.d (D.agg [D.int IntKind.i64 (2 : Int), D.str [48], D.int IntKind.i64 (0 : Int)])), [])
  else
    LP cx S14 n 31 0 5 k
      [(0, V.d (D.str s)), (2, V.ptr 2 0),
        (14,
          V.d
            (D.agg
              [D.str [45, 62], D.str [47, 92], D.str [92, 47], D.str [40], D.str [41], D.str [91], D.str [93],
                D.str [44], D.str [46], D.str [58], D.str [59], D.str [61], D.str [92], D.str [60], D.str [62],
                D.str [64], D.str [126], D.str [42], D.str [48], D.str [49]])),
        (15, V.d (D.int IntKind.i64 (19 : Int)))]
      [(2, Ob.val 3 (V.d (D.agg [D.int IntKind.i64 (0 : Int), D.str [], D.int IntKind.i64 (0 : Int)])))]
      (AK cx S14 n 31 0 5 (EK cx 31 0)) := by kernel_rfl

theorem l14_19 (n k : Nat) (s : List UInt8) :
    LP cx S14 n 31 0 5 (k+1) [(0, .d (.str s)), (2, .ptr 2 0), (14, .d signsD), (15, .d (.int .i64 19))] [(2, .val 3 (.d (.agg [.int .i64 0, .str [], .int .i64 0])))] (AK cx S14 n 31 0 5 (EK cx 31 0)) =
  bif Sp.hasPre s [49] then
    some (Out.ret (V.d (D.agg [D.int IntKind.i64 (2 : Int), D.str [49], D.int IntKind.i64 (0 : Int)])), [])
  else
    LP cx S14 n 31 0 5 k
      [(0, V.d (D.str s)), (2, V.ptr 2 0),
        (14,
          V.d
            (D.agg
              [D.str [45, 62], D.str [47, 92], D.str [92, 47], D.str [40], D.str [41], D.str [91], D.str [93],
                D.str [44], D.str [46], D.str [58], D.str [59], D.str [61], D.str [92], D.str [60], D.str [62],
                D.str [64], D.str [126], D.str [42], D.str [48], D.str [49]])),
        (15, V.d (D.int IntKind.i64 (20 : Int)))]
      [(2, Ob.val 3 (V.d (D.agg [D.int IntKind.i64 (0 : Int), D.str [], D.int IntKind.i64 (0 : Int)])))]
      (AK cx S14 n 31 0 5 (EK cx 31 0)) := by kernel_rfl

theorem l14_20 (n k : Nat) (s : List UInt8) :
    LP cx S14 n 31 0 5 (k+1) [(0, .d (.str s)), (2, .ptr 2 0), (14, .d signsD), (15, .d (.int .i64 20))] [(2, .val 3 (.d (.agg [.int .i64 0, .str [], .int .i64 0])))] (AK cx S14 n 31 0 5 (EK cx 31 0)) =
  some (Out.ret (V.d (D.agg [D.int IntKind.i64 (0 : Int), D.str [], D.int IntKind.i64 (0 : Int)])), []) := by kernel_rfl

def Sp.signs : List (List UInt8) := [[45, 62], [47, 92], [92, 47], [40], [41], [91], [93], [44], [46], [58], [59], [61], [92], [60], [62], [64], [126], [42], [48], [49]]

def Sp.signGo (s : List UInt8) : List (List UInt8) → Int × List UInt8
  | [] => (0, [])
  | x :: r => bif Sp.hasPre s x then (2, x) else Sp.signGo s r

/-- The token that a text begins with. -/
def Sp.one (s : List UInt8) : Int × List UInt8 := bif decide (0 < Sp.nameLen s) then (1, s.take (Sp.nameLen s)) else Sp.signGo s Sp.signs

theorem nameGo_le : ∀ (r : List UInt8) (j : Nat), Sp.nameGo r j ≤ j + r.length
  | [], j => by simp [Sp.nameGo]
  | b :: r, j => by
    simp only [Sp.nameGo]
    cases (Sp.letter b.toNat || (decide (0 < j) && Sp.digit b.toNat))
    · simp
    · have := nameGo_le r (j + 1)
      simp only [cond_true, List.length_cons]
      omega

theorem nameLen_le (s : List UInt8) : Sp.nameLen s ≤ s.length := by simpa [Sp.nameLen] using nameGo_le s 0

def oneRes (p : Int × List UInt8) : Option (Out × St) := some (.ret (.d (.agg [.int .i64 p.1, .str p.2, .int .i64 0])), [])

theorem one_loop (s : List UInt8) : LP cx S14 21 31 0 5 21 [(0, .d (.str s)), (2, .ptr 2 0), (14, .d signsD), (15, .d (.int .i64 0))] [(2, .val 3 (.d (.agg [.int .i64 0, .str [], .int .i64 0])))] (AK cx S14 21 31 0 5 (EK cx 31 0)) =
    oneRes (Sp.signGo s Sp.signs) := by
  unfold Sp.signs
  refine (l14_0 21 20 s).trans ?_
  unfold Sp.signGo
  cases Sp.hasPre s [45, 62]
  case true => rfl
  simp only [cond_false]
  refine (l14_1 21 19 s).trans ?_
  unfold Sp.signGo
  cases Sp.hasPre s [47, 92]
  case true => rfl
  simp only [cond_false]
  refine (l14_2 21 18 s).trans ?_
  unfold Sp.signGo
  cases Sp.hasPre s [92, 47]
  case true => rfl
  simp only [cond_false]
  refine (l14_3 21 17 s).trans ?_
  unfold Sp.signGo
  cases Sp.hasPre s [40]
  case true => rfl
  simp only [cond_false]
  refine (l14_4 21 16 s).trans ?_
  unfold Sp.signGo
  cases Sp.hasPre s [41]
  case true => rfl
  simp only [cond_false]
  refine (l14_5 21 15 s).trans ?_
  unfold Sp.signGo
  cases Sp.hasPre s [91]
  case true => rfl
  simp only [cond_false]
  refine (l14_6 21 14 s).trans ?_
  unfold Sp.signGo
  cases Sp.hasPre s [93]
  case true => rfl
  simp only [cond_false]
  refine (l14_7 21 13 s).trans ?_
  unfold Sp.signGo
  cases Sp.hasPre s [44]
  case true => rfl
  simp only [cond_false]
  refine (l14_8 21 12 s).trans ?_
  unfold Sp.signGo
  cases Sp.hasPre s [46]
  case true => rfl
  simp only [cond_false]
  refine (l14_9 21 11 s).trans ?_
  unfold Sp.signGo
  cases Sp.hasPre s [58]
  case true => rfl
  simp only [cond_false]
  refine (l14_10 21 10 s).trans ?_
  unfold Sp.signGo
  cases Sp.hasPre s [59]
  case true => rfl
  simp only [cond_false]
  refine (l14_11 21 9 s).trans ?_
  unfold Sp.signGo
  cases Sp.hasPre s [61]
  case true => rfl
  simp only [cond_false]
  refine (l14_12 21 8 s).trans ?_
  unfold Sp.signGo
  cases Sp.hasPre s [92]
  case true => rfl
  simp only [cond_false]
  refine (l14_13 21 7 s).trans ?_
  unfold Sp.signGo
  cases Sp.hasPre s [60]
  case true => rfl
  simp only [cond_false]
  refine (l14_14 21 6 s).trans ?_
  unfold Sp.signGo
  cases Sp.hasPre s [62]
  case true => rfl
  simp only [cond_false]
  refine (l14_15 21 5 s).trans ?_
  unfold Sp.signGo
  cases Sp.hasPre s [64]
  case true => rfl
  simp only [cond_false]
  refine (l14_16 21 4 s).trans ?_
  unfold Sp.signGo
  cases Sp.hasPre s [126]
  case true => rfl
  simp only [cond_false]
  refine (l14_17 21 3 s).trans ?_
  unfold Sp.signGo
  cases Sp.hasPre s [42]
  case true => rfl
  simp only [cond_false]
  refine (l14_18 21 2 s).trans ?_
  unfold Sp.signGo
  cases Sp.hasPre s [48]
  case true => rfl
  simp only [cond_false]
  refine (l14_19 21 1 s).trans ?_
  unfold Sp.signGo
  cases Sp.hasPre s [49]
  case true => rfl
  simp only [cond_false]
  exact l14_20 21 0 s

theorem lim14 (s : List UInt8) (hs : s.length ≤ 4611686018427387904) : evLim cx 31 [.d (.str s)] [] = some (.ret (.d (.agg [.int .i64 (Sp.one s).1, .str (Sp.one s).2, .int .i64 0])), []) := by
  refine lim_body (N := 21) S14_knows ?_
  rw [b14]
  have h1 : decide (s.length ≤ big) = true := decide_eq_true hs
  simp only [h1, must, cond_true]
  unfold Sp.one
  have hle := nameLen_le s
  by_cases h : 0 < Sp.nameLen s
  · have e1 : decide ((0 : Int) < ((Sp.nameLen s : Nat) : Int)) = true := decide_eq_true (by omega)
    have e2 : decide (((Sp.nameLen s : Nat) : Int) ≤ (s.length : Int)) = true := decide_eq_true (by omega)
    have e3 : decide (0 < Sp.nameLen s) = true := decide_eq_true h
    simp only [e1, e2, e3, cond_true, List.drop_zero, Int.toNat_natCast]
  · have e1 : decide ((0 : Int) < ((Sp.nameLen s : Nat) : Int)) = false := decide_eq_false (by omega)
    have e3 : decide (0 < Sp.nameLen s) = false := decide_eq_false h
    simp only [e1, e3, cond_false]
    exact one_loop s

end Go.Vai
end

section
namespace Go.Vai
open Go.Proofs

theorem pastGo_bounds : ∀ (r : List UInt8) (c : Bool) (j : Nat), j ≤ Sp.pastGo c r j ∧ Sp.pastGo c r j ≤ j + r.length
  | [], c, j => by cases c <;> simp [Sp.pastGo]
  | b :: r, true, j => by
    have := pastGo_bounds r (!decide ((b.toNat : Int) = 10)) (j + 1)
    simp only [Sp.pastGo, List.length_cons]
    omega
  | b :: r, false, j => by
    have h1 := pastGo_bounds r false (j + 1)
    have h2 := pastGo_bounds r true (j + 1)
    simp only [Sp.pastGo, List.length_cons]
    cases Sp.blank b.toNat
    · simp only [cond_false]
      cases (decide ((b.toNat : Int) = 45) && Sp.hasPre (b :: r) [45, 45])
      · simp
      · simp only [cond_true]; omega
    · simp only [cond_true]; omega

theorem past_bounds {s : List UInt8} {j : Nat} (hj : j ≤ s.length) : j ≤ Sp.past s j ∧ Sp.past s j ≤ s.length := by
  have := pastGo_bounds (s.drop j) false j
  unfold Sp.past
  simp at this
  omega

theorem signGo_pre (s : List UInt8) : ∀ (l : List (List UInt8)), (Sp.signGo s l).2 = s.take (Sp.signGo s l).2.length
  | [] => by simp [Sp.signGo]
  | x :: l => by
    simp only [Sp.signGo]
    cases h : Sp.hasPre s x
    · exact signGo_pre s l
    · simp only [cond_true]
      exact (of_decide_eq_true h).symm

theorem one_pre (s : List UInt8) : (Sp.one s).2 = s.take (Sp.one s).2.length := by
  unfold Sp.one
  by_cases h : 0 < Sp.nameLen s
  · rw [decide_eq_true h, cond_true]
    have := nameLen_le s
    simp [List.length_take, Nat.min_eq_left this]
  · rw [decide_eq_false h, cond_false]
    exact signGo_pre s _

theorem one_le (s : List UInt8) : (Sp.one s).2.length ≤ s.length := by
  have := congrArg List.length (one_pre s)
  rw [List.length_take] at this
  omega

/-- Bytes that follow in a scalar value. -/
def Sp.cont (b : UInt8) : Bool := decide (128 ≤ b.toNat) && decide (b.toNat ≤ 191)

/-- How many bytes the scalar value has with which a text begins; 0: none does. -/
def Sp.uni : List UInt8 → Nat
  | [] => 0
  | b :: r =>
    bif decide (b.toNat < 128) then 1
    else bif decide (194 ≤ b.toNat) && decide (b.toNat ≤ 223) then
      (match r with | c :: _ => bif Sp.cont c then 2 else 0 | [] => 0)
    else bif decide (224 ≤ b.toNat) && decide (b.toNat ≤ 239) then
      (match r with
       | c :: d :: _ => bif decide ((bif decide (b.toNat = 224) then 160 else 128) ≤ c.toNat) && decide (c.toNat ≤ (bif decide (b.toNat = 237) then 159 else 191)) && Sp.cont d then 3 else 0
       | _ => 0)
    else bif decide (240 ≤ b.toNat) && decide (b.toNat ≤ 244) then
      (match r with
       | c :: d :: e :: _ => bif decide ((bif decide (b.toNat = 240) then 144 else 128) ≤ c.toNat) && decide (c.toNat ≤ (bif decide (b.toNat = 244) then 143 else 191)) && Sp.cont d && Sp.cont e then 4 else 0
       | _ => 0)
    else 0

theorem uni_le : ∀ (l : List UInt8), Sp.uni l ≤ l.length
  | [] => Nat.le_refl _
  | [b] => by
    simp only [Sp.uni]
    cases decide (b.toNat < 128) <;> cases (decide (194 ≤ b.toNat) && decide (b.toNat ≤ 223)) <;> cases (decide (224 ≤ b.toNat) && decide (b.toNat ≤ 239)) <;> cases (decide (240 ≤ b.toNat) && decide (b.toNat ≤ 244)) <;> simp
  | [b, c] => by
    simp only [Sp.uni]
    cases decide (b.toNat < 128) <;> cases (decide (194 ≤ b.toNat) && decide (b.toNat ≤ 223)) <;> cases (decide (224 ≤ b.toNat) && decide (b.toNat ≤ 239)) <;> cases (decide (240 ≤ b.toNat) && decide (b.toNat ≤ 244)) <;> cases Sp.cont c <;> simp
  | [b, c, d] => by
    simp only [Sp.uni]
    cases decide (b.toNat < 128) <;> cases (decide (194 ≤ b.toNat) && decide (b.toNat ≤ 223)) <;> cases (decide (224 ≤ b.toNat) && decide (b.toNat ≤ 239)) <;> cases (decide (240 ≤ b.toNat) && decide (b.toNat ≤ 244)) <;> cases Sp.cont c <;>
      simp only [cond_true, cond_false] <;> (try split) <;> simp_all <;> (first | omega | (rw [Bool.cond_eq_ite]; split <;> omega))
  | b :: c :: d :: e :: r => by
    have h : Sp.uni (b :: c :: d :: e :: r) ≤ 4 := by
      simp only [Sp.uni]
      cases decide (b.toNat < 128) <;> cases (decide (194 ≤ b.toNat) && decide (b.toNat ≤ 223)) <;> cases (decide (224 ≤ b.toNat) && decide (b.toNat ≤ 239)) <;> cases (decide (240 ≤ b.toNat) && decide (b.toNat ≤ 244)) <;> cases Sp.cont c <;>
        simp only [cond_true, cond_false] <;> (first | omega | (rw [Bool.cond_eq_ite]; split <;> omega))
    simp only [List.length_cons]
    omega

end Go.Vai
end

section
namespace Go.Vai
open Go.Proofs

/-- What the library tells of a text's first scalar value. -/
noncomputable def Sp.dec (s : List UInt8) : Int × Int := match evLim cx 29 [.d (.str s)] [] with | some (.ret (.tup [.d (.int _ r), .d (.int _ n)]), _) => (r, n) | _ => (0, 0)

noncomputable def decF : List V → Option Out | [.d (.str s)] => some (.ret (.tup [.d (.int .i32 (Sp.dec s).1), .d (.int .i64 (Sp.dec s).2)])) | _ => none
def pastF : List V → Option Out | [.d (.str s), .d (.int .i64 a)] => some (.ret (.d (.int .i64 (Sp.past s a.toNat : Nat)))) | _ => none
def oneF : List V → Option Out | [.d (.str s)] => some (.ret (.d (.agg [.int .i64 (Sp.one s).1, .str (Sp.one s).2, .int .i64 0]))) | _ => none
noncomputable def S7 : Caller := also 29 decF (also 30 pastF (also 31 oneF none1))

theorem b7 (n : Nat) (s : List UInt8) :
    evBody cx S7 n 13 [.d (.str s)] [(0, .tok 0)] =
  bif decide ((65536 : Int) < (↑s.length : Int)) then
    some
      (Out.ret (V.tup [V.d (D.sl 3 []), V.d (D.int IntKind.i64 (0 : Int)), V.d (D.int IntKind.i64 (3 : Int))]),
        [(0, Ob.tok 0)])
  else
    LP cx S7 n 13 1 4 n [(0, V.d (D.str s)), (5, V.d (D.int IntKind.i64 (0 : Int)))] [(0, Ob.tok 0)]
      (AK cx S7 n 13 1 4 (EK cx 13 1)) := by kernel_rfl

theorem l7a (n k : Nat) (s : List UInt8) (i : Int) :
    LP cx S7 n 13 1 4 (k+1) [(0, .d (.str s)), (5, .d (.int .i64 i))] [(0, .tok 0)] (AK cx S7 n 13 1 4 (EK cx 13 1)) =
  bif decide (i < (↑s.length : Int)) then
    must (decide (0 ≤ i) && decide (i ≤ (↑s.length : Int)))
      (must (decide ((List.drop i.toNat (List.take s.length s)).length ≤ big))
        (bif decide ((Sp.dec (List.drop i.toNat (List.take s.length s))).fst = (65533 : Int)) then
          bif decide ((Sp.dec (List.drop i.toNat (List.take s.length s))).snd < (2 : Int)) then
            some
              (Out.ret (V.tup [V.d (D.sl 3 []), V.d (D.int IntKind.i64 i), V.d (D.int IntKind.i64 (60 : Int))]),
                [(0, Ob.tok 0)])
          else
            LP cx S7 n 13 1 4 k
              [(0, V.d (D.str s)),
                (5,
                  V.d
                    (D.int IntKind.i64
                      (IntKind.i64.wrap (i + (Sp.dec (List.drop i.toNat (List.take s.length s))).snd))))]
              [(0, Ob.tok 0)] (AK cx S7 n 13 1 4 (EK cx 13 1))
        else
          LP cx S7 n 13 1 4 k
            [(0, V.d (D.str s)),
              (5,
                V.d
                  (D.int IntKind.i64 (IntKind.i64.wrap (i + (Sp.dec (List.drop i.toNat (List.take s.length s))).snd))))]
            [(0, Ob.tok 0)] (AK cx S7 n 13 1 4 (EK cx 13 1))))
  else
    must (decide (s.length ≤ big) && true)
      (LP cx S7 n 13 1 11 n
        [(0, V.d (D.str s)), (8, V.sl 3 [] 9), (9, V.d (D.int IntKind.i64 (↑(Sp.past s (0 : Int).toNat) : Int)))]
        [(0, Ob.tok 0), (9, Ob.tok 0)] (AK cx S7 n 13 1 11 (EK cx 13 1))) := by kernel_rfl

theorem l7b (n k : Nat) (s : List UInt8) (i : Int) (l : List D) :
    LP cx S7 n 13 1 11 (k+1) [(0, .d (.str s)), (8, .sl 3 l 9), (9, .d (.int .i64 i))] [(0, .tok 0), (9, .tok l.length)] (AK cx S7 n 13 1 11 (EK cx 13 1)) =
  bif decide (i < (↑s.length : Int)) then
    must (decide (0 ≤ i) && decide (i ≤ (↑s.length : Int)))
      (must (decide ((List.drop i.toNat (List.take s.length s)).length ≤ big))
        (bif decide ((Sp.one (List.drop i.toNat (List.take s.length s))).2 = []) then
          some
            (Out.ret (V.tup [V.d (D.sl 3 []), V.d (D.int IntKind.i64 i), V.d (D.int IntKind.i64 (61 : Int))]),
              [(0, Ob.tok 0)])
        else
          must
            (decide (l.length = l.length) &&
              decide
                (l.length +
                    [D.agg
                          [D.int IntKind.i64 (Sp.one (List.drop i.toNat (List.take s.length s))).fst,
                            D.str (Sp.one (List.drop i.toNat (List.take s.length s))).2, D.int IntKind.i64 i]].length ≤
                  4294967296))
            (must
              (decide (s.length ≤ big) &&
                (decide
                    (0 ≤
                      IntKind.i64.wrap (i + (↑(Sp.one (List.drop i.toNat (List.take s.length s))).2.length : Int))) &&
                  decide
                    (IntKind.i64.wrap (i + (↑(Sp.one (List.drop i.toNat (List.take s.length s))).2.length : Int)) ≤
                      (↑s.length : Int))))
              (LP cx S7 n 13 1 11 k
                [(0, V.d (D.str s)),
                  (8,
                    V.sl 3
                      (l ++
                        [D.agg
                            [D.int IntKind.i64 (Sp.one (List.drop i.toNat (List.take s.length s))).fst,
                              D.str (Sp.one (List.drop i.toNat (List.take s.length s))).2, D.int IntKind.i64 i]])
                      9),
                  (9,
                    V.d
                      (D.int IntKind.i64
                        (↑(Sp.past s
                              (IntKind.i64.wrap
                                  (i + (↑(Sp.one (List.drop i.toNat (List.take s.length s))).2.length : Int))).toNat) :
                          Int)))]
                [(0, Ob.tok 0),
                  (9,
                    Ob.tok
                      (l.length +
                        [D.agg
                              [D.int IntKind.i64 (Sp.one (List.drop i.toNat (List.take s.length s))).fst,
                                D.str (Sp.one (List.drop i.toNat (List.take s.length s))).2,
                                D.int IntKind.i64 i]].length))]
                (AK cx S7 n 13 1 11 (EK cx 13 1))))))
  else
    must
      (decide (l.length = l.length) &&
        decide
          (l.length + [D.agg [D.int IntKind.i64 (0 : Int), D.str [], D.int IntKind.i64 (↑s.length : Int)]].length ≤
            4294967296))
      (bif
          decide
              (l.length +
                  [D.agg [D.int IntKind.i64 (0 : Int), D.str [], D.int IntKind.i64 (↑s.length : Int)]].length =
                (l ++
                    [D.agg [D.int IntKind.i64 (0 : Int), D.str [], D.int IntKind.i64 (↑s.length : Int)]]).length) &&
            true then
        some
          (Out.ret
              (V.tup
                [V.sl 3 (l ++ [D.agg [D.int IntKind.i64 (0 : Int), D.str [], D.int IntKind.i64 (↑s.length : Int)]])
                    0,
                  V.d (D.int IntKind.i64 (0 : Int)), V.d (D.int IntKind.i64 (0 : Int))]),
            [(0,
                Ob.tok
                  (l.length +
                    [D.agg [D.int IntKind.i64 (0 : Int), D.str [], D.int IntKind.i64 (↑s.length : Int)]].length))])
      else
        some
          (Out.ret
              (V.tup
                [V.d
                    (D.sl 3
                      (l ++ [D.agg [D.int IntKind.i64 (0 : Int), D.str [], D.int IntKind.i64 (↑s.length : Int)]])),
                  V.d (D.int IntKind.i64 (0 : Int)), V.d (D.int IntKind.i64 (0 : Int))]),
            [(0, Ob.tok 0)])) := by kernel_rfl

def tokD (k : Int) (t : List UInt8) (a : Int) : D := .agg [.int .i64 k, .str t, .int .i64 a]

/-- The tokens from a place on that is not let by; where there is none; what is wrong. -/
def Sp.toks : Nat → List UInt8 → Nat → List D → List D × Int × Int
  | 0, _, _, _ => ([], 0, 0)
  | f + 1, s, j, l => bif decide (j < s.length) then
      (bif decide ((Sp.one (s.drop j)).2 = []) then ([], j, 61)
       else Sp.toks f s (Sp.past s (j + (Sp.one (s.drop j)).2.length)) (l ++ [tokD (Sp.one (s.drop j)).1 (Sp.one (s.drop j)).2 j]))
    else (l ++ [tokD 0 [] s.length], 0, 0)

/-- A list of tokens, as Scan hands it out: with the right to append behind it, if there are any. -/
def givL (l : List D) : V := match l with | [] => .d (.sl 3 []) | x :: r => .sl 3 (x :: r) 0
theorem givL_add (l : List D) (x : D) : givL (l ++ [x]) = .sl 3 (l ++ [x]) 0 := by cases l <;> rfl
def scanRes (r : List D × Int × Int) : Option (Out × St) := some (.ret (.tup [givL r.1, .d (.int .i64 r.2.1), .d (.int .i64 r.2.2)]), [(0, .tok r.1.length)])

theorem toks_loop {s : List UInt8} (hs : s.length ≤ 65536) (n : Nat) : ∀ (f j k : Nat) (l : List D), s.length - j < f → f ≤ k → j ≤ s.length → l.length + (s.length - j) ≤ 65536 →
    LP cx S7 n 13 1 11 k [(0, .d (.str s)), (8, .sl 3 l 9), (9, .d (.int .i64 (j : Int)))] [(0, .tok 0), (9, .tok l.length)] (AK cx S7 n 13 1 11 (EK cx 13 1)) = scanRes (Sp.toks f s j l)
  | 0, j, k, l, h, _, _, _ => by omega
  | f + 1, j, k, l, h, hk, hj, hl => by
    obtain ⟨k, rfl⟩ : ∃ i, k = i + 1 := ⟨k - 1, by omega⟩
    rw [l7b]
    have hll : decide (l.length = l.length) = true := decide_eq_true rfl
    by_cases hlt : j < s.length
    · have e1 : decide ((j : Int) < (s.length : Int)) = true := decide_eq_true (by omega)
      have e2 : decide ((0 : Int) ≤ (j : Int)) = true := decide_eq_true (by omega)
      have e3 : decide ((j : Int) ≤ (s.length : Int)) = true := decide_eq_true (by omega)
      have e4 : decide (j < s.length) = true := decide_eq_true hlt
      have e5 : decide ((s.drop j).length ≤ big) = true := decide_eq_true (by simp [big]; omega)
      have hone := one_le (s.drop j)
      rw [List.length_drop] at hone
      have hw : IntKind.i64.wrap ((j : Int) + ((Sp.one (s.drop j)).2.length : Int)) = ((j + (Sp.one (s.drop j)).2.length : Nat) : Int) := by
        rw [IntWalk.i64_in _ (by omega)]; omega
      simp only [e1, e2, e3, must, cond_true, Bool.and_self, Int.toNat_natCast, List.take_length, e5, hw, Sp.toks, e4, hll, Bool.true_and]
      by_cases ht : (Sp.one (s.drop j)).2 = []
      · rw [decide_eq_true ht, cond_true, cond_true]; rfl
      · rw [decide_eq_false ht, cond_false, cond_false]
        have hpos : 0 < (Sp.one (s.drop j)).2.length := List.length_pos_iff.2 ht
        have hb := past_bounds (s := s) (j := j + (Sp.one (s.drop j)).2.length) (by omega)
        have ih := toks_loop hs n f (Sp.past s (j + (Sp.one (s.drop j)).2.length)) k (l ++ [tokD (Sp.one (s.drop j)).1 (Sp.one (s.drop j)).2 j]) (by omega) (by omega) hb.2 (by simp; omega)
        have e6 : decide (l.length + [D.agg [D.int IntKind.i64 (Sp.one (s.drop j)).fst, D.str (Sp.one (s.drop j)).2, D.int IntKind.i64 (j : Int)]].length ≤ 4294967296) = true := decide_eq_true (by simp; omega)
        have e7 : decide (s.length ≤ big) = true := decide_eq_true (by simp [big]; omega)
        have e8 : decide ((0 : Int) ≤ ((j + (Sp.one (s.drop j)).2.length : Nat) : Int)) = true := decide_eq_true (by omega)
        have e9 : decide (((j + (Sp.one (s.drop j)).2.length : Nat) : Int) ≤ (s.length : Int)) = true := decide_eq_true (by omega)
        simp only [e6, e7, e8, e9, cond_true, Bool.and_self]
        rw [List.length_append] at ih
        exact ih
    · have e1 : decide ((j : Int) < (s.length : Int)) = false := decide_eq_false (by omega)
      have e4 : decide (j < s.length) = false := decide_eq_false hlt
      have e6 : decide (l.length + [D.agg [D.int IntKind.i64 (0 : Int), D.str [], D.int IntKind.i64 (s.length : Int)]].length ≤ 4294967296) = true := decide_eq_true (by simp; omega)
      have e8 : decide (l.length + [D.agg [D.int IntKind.i64 (0 : Int), D.str [], D.int IntKind.i64 (s.length : Int)]].length = (l ++ [D.agg [D.int IntKind.i64 (0 : Int), D.str [], D.int IntKind.i64 (s.length : Int)]]).length) = true := decide_eq_true (by simp)
      simp only [e1, cond_false, Sp.toks, e4, hll, Bool.true_and, must, e6, e8, cond_true, scanRes, tokD, givL_add]
      rw [List.length_append, decide_eq_true trivial]
      rfl

end Go.Vai
end

section
namespace Go.Vai
open Go.Proofs

/-- The first place from one on that is no scalar value's. -/
def Sp.utfGo : Nat → List UInt8 → Nat → Option Nat
  | _, [], _ => none
  | 0, _ :: _, j => some j
  | f + 1, b :: r, j => bif Nat.beq (Sp.uni (b :: r)) 0 then some j else Sp.utfGo f ((b :: r).drop (Sp.uni (b :: r))) (j + Sp.uni (b :: r))

/-- What the library's answer says. -/
def DecOk : Prop := ∀ l, l ≠ [] → (Sp.uni l = 0 → (Sp.dec l).1 = 65533 ∧ (Sp.dec l).2 < 2) ∧ (Sp.uni l ≠ 0 → (Sp.dec l).2 = Sp.uni l ∧ ((Sp.dec l).2 < 2 → (Sp.dec l).1 ≠ 65533))

def utfRes (s : List UInt8) : Option Nat → Option (Out × St)
  | some p => scanRes ([], p, 60)
  | none => scanRes (Sp.toks (s.length + 1) s (Sp.past s 0) [])

theorem utf_loop (hdec : DecOk) {s : List UInt8} (hs : s.length ≤ 65536) {n : Nat} (hn : s.length < n) : ∀ (f j k : Nat), s.length - j ≤ f → f < k → j ≤ s.length →
    LP cx S7 n 13 1 4 k [(0, .d (.str s)), (5, .d (.int .i64 (j : Int)))] [(0, .tok 0)] (AK cx S7 n 13 1 4 (EK cx 13 1)) = utfRes s (Sp.utfGo f (s.drop j) j) := by
  intro f
  induction f with
  | zero =>
    intro j k h hk hj
    obtain ⟨k, rfl⟩ : ∃ i, k = i + 1 := ⟨k - 1, by omega⟩
    have hnil : s.drop j = [] := List.drop_eq_nil_of_le (by omega)
    have e1 : decide ((j : Int) < (s.length : Int)) = false := decide_eq_false (by omega)
    have e7 : decide (s.length ≤ big) = true := decide_eq_true (by simp [big]; omega)
    have hb := past_bounds (s := s) (j := 0) (Nat.zero_le _)
    rw [l7a, hnil]
    simp only [e1, cond_false, e7, must, Bool.and_self, cond_true, Int.toNat_zero]
    exact toks_loop hs n (s.length + 1) (Sp.past s 0) n [] (by omega) (by omega) hb.2 (by simp; omega)
  | succ f ih =>
    intro j k h hk hj
    obtain ⟨k, rfl⟩ : ∃ i, k = i + 1 := ⟨k - 1, by omega⟩
    have e7 : decide (s.length ≤ big) = true := decide_eq_true (by simp [big]; omega)
    have hb := past_bounds (s := s) (j := 0) (Nat.zero_le _)
    rw [l7a]
    cases hd : s.drop j with
    | nil =>
      have := drop_nil hd
      have e1 : decide ((j : Int) < (s.length : Int)) = false := decide_eq_false (by omega)
      simp only [e1, cond_false, e7, must, Bool.and_self, cond_true, Int.toNat_zero]
      exact toks_loop hs n (s.length + 1) (Sp.past s 0) n [] (by omega) (by omega) hb.2 (by simp; omega)
    | cons b r =>
      obtain ⟨h1, _, _⟩ := drop_cons hd
      have e1 : decide ((j : Int) < (s.length : Int)) = true := decide_eq_true (by omega)
      have e2 : decide ((0 : Int) ≤ (j : Int)) = true := decide_eq_true (by omega)
      have e3 : decide ((j : Int) ≤ (s.length : Int)) = true := decide_eq_true (by omega)
      have hlen : (b :: r).length = s.length - j := by rw [← hd]; simp
      have e5 : decide ((b :: r).length ≤ big) = true := decide_eq_true (by rw [hlen]; simp [big]; omega)
      obtain ⟨hbad, hgood⟩ := hdec (b :: r) (by simp)
      simp only [e1, e2, e3, must, cond_true, Bool.and_self, Int.toNat_natCast, List.take_length, hd, e5, Sp.utfGo]
      by_cases hu : Sp.uni (b :: r) = 0
      · obtain ⟨g1, g2⟩ := hbad hu
        rw [decide_eq_true g1, decide_eq_true g2, hu]
        rfl
      · obtain ⟨g1, g2⟩ := hgood hu
        have hle := uni_le (b :: r)
        have hw : IntKind.i64.wrap ((j : Int) + (Sp.dec (b :: r)).2) = ((j + Sp.uni (b :: r) : Nat) : Int) := by
          rw [g1, IntWalk.i64_in _ (by omega)]; omega
        have hbq : Nat.beq (Sp.uni (b :: r)) 0 = false := beqF hu
        have step := ih (j + Sp.uni (b :: r)) k (by omega) (by omega) (by omega)
        rw [← List.drop_drop, hd] at step
        simp only [hbq, cond_false, hw]
        by_cases h65 : (Sp.dec (b :: r)).1 = 65533
        · have h2 : ¬ (Sp.dec (b :: r)).2 < 2 := fun hlt => g2 hlt h65
          rw [decide_eq_true h65, decide_eq_false h2]
          exact step
        · rw [decide_eq_false h65]
          exact step

/-- The document's answer for a text's tokens. -/
def Sp.scan (s : List UInt8) : List D × Int × Int :=
  bif decide (65536 < s.length) then ([], 0, 3)
  else match Sp.utfGo s.length s 0 with
    | some p => ([], p, 60)
    | none => Sp.toks (s.length + 1) s (Sp.past s 0) []

end Go.Vai
end

/-
  Lex: the library's DecodeRuneInString, behind its first byte.
  Lex: the library's decoder, whole.
  Lex: the library's DecodeRuneInString; lex.Scan.
-/
import Derived.Test.YtdgdfglbhndjnaaDoorTrePart1

set_option linter.all false
set_option linter.unusedSimpArgs false
set_option linter.unusedVariables false

section
namespace Go.Vai
open Go.Proofs

def DecR (l : List UInt8) : Prop := ∃ r n : Int, evLim cx 58 [.d (.str l)] [] = some (.ret (.tup [.d (.int .i32 r), .d (.int .i64 n)]), []) ∧
  (Sp.uni l = 0 → r = 65533 ∧ n < 2) ∧ (Sp.uni l ≠ 0 → n = Sp.uni l ∧ (n < 2 → r ≠ 65533))

theorem decBad {l : List UInt8} (h : evBody cx none1 0 58 [.d (.str l)] [] = some (.ret (.tup [.d (.int .i32 65533), .d (.int .i64 1)]), [])) (hu : Sp.uni l = 0) : DecR l :=
  ⟨65533, 1, lim_body (N := 0) (none1_knows cx) h, fun _ => ⟨rfl, by omega⟩, fun h => absurd hu h⟩

theorem decGood {l : List UInt8} {r k : Int} (h : evBody cx none1 0 58 [.d (.str l)] [] = some (.ret (.tup [.d (.int .i32 r), .d (.int .i64 k)]), [])) (hu : k = Sp.uni l) (hk : 2 ≤ k) : DecR l :=
  ⟨r, k, lim_body (N := 0) (none1_knows cx) h, fun h0 => by omega, fun _ => ⟨hu, fun h2 => by omega⟩⟩

theorem len0 (b : UInt8) (l : List UInt8) : decide ((0 : Int) < ((b :: l).length : Int)) = true := decide_eq_true (by simp only [List.length_cons]; omega)
theorem len1 (b c : UInt8) (l : List UInt8) : decide ((1 : Int) < ((b :: c :: l).length : Int)) = true := decide_eq_true (by simp only [List.length_cons]; omega)
theorem len2 (b c d : UInt8) (l : List UInt8) : decide ((2 : Int) < ((b :: c :: d :: l).length : Int)) = true := decide_eq_true (by simp only [List.length_cons]; omega)
theorem len3 (b c d e : UInt8) (l : List UInt8) : decide ((3 : Int) < ((b :: c :: d :: e :: l).length : Int)) = true := decide_eq_true (by simp only [List.length_cons]; omega)
theorem ge2 (b c : UInt8) (l : List UInt8) : decide (((b :: c :: l).length : Int) < (2 : Int)) = false := decide_eq_false (by simp only [List.length_cons]; omega)
theorem ge3 (b c d : UInt8) (l : List UInt8) : decide (((b :: c :: d :: l).length : Int) < (3 : Int)) = false := decide_eq_false (by simp only [List.length_cons]; omega)
theorem ge4 (b c d e : UInt8) (l : List UInt8) : decide (((b :: c :: d :: e :: l).length : Int) < (4 : Int)) = false := decide_eq_false (by simp only [List.length_cons]; omega)
theorem at1 (b c : UInt8) (l : List UInt8) : (b :: c :: l)[(1 : Int).toNat]? = some c := rfl
theorem at2 (b c d : UInt8) (l : List UInt8) : (b :: c :: d :: l)[(2 : Int).toNat]? = some d := rfl
theorem at3 (b c d e : UInt8) (l : List UInt8) : (b :: c :: d :: e :: l)[(3 : Int).toNat]? = some e := rfl
theorem contT {c : UInt8} (h1 : ¬ (c.toNat : Int) < 128) (h2 : ¬ (191 : Int) < (c.toNat : Int)) : Sp.cont c = true := by
  unfold Sp.cont
  rw [decide_eq_true (by omega), decide_eq_true (by omega)]; rfl
theorem contF {c : UInt8} (h : (c.toNat : Int) < 128 ∨ (191 : Int) < (c.toNat : Int)) : Sp.cont c = false := by
  unfold Sp.cont
  rcases h with h | h
  · rw [decide_eq_false (by omega)]; rfl
  · rw [decide_eq_false (p := c.toNat ≤ 191) (by omega), Bool.and_false]


theorem b20_128 (n : Nat) (S : Caller) (r : List UInt8) :
    evBody cx S n 58 [.d (.str (128 :: r))] [] =
  must (decide ((0 : Int) < (↑(128 :: r).length : Int)))
    (must (decide ((0 : Int) < (↑(128 :: r).length : Int)))
      (some (Out.ret (V.tup [V.d (D.int IntKind.i32 (65533 : Int)), V.d (D.int IntKind.i64 (1 : Int))]), []))) := by kernel_rfl

theorem b20_129 (n : Nat) (S : Caller) (r : List UInt8) :
    evBody cx S n 58 [.d (.str (129 :: r))] [] =
  must (decide ((0 : Int) < (↑(129 :: r).length : Int)))
    (must (decide ((0 : Int) < (↑(129 :: r).length : Int)))
      (some (Out.ret (V.tup [V.d (D.int IntKind.i32 (65533 : Int)), V.d (D.int IntKind.i64 (1 : Int))]), []))) := by kernel_rfl

theorem b20_130 (n : Nat) (S : Caller) (r : List UInt8) :
    evBody cx S n 58 [.d (.str (130 :: r))] [] =
  must (decide ((0 : Int) < (↑(130 :: r).length : Int)))
    (must (decide ((0 : Int) < (↑(130 :: r).length : Int)))
      (some (Out.ret (V.tup [V.d (D.int IntKind.i32 (65533 : Int)), V.d (D.int IntKind.i64 (1 : Int))]), []))) := by kernel_rfl

theorem b20_131 (n : Nat) (S : Caller) (r : List UInt8) :
    evBody cx S n 58 [.d (.str (131 :: r))] [] =
  must (decide ((0 : Int) < (↑(131 :: r).length : Int)))
    (must (decide ((0 : Int) < (↑(131 :: r).length : Int)))
      (some (Out.ret (V.tup [V.d (D.int IntKind.i32 (65533 : Int)), V.d (D.int IntKind.i64 (1 : Int))]), []))) := by kernel_rfl

theorem b20_132 (n : Nat) (S : Caller) (r : List UInt8) :
    evBody cx S n 58 [.d (.str (132 :: r))] [] =
  must (decide ((0 : Int) < (↑(132 :: r).length : Int)))
    (must (decide ((0 : Int) < (↑(132 :: r).length : Int)))
      (some (Out.ret (V.tup [V.d (D.int IntKind.i32 (65533 : Int)), V.d (D.int IntKind.i64 (1 : Int))]), []))) := by kernel_rfl

theorem b20_133 (n : Nat) (S : Caller) (r : List UInt8) :
    evBody cx S n 58 [.d (.str (133 :: r))] [] =
  must (decide ((0 : Int) < (↑(133 :: r).length : Int)))
    (must (decide ((0 : Int) < (↑(133 :: r).length : Int)))
      (some (Out.ret (V.tup [V.d (D.int IntKind.i32 (65533 : Int)), V.d (D.int IntKind.i64 (1 : Int))]), []))) := by kernel_rfl

theorem b20_134 (n : Nat) (S : Caller) (r : List UInt8) :
    evBody cx S n 58 [.d (.str (134 :: r))] [] =
  must (decide ((0 : Int) < (↑(134 :: r).length : Int)))
    (must (decide ((0 : Int) < (↑(134 :: r).length : Int)))
      (some (Out.ret (V.tup [V.d (D.int IntKind.i32 (65533 : Int)), V.d (D.int IntKind.i64 (1 : Int))]), []))) := by kernel_rfl

theorem b20_135 (n : Nat) (S : Caller) (r : List UInt8) :
    evBody cx S n 58 [.d (.str (135 :: r))] [] =
  must (decide ((0 : Int) < (↑(135 :: r).length : Int)))
    (must (decide ((0 : Int) < (↑(135 :: r).length : Int)))
      (some (Out.ret (V.tup [V.d (D.int IntKind.i32 (65533 : Int)), V.d (D.int IntKind.i64 (1 : Int))]), []))) := by kernel_rfl

theorem b20_136 (n : Nat) (S : Caller) (r : List UInt8) :
    evBody cx S n 58 [.d (.str (136 :: r))] [] =
  must (decide ((0 : Int) < (↑(136 :: r).length : Int)))
    (must (decide ((0 : Int) < (↑(136 :: r).length : Int)))
      (some (Out.ret (V.tup [V.d (D.int IntKind.i32 (65533 : Int)), V.d (D.int IntKind.i64 (1 : Int))]), []))) := by kernel_rfl

theorem b20_137 (n : Nat) (S : Caller) (r : List UInt8) :
    evBody cx S n 58 [.d (.str (137 :: r))] [] =
  must (decide ((0 : Int) < (↑(137 :: r).length : Int)))
    (must (decide ((0 : Int) < (↑(137 :: r).length : Int)))
      (some (Out.ret (V.tup [V.d (D.int IntKind.i32 (65533 : Int)), V.d (D.int IntKind.i64 (1 : Int))]), []))) := by kernel_rfl

theorem b20_138 (n : Nat) (S : Caller) (r : List UInt8) :
    evBody cx S n 58 [.d (.str (138 :: r))] [] =
  must (decide ((0 : Int) < (↑(138 :: r).length : Int)))
    (must (decide ((0 : Int) < (↑(138 :: r).length : Int)))
      (some (Out.ret (V.tup [V.d (D.int IntKind.i32 (65533 : Int)), V.d (D.int IntKind.i64 (1 : Int))]), []))) := by kernel_rfl

theorem b20_139 (n : Nat) (S : Caller) (r : List UInt8) :
    evBody cx S n 58 [.d (.str (139 :: r))] [] =
  must (decide ((0 : Int) < (↑(139 :: r).length : Int)))
    (must (decide ((0 : Int) < (↑(139 :: r).length : Int)))
      (some (Out.ret (V.tup [V.d (D.int IntKind.i32 (65533 : Int)), V.d (D.int IntKind.i64 (1 : Int))]), []))) := by kernel_rfl

theorem b20_140 (n : Nat) (S : Caller) (r : List UInt8) :
    evBody cx S n 58 [.d (.str (140 :: r))] [] =
  must (decide ((0 : Int) < (↑(140 :: r).length : Int)))
    (must (decide ((0 : Int) < (↑(140 :: r).length : Int)))
      (some (Out.ret (V.tup [V.d (D.int IntKind.i32 (65533 : Int)), V.d (D.int IntKind.i64 (1 : Int))]), []))) := by kernel_rfl

theorem b20_141 (n : Nat) (S : Caller) (r : List UInt8) :
    evBody cx S n 58 [.d (.str (141 :: r))] [] =
  must (decide ((0 : Int) < (↑(141 :: r).length : Int)))
    (must (decide ((0 : Int) < (↑(141 :: r).length : Int)))
      (some (Out.ret (V.tup [V.d (D.int IntKind.i32 (65533 : Int)), V.d (D.int IntKind.i64 (1 : Int))]), []))) := by kernel_rfl

theorem b20_142 (n : Nat) (S : Caller) (r : List UInt8) :
    evBody cx S n 58 [.d (.str (142 :: r))] [] =
  must (decide ((0 : Int) < (↑(142 :: r).length : Int)))
    (must (decide ((0 : Int) < (↑(142 :: r).length : Int)))
      (some (Out.ret (V.tup [V.d (D.int IntKind.i32 (65533 : Int)), V.d (D.int IntKind.i64 (1 : Int))]), []))) := by kernel_rfl

theorem b20_143 (n : Nat) (S : Caller) (r : List UInt8) :
    evBody cx S n 58 [.d (.str (143 :: r))] [] =
  must (decide ((0 : Int) < (↑(143 :: r).length : Int)))
    (must (decide ((0 : Int) < (↑(143 :: r).length : Int)))
      (some (Out.ret (V.tup [V.d (D.int IntKind.i32 (65533 : Int)), V.d (D.int IntKind.i64 (1 : Int))]), []))) := by kernel_rfl

theorem b20_144 (n : Nat) (S : Caller) (r : List UInt8) :
    evBody cx S n 58 [.d (.str (144 :: r))] [] =
  must (decide ((0 : Int) < (↑(144 :: r).length : Int)))
    (must (decide ((0 : Int) < (↑(144 :: r).length : Int)))
      (some (Out.ret (V.tup [V.d (D.int IntKind.i32 (65533 : Int)), V.d (D.int IntKind.i64 (1 : Int))]), []))) := by kernel_rfl

theorem b20_145 (n : Nat) (S : Caller) (r : List UInt8) :
    evBody cx S n 58 [.d (.str (145 :: r))] [] =
  must (decide ((0 : Int) < (↑(145 :: r).length : Int)))
    (must (decide ((0 : Int) < (↑(145 :: r).length : Int)))
      (some (Out.ret (V.tup [V.d (D.int IntKind.i32 (65533 : Int)), V.d (D.int IntKind.i64 (1 : Int))]), []))) := by kernel_rfl

theorem b20_146 (n : Nat) (S : Caller) (r : List UInt8) :
    evBody cx S n 58 [.d (.str (146 :: r))] [] =
  must (decide ((0 : Int) < (↑(146 :: r).length : Int)))
    (must (decide ((0 : Int) < (↑(146 :: r).length : Int)))
      (some (Out.ret (V.tup [V.d (D.int IntKind.i32 (65533 : Int)), V.d (D.int IntKind.i64 (1 : Int))]), []))) := by kernel_rfl

theorem b20_147 (n : Nat) (S : Caller) (r : List UInt8) :
    evBody cx S n 58 [.d (.str (147 :: r))] [] =
  must (decide ((0 : Int) < (↑(147 :: r).length : Int)))
    (must (decide ((0 : Int) < (↑(147 :: r).length : Int)))
      (some (Out.ret (V.tup [V.d (D.int IntKind.i32 (65533 : Int)), V.d (D.int IntKind.i64 (1 : Int))]), []))) := by kernel_rfl

theorem b20_148 (n : Nat) (S : Caller) (r : List UInt8) :
    evBody cx S n 58 [.d (.str (148 :: r))] [] =
  must (decide ((0 : Int) < (↑(148 :: r).length : Int)))
    (must (decide ((0 : Int) < (↑(148 :: r).length : Int)))
      (some (Out.ret (V.tup [V.d (D.int IntKind.i32 (65533 : Int)), V.d (D.int IntKind.i64 (1 : Int))]), []))) := by kernel_rfl

theorem b20_149 (n : Nat) (S : Caller) (r : List UInt8) :
    evBody cx S n 58 [.d (.str (149 :: r))] [] =
  must (decide ((0 : Int) < (↑(149 :: r).length : Int)))
    (must (decide ((0 : Int) < (↑(149 :: r).length : Int)))
      (some (Out.ret (V.tup [V.d (D.int IntKind.i32 (65533 : Int)), V.d (D.int IntKind.i64 (1 : Int))]), []))) := by kernel_rfl

theorem b20_150 (n : Nat) (S : Caller) (r : List UInt8) :
    evBody cx S n 58 [.d (.str (150 :: r))] [] =
  must (decide ((0 : Int) < (↑(150 :: r).length : Int)))
    (must (decide ((0 : Int) < (↑(150 :: r).length : Int)))
      (some (Out.ret (V.tup [V.d (D.int IntKind.i32 (65533 : Int)), V.d (D.int IntKind.i64 (1 : Int))]), []))) := by kernel_rfl

theorem b20_151 (n : Nat) (S : Caller) (r : List UInt8) :
    evBody cx S n 58 [.d (.str (151 :: r))] [] =
  must (decide ((0 : Int) < (↑(151 :: r).length : Int)))
    (must (decide ((0 : Int) < (↑(151 :: r).length : Int)))
      (some (Out.ret (V.tup [V.d (D.int IntKind.i32 (65533 : Int)), V.d (D.int IntKind.i64 (1 : Int))]), []))) := by kernel_rfl

theorem b20_152 (n : Nat) (S : Caller) (r : List UInt8) :
    evBody cx S n 58 [.d (.str (152 :: r))] [] =
  must (decide ((0 : Int) < (↑(152 :: r).length : Int)))
    (must (decide ((0 : Int) < (↑(152 :: r).length : Int)))
      (some (Out.ret (V.tup [V.d (D.int IntKind.i32 (65533 : Int)), V.d (D.int IntKind.i64 (1 : Int))]), []))) := by kernel_rfl

theorem b20_153 (n : Nat) (S : Caller) (r : List UInt8) :
    evBody cx S n 58 [.d (.str (153 :: r))] [] =
  must (decide ((0 : Int) < (↑(153 :: r).length : Int)))
    (must (decide ((0 : Int) < (↑(153 :: r).length : Int)))
      (some (Out.ret (V.tup [V.d (D.int IntKind.i32 (65533 : Int)), V.d (D.int IntKind.i64 (1 : Int))]), []))) := by kernel_rfl

theorem b20_154 (n : Nat) (S : Caller) (r : List UInt8) :
    evBody cx S n 58 [.d (.str (154 :: r))] [] =
  must (decide ((0 : Int) < (↑(154 :: r).length : Int)))
    (must (decide ((0 : Int) < (↑(154 :: r).length : Int)))
      (some (Out.ret (V.tup [V.d (D.int IntKind.i32 (65533 : Int)), V.d (D.int IntKind.i64 (1 : Int))]), []))) := by kernel_rfl

theorem b20_155 (n : Nat) (S : Caller) (r : List UInt8) :
    evBody cx S n 58 [.d (.str (155 :: r))] [] =
  must (decide ((0 : Int) < (↑(155 :: r).length : Int)))
    (must (decide ((0 : Int) < (↑(155 :: r).length : Int)))
      (some (Out.ret (V.tup [V.d (D.int IntKind.i32 (65533 : Int)), V.d (D.int IntKind.i64 (1 : Int))]), []))) := by kernel_rfl

theorem b20_156 (n : Nat) (S : Caller) (r : List UInt8) :
    evBody cx S n 58 [.d (.str (156 :: r))] [] =
  must (decide ((0 : Int) < (↑(156 :: r).length : Int)))
    (must (decide ((0 : Int) < (↑(156 :: r).length : Int)))
      (some (Out.ret (V.tup [V.d (D.int IntKind.i32 (65533 : Int)), V.d (D.int IntKind.i64 (1 : Int))]), []))) := by kernel_rfl

theorem b20_157 (n : Nat) (S : Caller) (r : List UInt8) :
    evBody cx S n 58 [.d (.str (157 :: r))] [] =
  must (decide ((0 : Int) < (↑(157 :: r).length : Int)))
    (must (decide ((0 : Int) < (↑(157 :: r).length : Int)))
      (some (Out.ret (V.tup [V.d (D.int IntKind.i32 (65533 : Int)), V.d (D.int IntKind.i64 (1 : Int))]), []))) := by kernel_rfl

theorem b20_158 (n : Nat) (S : Caller) (r : List UInt8) :
    evBody cx S n 58 [.d (.str (158 :: r))] [] =
  must (decide ((0 : Int) < (↑(158 :: r).length : Int)))
    (must (decide ((0 : Int) < (↑(158 :: r).length : Int)))
      (some (Out.ret (V.tup [V.d (D.int IntKind.i32 (65533 : Int)), V.d (D.int IntKind.i64 (1 : Int))]), []))) := by kernel_rfl

theorem b20_159 (n : Nat) (S : Caller) (r : List UInt8) :
    evBody cx S n 58 [.d (.str (159 :: r))] [] =
  must (decide ((0 : Int) < (↑(159 :: r).length : Int)))
    (must (decide ((0 : Int) < (↑(159 :: r).length : Int)))
      (some (Out.ret (V.tup [V.d (D.int IntKind.i32 (65533 : Int)), V.d (D.int IntKind.i64 (1 : Int))]), []))) := by kernel_rfl

theorem b20_160 (n : Nat) (S : Caller) (r : List UInt8) :
    evBody cx S n 58 [.d (.str (160 :: r))] [] =
  must (decide ((0 : Int) < (↑(160 :: r).length : Int)))
    (must (decide ((0 : Int) < (↑(160 :: r).length : Int)))
      (some (Out.ret (V.tup [V.d (D.int IntKind.i32 (65533 : Int)), V.d (D.int IntKind.i64 (1 : Int))]), []))) := by kernel_rfl

theorem b20_161 (n : Nat) (S : Caller) (r : List UInt8) :
    evBody cx S n 58 [.d (.str (161 :: r))] [] =
  must (decide ((0 : Int) < (↑(161 :: r).length : Int)))
    (must (decide ((0 : Int) < (↑(161 :: r).length : Int)))
      (some (Out.ret (V.tup [V.d (D.int IntKind.i32 (65533 : Int)), V.d (D.int IntKind.i64 (1 : Int))]), []))) := by kernel_rfl

theorem b20_162 (n : Nat) (S : Caller) (r : List UInt8) :
    evBody cx S n 58 [.d (.str (162 :: r))] [] =
  must (decide ((0 : Int) < (↑(162 :: r).length : Int)))
    (must (decide ((0 : Int) < (↑(162 :: r).length : Int)))
      (some (Out.ret (V.tup [V.d (D.int IntKind.i32 (65533 : Int)), V.d (D.int IntKind.i64 (1 : Int))]), []))) := by kernel_rfl

theorem b20_163 (n : Nat) (S : Caller) (r : List UInt8) :
    evBody cx S n 58 [.d (.str (163 :: r))] [] =
  must (decide ((0 : Int) < (↑(163 :: r).length : Int)))
    (must (decide ((0 : Int) < (↑(163 :: r).length : Int)))
      (some (Out.ret (V.tup [V.d (D.int IntKind.i32 (65533 : Int)), V.d (D.int IntKind.i64 (1 : Int))]), []))) := by kernel_rfl

theorem b20_164 (n : Nat) (S : Caller) (r : List UInt8) :
    evBody cx S n 58 [.d (.str (164 :: r))] [] =
  must (decide ((0 : Int) < (↑(164 :: r).length : Int)))
    (must (decide ((0 : Int) < (↑(164 :: r).length : Int)))
      (some (Out.ret (V.tup [V.d (D.int IntKind.i32 (65533 : Int)), V.d (D.int IntKind.i64 (1 : Int))]), []))) := by kernel_rfl

theorem b20_165 (n : Nat) (S : Caller) (r : List UInt8) :
    evBody cx S n 58 [.d (.str (165 :: r))] [] =
  must (decide ((0 : Int) < (↑(165 :: r).length : Int)))
    (must (decide ((0 : Int) < (↑(165 :: r).length : Int)))
      (some (Out.ret (V.tup [V.d (D.int IntKind.i32 (65533 : Int)), V.d (D.int IntKind.i64 (1 : Int))]), []))) := by kernel_rfl

theorem b20_166 (n : Nat) (S : Caller) (r : List UInt8) :
    evBody cx S n 58 [.d (.str (166 :: r))] [] =
  must (decide ((0 : Int) < (↑(166 :: r).length : Int)))
    (must (decide ((0 : Int) < (↑(166 :: r).length : Int)))
      (some (Out.ret (V.tup [V.d (D.int IntKind.i32 (65533 : Int)), V.d (D.int IntKind.i64 (1 : Int))]), []))) := by kernel_rfl

theorem b20_167 (n : Nat) (S : Caller) (r : List UInt8) :
    evBody cx S n 58 [.d (.str (167 :: r))] [] =
  must (decide ((0 : Int) < (↑(167 :: r).length : Int)))
    (must (decide ((0 : Int) < (↑(167 :: r).length : Int)))
      (some (Out.ret (V.tup [V.d (D.int IntKind.i32 (65533 : Int)), V.d (D.int IntKind.i64 (1 : Int))]), []))) := by kernel_rfl

theorem b20_168 (n : Nat) (S : Caller) (r : List UInt8) :
    evBody cx S n 58 [.d (.str (168 :: r))] [] =
  must (decide ((0 : Int) < (↑(168 :: r).length : Int)))
    (must (decide ((0 : Int) < (↑(168 :: r).length : Int)))
      (some (Out.ret (V.tup [V.d (D.int IntKind.i32 (65533 : Int)), V.d (D.int IntKind.i64 (1 : Int))]), []))) := by kernel_rfl

theorem b20_169 (n : Nat) (S : Caller) (r : List UInt8) :
    evBody cx S n 58 [.d (.str (169 :: r))] [] =
  must (decide ((0 : Int) < (↑(169 :: r).length : Int)))
    (must (decide ((0 : Int) < (↑(169 :: r).length : Int)))
      (some (Out.ret (V.tup [V.d (D.int IntKind.i32 (65533 : Int)), V.d (D.int IntKind.i64 (1 : Int))]), []))) := by kernel_rfl

theorem b20_170 (n : Nat) (S : Caller) (r : List UInt8) :
    evBody cx S n 58 [.d (.str (170 :: r))] [] =
  must (decide ((0 : Int) < (↑(170 :: r).length : Int)))
    (must (decide ((0 : Int) < (↑(170 :: r).length : Int)))
      (some (Out.ret (V.tup [V.d (D.int IntKind.i32 (65533 : Int)), V.d (D.int IntKind.i64 (1 : Int))]), []))) := by kernel_rfl

theorem b20_171 (n : Nat) (S : Caller) (r : List UInt8) :
    evBody cx S n 58 [.d (.str (171 :: r))] [] =
  must (decide ((0 : Int) < (↑(171 :: r).length : Int)))
    (must (decide ((0 : Int) < (↑(171 :: r).length : Int)))
      (some (Out.ret (V.tup [V.d (D.int IntKind.i32 (65533 : Int)), V.d (D.int IntKind.i64 (1 : Int))]), []))) := by kernel_rfl

theorem b20_172 (n : Nat) (S : Caller) (r : List UInt8) :
    evBody cx S n 58 [.d (.str (172 :: r))] [] =
  must (decide ((0 : Int) < (↑(172 :: r).length : Int)))
    (must (decide ((0 : Int) < (↑(172 :: r).length : Int)))
      (some (Out.ret (V.tup [V.d (D.int IntKind.i32 (65533 : Int)), V.d (D.int IntKind.i64 (1 : Int))]), []))) := by kernel_rfl

theorem b20_173 (n : Nat) (S : Caller) (r : List UInt8) :
    evBody cx S n 58 [.d (.str (173 :: r))] [] =
  must (decide ((0 : Int) < (↑(173 :: r).length : Int)))
    (must (decide ((0 : Int) < (↑(173 :: r).length : Int)))
      (some (Out.ret (V.tup [V.d (D.int IntKind.i32 (65533 : Int)), V.d (D.int IntKind.i64 (1 : Int))]), []))) := by kernel_rfl

theorem b20_174 (n : Nat) (S : Caller) (r : List UInt8) :
    evBody cx S n 58 [.d (.str (174 :: r))] [] =
  must (decide ((0 : Int) < (↑(174 :: r).length : Int)))
    (must (decide ((0 : Int) < (↑(174 :: r).length : Int)))
      (some (Out.ret (V.tup [V.d (D.int IntKind.i32 (65533 : Int)), V.d (D.int IntKind.i64 (1 : Int))]), []))) := by kernel_rfl

theorem b20_175 (n : Nat) (S : Caller) (r : List UInt8) :
    evBody cx S n 58 [.d (.str (175 :: r))] [] =
  must (decide ((0 : Int) < (↑(175 :: r).length : Int)))
    (must (decide ((0 : Int) < (↑(175 :: r).length : Int)))
      (some (Out.ret (V.tup [V.d (D.int IntKind.i32 (65533 : Int)), V.d (D.int IntKind.i64 (1 : Int))]), []))) := by kernel_rfl

theorem b20_176 (n : Nat) (S : Caller) (r : List UInt8) :
    evBody cx S n 58 [.d (.str (176 :: r))] [] =
  must (decide ((0 : Int) < (↑(176 :: r).length : Int)))
    (must (decide ((0 : Int) < (↑(176 :: r).length : Int)))
      (some (Out.ret (V.tup [V.d (D.int IntKind.i32 (65533 : Int)), V.d (D.int IntKind.i64 (1 : Int))]), []))) := by kernel_rfl

theorem b20_177 (n : Nat) (S : Caller) (r : List UInt8) :
    evBody cx S n 58 [.d (.str (177 :: r))] [] =
  must (decide ((0 : Int) < (↑(177 :: r).length : Int)))
    (must (decide ((0 : Int) < (↑(177 :: r).length : Int)))
      (some (Out.ret (V.tup [V.d (D.int IntKind.i32 (65533 : Int)), V.d (D.int IntKind.i64 (1 : Int))]), []))) := by kernel_rfl

theorem b20_178 (n : Nat) (S : Caller) (r : List UInt8) :
    evBody cx S n 58 [.d (.str (178 :: r))] [] =
  must (decide ((0 : Int) < (↑(178 :: r).length : Int)))
    (must (decide ((0 : Int) < (↑(178 :: r).length : Int)))
      (some (Out.ret (V.tup [V.d (D.int IntKind.i32 (65533 : Int)), V.d (D.int IntKind.i64 (1 : Int))]), []))) := by kernel_rfl

theorem b20_179 (n : Nat) (S : Caller) (r : List UInt8) :
    evBody cx S n 58 [.d (.str (179 :: r))] [] =
  must (decide ((0 : Int) < (↑(179 :: r).length : Int)))
    (must (decide ((0 : Int) < (↑(179 :: r).length : Int)))
      (some (Out.ret (V.tup [V.d (D.int IntKind.i32 (65533 : Int)), V.d (D.int IntKind.i64 (1 : Int))]), []))) := by kernel_rfl

theorem b20_180 (n : Nat) (S : Caller) (r : List UInt8) :
    evBody cx S n 58 [.d (.str (180 :: r))] [] =
  must (decide ((0 : Int) < (↑(180 :: r).length : Int)))
    (must (decide ((0 : Int) < (↑(180 :: r).length : Int)))
      (some (Out.ret (V.tup [V.d (D.int IntKind.i32 (65533 : Int)), V.d (D.int IntKind.i64 (1 : Int))]), []))) := by kernel_rfl

theorem b20_181 (n : Nat) (S : Caller) (r : List UInt8) :
    evBody cx S n 58 [.d (.str (181 :: r))] [] =
  must (decide ((0 : Int) < (↑(181 :: r).length : Int)))
    (must (decide ((0 : Int) < (↑(181 :: r).length : Int)))
      (some (Out.ret (V.tup [V.d (D.int IntKind.i32 (65533 : Int)), V.d (D.int IntKind.i64 (1 : Int))]), []))) := by kernel_rfl

theorem b20_182 (n : Nat) (S : Caller) (r : List UInt8) :
    evBody cx S n 58 [.d (.str (182 :: r))] [] =
  must (decide ((0 : Int) < (↑(182 :: r).length : Int)))
    (must (decide ((0 : Int) < (↑(182 :: r).length : Int)))
      (some (Out.ret (V.tup [V.d (D.int IntKind.i32 (65533 : Int)), V.d (D.int IntKind.i64 (1 : Int))]), []))) := by kernel_rfl

theorem b20_183 (n : Nat) (S : Caller) (r : List UInt8) :
    evBody cx S n 58 [.d (.str (183 :: r))] [] =
  must (decide ((0 : Int) < (↑(183 :: r).length : Int)))
    (must (decide ((0 : Int) < (↑(183 :: r).length : Int)))
      (some (Out.ret (V.tup [V.d (D.int IntKind.i32 (65533 : Int)), V.d (D.int IntKind.i64 (1 : Int))]), []))) := by kernel_rfl

theorem b20_184 (n : Nat) (S : Caller) (r : List UInt8) :
    evBody cx S n 58 [.d (.str (184 :: r))] [] =
  must (decide ((0 : Int) < (↑(184 :: r).length : Int)))
    (must (decide ((0 : Int) < (↑(184 :: r).length : Int)))
      (some (Out.ret (V.tup [V.d (D.int IntKind.i32 (65533 : Int)), V.d (D.int IntKind.i64 (1 : Int))]), []))) := by kernel_rfl

theorem b20_185 (n : Nat) (S : Caller) (r : List UInt8) :
    evBody cx S n 58 [.d (.str (185 :: r))] [] =
  must (decide ((0 : Int) < (↑(185 :: r).length : Int)))
    (must (decide ((0 : Int) < (↑(185 :: r).length : Int)))
      (some (Out.ret (V.tup [V.d (D.int IntKind.i32 (65533 : Int)), V.d (D.int IntKind.i64 (1 : Int))]), []))) := by kernel_rfl

theorem b20_186 (n : Nat) (S : Caller) (r : List UInt8) :
    evBody cx S n 58 [.d (.str (186 :: r))] [] =
  must (decide ((0 : Int) < (↑(186 :: r).length : Int)))
    (must (decide ((0 : Int) < (↑(186 :: r).length : Int)))
      (some (Out.ret (V.tup [V.d (D.int IntKind.i32 (65533 : Int)), V.d (D.int IntKind.i64 (1 : Int))]), []))) := by kernel_rfl

theorem b20_187 (n : Nat) (S : Caller) (r : List UInt8) :
    evBody cx S n 58 [.d (.str (187 :: r))] [] =
  must (decide ((0 : Int) < (↑(187 :: r).length : Int)))
    (must (decide ((0 : Int) < (↑(187 :: r).length : Int)))
      (some (Out.ret (V.tup [V.d (D.int IntKind.i32 (65533 : Int)), V.d (D.int IntKind.i64 (1 : Int))]), []))) := by kernel_rfl

theorem b20_188 (n : Nat) (S : Caller) (r : List UInt8) :
    evBody cx S n 58 [.d (.str (188 :: r))] [] =
  must (decide ((0 : Int) < (↑(188 :: r).length : Int)))
    (must (decide ((0 : Int) < (↑(188 :: r).length : Int)))
      (some (Out.ret (V.tup [V.d (D.int IntKind.i32 (65533 : Int)), V.d (D.int IntKind.i64 (1 : Int))]), []))) := by kernel_rfl

theorem b20_189 (n : Nat) (S : Caller) (r : List UInt8) :
    evBody cx S n 58 [.d (.str (189 :: r))] [] =
  must (decide ((0 : Int) < (↑(189 :: r).length : Int)))
    (must (decide ((0 : Int) < (↑(189 :: r).length : Int)))
      (some (Out.ret (V.tup [V.d (D.int IntKind.i32 (65533 : Int)), V.d (D.int IntKind.i64 (1 : Int))]), []))) := by kernel_rfl

theorem b20_190 (n : Nat) (S : Caller) (r : List UInt8) :
    evBody cx S n 58 [.d (.str (190 :: r))] [] =
  must (decide ((0 : Int) < (↑(190 :: r).length : Int)))
    (must (decide ((0 : Int) < (↑(190 :: r).length : Int)))
      (some (Out.ret (V.tup [V.d (D.int IntKind.i32 (65533 : Int)), V.d (D.int IntKind.i64 (1 : Int))]), []))) := by kernel_rfl

theorem b20_191 (n : Nat) (S : Caller) (r : List UInt8) :
    evBody cx S n 58 [.d (.str (191 :: r))] [] =
  must (decide ((0 : Int) < (↑(191 :: r).length : Int)))
    (must (decide ((0 : Int) < (↑(191 :: r).length : Int)))
      (some (Out.ret (V.tup [V.d (D.int IntKind.i32 (65533 : Int)), V.d (D.int IntKind.i64 (1 : Int))]), []))) := by kernel_rfl

theorem b20_192 (n : Nat) (S : Caller) (r : List UInt8) :
    evBody cx S n 58 [.d (.str (192 :: r))] [] =
  must (decide ((0 : Int) < (↑(192 :: r).length : Int)))
    (must (decide ((0 : Int) < (↑(192 :: r).length : Int)))
      (some (Out.ret (V.tup [V.d (D.int IntKind.i32 (65533 : Int)), V.d (D.int IntKind.i64 (1 : Int))]), []))) := by kernel_rfl

theorem b20_193 (n : Nat) (S : Caller) (r : List UInt8) :
    evBody cx S n 58 [.d (.str (193 :: r))] [] =
  must (decide ((0 : Int) < (↑(193 :: r).length : Int)))
    (must (decide ((0 : Int) < (↑(193 :: r).length : Int)))
      (some (Out.ret (V.tup [V.d (D.int IntKind.i32 (65533 : Int)), V.d (D.int IntKind.i64 (1 : Int))]), []))) := by kernel_rfl

theorem b20_194 (n : Nat) (S : Caller) (r : List UInt8) :
    evBody cx S n 58 [.d (.str (194 :: r))] [] =
  must (decide ((0 : Int) < (↑(194 :: r).length : Int)))
    (bif decide ((↑(194 :: r).length : Int) < (2 : Int)) then
      some (Out.ret (V.tup [V.d (D.int IntKind.i32 (65533 : Int)), V.d (D.int IntKind.i64 (1 : Int))]), [])
    else
      must (decide ((1 : Int) < (↑(194 :: r).length : Int)))
        (optK (194 :: r)[(1 : Int).toNat]? fun b =>
          bif decide ((↑b.toNat : Int) < (128 : Int)) then
            some
              (Out.ret (V.tup [V.d (D.int IntKind.i32 (65533 : Int)), V.d (D.int IntKind.i64 (1 : Int))]), [])
          else
            bif decide ((191 : Int) < (↑b.toNat : Int)) then
              some
                (Out.ret (V.tup [V.d (D.int IntKind.i32 (65533 : Int)), V.d (D.int IntKind.i64 (1 : Int))]), [])
            else
              some
                (Out.ret
                    (V.tup
                      [V.d
                          (D.int IntKind.i32
                            (bitsI BinOp.or IntKind.i32 (128 : Int)
                              (IntKind.i32.wrap (bitsI BinOp.and IntKind.u8 (↑b.toNat : Int) (63 : Int))))),
                        V.d (D.int IntKind.i64 (2 : Int))]),
                  []))) := by kernel_rfl

theorem b20_195 (n : Nat) (S : Caller) (r : List UInt8) :
    evBody cx S n 58 [.d (.str (195 :: r))] [] =
  must (decide ((0 : Int) < (↑(195 :: r).length : Int)))
    (bif decide ((↑(195 :: r).length : Int) < (2 : Int)) then
      some (Out.ret (V.tup [V.d (D.int IntKind.i32 (65533 : Int)), V.d (D.int IntKind.i64 (1 : Int))]), [])
    else
      must (decide ((1 : Int) < (↑(195 :: r).length : Int)))
        (optK (195 :: r)[(1 : Int).toNat]? fun b =>
          bif decide ((↑b.toNat : Int) < (128 : Int)) then
            some
              (Out.ret (V.tup [V.d (D.int IntKind.i32 (65533 : Int)), V.d (D.int IntKind.i64 (1 : Int))]), [])
          else
            bif decide ((191 : Int) < (↑b.toNat : Int)) then
              some
                (Out.ret (V.tup [V.d (D.int IntKind.i32 (65533 : Int)), V.d (D.int IntKind.i64 (1 : Int))]), [])
            else
              some
                (Out.ret
                    (V.tup
                      [V.d
                          (D.int IntKind.i32
                            (bitsI BinOp.or IntKind.i32 (192 : Int)
                              (IntKind.i32.wrap (bitsI BinOp.and IntKind.u8 (↑b.toNat : Int) (63 : Int))))),
                        V.d (D.int IntKind.i64 (2 : Int))]),
                  []))) := by kernel_rfl

theorem b20_196 (n : Nat) (S : Caller) (r : List UInt8) :
    evBody cx S n 58 [.d (.str (196 :: r))] [] =
  must (decide ((0 : Int) < (↑(196 :: r).length : Int)))
    (bif decide ((↑(196 :: r).length : Int) < (2 : Int)) then
      some (Out.ret (V.tup [V.d (D.int IntKind.i32 (65533 : Int)), V.d (D.int IntKind.i64 (1 : Int))]), [])
    else
      must (decide ((1 : Int) < (↑(196 :: r).length : Int)))
        (optK (196 :: r)[(1 : Int).toNat]? fun b =>
          bif decide ((↑b.toNat : Int) < (128 : Int)) then
            some
              (Out.ret (V.tup [V.d (D.int IntKind.i32 (65533 : Int)), V.d (D.int IntKind.i64 (1 : Int))]), [])
          else
            bif decide ((191 : Int) < (↑b.toNat : Int)) then
              some
                (Out.ret (V.tup [V.d (D.int IntKind.i32 (65533 : Int)), V.d (D.int IntKind.i64 (1 : Int))]), [])
            else
              some
                (Out.ret
                    (V.tup
                      [V.d
                          (D.int IntKind.i32
                            (bitsI BinOp.or IntKind.i32 (256 : Int)
                              (IntKind.i32.wrap (bitsI BinOp.and IntKind.u8 (↑b.toNat : Int) (63 : Int))))),
                        V.d (D.int IntKind.i64 (2 : Int))]),
                  []))) := by kernel_rfl

theorem b20_197 (n : Nat) (S : Caller) (r : List UInt8) :
    evBody cx S n 58 [.d (.str (197 :: r))] [] =
  must (decide ((0 : Int) < (↑(197 :: r).length : Int)))
    (bif decide ((↑(197 :: r).length : Int) < (2 : Int)) then
      some (Out.ret (V.tup [V.d (D.int IntKind.i32 (65533 : Int)), V.d (D.int IntKind.i64 (1 : Int))]), [])
    else
      must (decide ((1 : Int) < (↑(197 :: r).length : Int)))
        (optK (197 :: r)[(1 : Int).toNat]? fun b =>
          bif decide ((↑b.toNat : Int) < (128 : Int)) then
            some
              (Out.ret (V.tup [V.d (D.int IntKind.i32 (65533 : Int)), V.d (D.int IntKind.i64 (1 : Int))]), [])
          else
            bif decide ((191 : Int) < (↑b.toNat : Int)) then
              some
                (Out.ret (V.tup [V.d (D.int IntKind.i32 (65533 : Int)), V.d (D.int IntKind.i64 (1 : Int))]), [])
            else
              some
                (Out.ret
                    (V.tup
                      [V.d
                          (D.int IntKind.i32
                            (bitsI BinOp.or IntKind.i32 (320 : Int)
                              (IntKind.i32.wrap (bitsI BinOp.and IntKind.u8 (↑b.toNat : Int) (63 : Int))))),
                        V.d (D.int IntKind.i64 (2 : Int))]),
                  []))) := by kernel_rfl

theorem b20_198 (n : Nat) (S : Caller) (r : List UInt8) :
    evBody cx S n 58 [.d (.str (198 :: r))] [] =
  must (decide ((0 : Int) < (↑(198 :: r).length : Int)))
    (bif decide ((↑(198 :: r).length : Int) < (2 : Int)) then
      some (Out.ret (V.tup [V.d (D.int IntKind.i32 (65533 : Int)), V.d (D.int IntKind.i64 (1 : Int))]), [])
    else
      must (decide ((1 : Int) < (↑(198 :: r).length : Int)))
        (optK (198 :: r)[(1 : Int).toNat]? fun b =>
          bif decide ((↑b.toNat : Int) < (128 : Int)) then
            some
              (Out.ret (V.tup [V.d (D.int IntKind.i32 (65533 : Int)), V.d (D.int IntKind.i64 (1 : Int))]), [])
          else
            bif decide ((191 : Int) < (↑b.toNat : Int)) then
              some
                (Out.ret (V.tup [V.d (D.int IntKind.i32 (65533 : Int)), V.d (D.int IntKind.i64 (1 : Int))]), [])
            else
              some
                (Out.ret
                    (V.tup
                      [V.d
                          (D.int IntKind.i32
                            (bitsI BinOp.or IntKind.i32 (384 : Int)
                              (IntKind.i32.wrap (bitsI BinOp.and IntKind.u8 (↑b.toNat : Int) (63 : Int))))),
                        V.d (D.int IntKind.i64 (2 : Int))]),
                  []))) := by kernel_rfl

theorem b20_199 (n : Nat) (S : Caller) (r : List UInt8) :
    evBody cx S n 58 [.d (.str (199 :: r))] [] =
  must (decide ((0 : Int) < (↑(199 :: r).length : Int)))
    (bif decide ((↑(199 :: r).length : Int) < (2 : Int)) then
      some (Out.ret (V.tup [V.d (D.int IntKind.i32 (65533 : Int)), V.d (D.int IntKind.i64 (1 : Int))]), [])
    else
      must (decide ((1 : Int) < (↑(199 :: r).length : Int)))
        (optK (199 :: r)[(1 : Int).toNat]? fun b =>
          bif decide ((↑b.toNat : Int) < (128 : Int)) then
            some
              (Out.ret (V.tup [V.d (D.int IntKind.i32 (65533 : Int)), V.d (D.int IntKind.i64 (1 : Int))]), [])
          else
            bif decide ((191 : Int) < (↑b.toNat : Int)) then
              some
                (Out.ret (V.tup [V.d (D.int IntKind.i32 (65533 : Int)), V.d (D.int IntKind.i64 (1 : Int))]), [])
            else
              some
                (Out.ret
                    (V.tup
                      [V.d
                          (D.int IntKind.i32
                            (bitsI BinOp.or IntKind.i32 (448 : Int)
                              (IntKind.i32.wrap (bitsI BinOp.and IntKind.u8 (↑b.toNat : Int) (63 : Int))))),
                        V.d (D.int IntKind.i64 (2 : Int))]),
                  []))) := by kernel_rfl

theorem b20_200 (n : Nat) (S : Caller) (r : List UInt8) :
    evBody cx S n 58 [.d (.str (200 :: r))] [] =
  must (decide ((0 : Int) < (↑(200 :: r).length : Int)))
    (bif decide ((↑(200 :: r).length : Int) < (2 : Int)) then
      some (Out.ret (V.tup [V.d (D.int IntKind.i32 (65533 : Int)), V.d (D.int IntKind.i64 (1 : Int))]), [])
    else
      must (decide ((1 : Int) < (↑(200 :: r).length : Int)))
        (optK (200 :: r)[(1 : Int).toNat]? fun b =>
          bif decide ((↑b.toNat : Int) < (128 : Int)) then
            some
              (Out.ret (V.tup [V.d (D.int IntKind.i32 (65533 : Int)), V.d (D.int IntKind.i64 (1 : Int))]), [])
          else
            bif decide ((191 : Int) < (↑b.toNat : Int)) then
              some
                (Out.ret (V.tup [V.d (D.int IntKind.i32 (65533 : Int)), V.d (D.int IntKind.i64 (1 : Int))]), [])
            else
              some
                (Out.ret
                    (V.tup
                      [V.d
                          (D.int IntKind.i32
                            (bitsI BinOp.or IntKind.i32 (512 : Int)
                              (IntKind.i32.wrap (bitsI BinOp.and IntKind.u8 (↑b.toNat : Int) (63 : Int))))),
                        V.d (D.int IntKind.i64 (2 : Int))]),
                  []))) := by kernel_rfl

theorem b20_201 (n : Nat) (S : Caller) (r : List UInt8) :
    evBody cx S n 58 [.d (.str (201 :: r))] [] =
  must (decide ((0 : Int) < (↑(201 :: r).length : Int)))
    (bif decide ((↑(201 :: r).length : Int) < (2 : Int)) then
      some (Out.ret (V.tup [V.d (D.int IntKind.i32 (65533 : Int)), V.d (D.int IntKind.i64 (1 : Int))]), [])
    else
      must (decide ((1 : Int) < (↑(201 :: r).length : Int)))
        (optK (201 :: r)[(1 : Int).toNat]? fun b =>
          bif decide ((↑b.toNat : Int) < (128 : Int)) then
            some
              (Out.ret (V.tup [V.d (D.int IntKind.i32 (65533 : Int)), V.d (D.int IntKind.i64 (1 : Int))]), [])
          else
            bif decide ((191 : Int) < (↑b.toNat : Int)) then
              some
                (Out.ret (V.tup [V.d (D.int IntKind.i32 (65533 : Int)), V.d (D.int IntKind.i64 (1 : Int))]), [])
            else
              some
                (Out.ret
                    (V.tup
                      [V.d
                          (D.int IntKind.i32
                            (bitsI BinOp.or IntKind.i32 (576 : Int)
                              (IntKind.i32.wrap (bitsI BinOp.and IntKind.u8 (↑b.toNat : Int) (63 : Int))))),
                        V.d (D.int IntKind.i64 (2 : Int))]),
                  []))) := by kernel_rfl

theorem b20_202 (n : Nat) (S : Caller) (r : List UInt8) :
    evBody cx S n 58 [.d (.str (202 :: r))] [] =
  must (decide ((0 : Int) < (↑(202 :: r).length : Int)))
    (bif decide ((↑(202 :: r).length : Int) < (2 : Int)) then
      some (Out.ret (V.tup [V.d (D.int IntKind.i32 (65533 : Int)), V.d (D.int IntKind.i64 (1 : Int))]), [])
    else
      must (decide ((1 : Int) < (↑(202 :: r).length : Int)))
        (optK (202 :: r)[(1 : Int).toNat]? fun b =>
          bif decide ((↑b.toNat : Int) < (128 : Int)) then
            some
              (Out.ret (V.tup [V.d (D.int IntKind.i32 (65533 : Int)), V.d (D.int IntKind.i64 (1 : Int))]), [])
          else
            bif decide ((191 : Int) < (↑b.toNat : Int)) then
              some
                (Out.ret (V.tup [V.d (D.int IntKind.i32 (65533 : Int)), V.d (D.int IntKind.i64 (1 : Int))]), [])
            else
              some
                (Out.ret
                    (V.tup
                      [V.d
                          (D.int IntKind.i32
                            (bitsI BinOp.or IntKind.i32 (640 : Int)
                              (IntKind.i32.wrap (bitsI BinOp.and IntKind.u8 (↑b.toNat : Int) (63 : Int))))),
                        V.d (D.int IntKind.i64 (2 : Int))]),
                  []))) := by kernel_rfl

theorem b20_203 (n : Nat) (S : Caller) (r : List UInt8) :
    evBody cx S n 58 [.d (.str (203 :: r))] [] =
  must (decide ((0 : Int) < (↑(203 :: r).length : Int)))
    (bif decide ((↑(203 :: r).length : Int) < (2 : Int)) then
      some (Out.ret (V.tup [V.d (D.int IntKind.i32 (65533 : Int)), V.d (D.int IntKind.i64 (1 : Int))]), [])
    else
      must (decide ((1 : Int) < (↑(203 :: r).length : Int)))
        (optK (203 :: r)[(1 : Int).toNat]? fun b =>
          bif decide ((↑b.toNat : Int) < (128 : Int)) then
            some
              (Out.ret (V.tup [V.d (D.int IntKind.i32 (65533 : Int)), V.d (D.int IntKind.i64 (1 : Int))]), [])
          else
            bif decide ((191 : Int) < (↑b.toNat : Int)) then
              some
                (Out.ret (V.tup [V.d (D.int IntKind.i32 (65533 : Int)), V.d (D.int IntKind.i64 (1 : Int))]), [])
            else
              some
                (Out.ret
                    (V.tup
                      [V.d
                          (D.int IntKind.i32
                            (bitsI BinOp.or IntKind.i32 (704 : Int)
                              (IntKind.i32.wrap (bitsI BinOp.and IntKind.u8 (↑b.toNat : Int) (63 : Int))))),
                        V.d (D.int IntKind.i64 (2 : Int))]),
                  []))) := by kernel_rfl

theorem b20_204 (n : Nat) (S : Caller) (r : List UInt8) :
    evBody cx S n 58 [.d (.str (204 :: r))] [] =
  must (decide ((0 : Int) < (↑(204 :: r).length : Int)))
    (bif decide ((↑(204 :: r).length : Int) < (2 : Int)) then
      some (Out.ret (V.tup [V.d (D.int IntKind.i32 (65533 : Int)), V.d (D.int IntKind.i64 (1 : Int))]), [])
    else
      must (decide ((1 : Int) < (↑(204 :: r).length : Int)))
        (optK (204 :: r)[(1 : Int).toNat]? fun b =>
          bif decide ((↑b.toNat : Int) < (128 : Int)) then
            some
              (Out.ret (V.tup [V.d (D.int IntKind.i32 (65533 : Int)), V.d (D.int IntKind.i64 (1 : Int))]), [])
          else
            bif decide ((191 : Int) < (↑b.toNat : Int)) then
              some
                (Out.ret (V.tup [V.d (D.int IntKind.i32 (65533 : Int)), V.d (D.int IntKind.i64 (1 : Int))]), [])
            else
              some
                (Out.ret
                    (V.tup
                      [V.d
                          (D.int IntKind.i32
                            (bitsI BinOp.or IntKind.i32 (768 : Int)
                              (IntKind.i32.wrap (bitsI BinOp.and IntKind.u8 (↑b.toNat : Int) (63 : Int))))),
                        V.d (D.int IntKind.i64 (2 : Int))]),
                  []))) := by kernel_rfl

theorem b20_205 (n : Nat) (S : Caller) (r : List UInt8) :
    evBody cx S n 58 [.d (.str (205 :: r))] [] =
  must (decide ((0 : Int) < (↑(205 :: r).length : Int)))
    (bif decide ((↑(205 :: r).length : Int) < (2 : Int)) then
      some (Out.ret (V.tup [V.d (D.int IntKind.i32 (65533 : Int)), V.d (D.int IntKind.i64 (1 : Int))]), [])
    else
      must (decide ((1 : Int) < (↑(205 :: r).length : Int)))
        (optK (205 :: r)[(1 : Int).toNat]? fun b =>
          bif decide ((↑b.toNat : Int) < (128 : Int)) then
            some
              (Out.ret (V.tup [V.d (D.int IntKind.i32 (65533 : Int)), V.d (D.int IntKind.i64 (1 : Int))]), [])
          else
            bif decide ((191 : Int) < (↑b.toNat : Int)) then
              some
                (Out.ret (V.tup [V.d (D.int IntKind.i32 (65533 : Int)), V.d (D.int IntKind.i64 (1 : Int))]), [])
            else
              some
                (Out.ret
                    (V.tup
                      [V.d
                          (D.int IntKind.i32
                            (bitsI BinOp.or IntKind.i32 (832 : Int)
                              (IntKind.i32.wrap (bitsI BinOp.and IntKind.u8 (↑b.toNat : Int) (63 : Int))))),
                        V.d (D.int IntKind.i64 (2 : Int))]),
                  []))) := by kernel_rfl

theorem b20_206 (n : Nat) (S : Caller) (r : List UInt8) :
    evBody cx S n 58 [.d (.str (206 :: r))] [] =
  must (decide ((0 : Int) < (↑(206 :: r).length : Int)))
    (bif decide ((↑(206 :: r).length : Int) < (2 : Int)) then
      some (Out.ret (V.tup [V.d (D.int IntKind.i32 (65533 : Int)), V.d (D.int IntKind.i64 (1 : Int))]), [])
    else
      must (decide ((1 : Int) < (↑(206 :: r).length : Int)))
        (optK (206 :: r)[(1 : Int).toNat]? fun b =>
          bif decide ((↑b.toNat : Int) < (128 : Int)) then
            some
              (Out.ret (V.tup [V.d (D.int IntKind.i32 (65533 : Int)), V.d (D.int IntKind.i64 (1 : Int))]), [])
          else
            bif decide ((191 : Int) < (↑b.toNat : Int)) then
              some
                (Out.ret (V.tup [V.d (D.int IntKind.i32 (65533 : Int)), V.d (D.int IntKind.i64 (1 : Int))]), [])
            else
              some
                (Out.ret
                    (V.tup
                      [V.d
                          (D.int IntKind.i32
                            (bitsI BinOp.or IntKind.i32 (896 : Int)
                              (IntKind.i32.wrap (bitsI BinOp.and IntKind.u8 (↑b.toNat : Int) (63 : Int))))),
                        V.d (D.int IntKind.i64 (2 : Int))]),
                  []))) := by kernel_rfl

theorem b20_207 (n : Nat) (S : Caller) (r : List UInt8) :
    evBody cx S n 58 [.d (.str (207 :: r))] [] =
  must (decide ((0 : Int) < (↑(207 :: r).length : Int)))
    (bif decide ((↑(207 :: r).length : Int) < (2 : Int)) then
      some (Out.ret (V.tup [V.d (D.int IntKind.i32 (65533 : Int)), V.d (D.int IntKind.i64 (1 : Int))]), [])
    else
      must (decide ((1 : Int) < (↑(207 :: r).length : Int)))
        (optK (207 :: r)[(1 : Int).toNat]? fun b =>
          bif decide ((↑b.toNat : Int) < (128 : Int)) then
            some
              (Out.ret (V.tup [V.d (D.int IntKind.i32 (65533 : Int)), V.d (D.int IntKind.i64 (1 : Int))]), [])
          else
            bif decide ((191 : Int) < (↑b.toNat : Int)) then
              some
                (Out.ret (V.tup [V.d (D.int IntKind.i32 (65533 : Int)), V.d (D.int IntKind.i64 (1 : Int))]), [])
            else
              some
                (Out.ret
                    (V.tup
                      [V.d
                          (D.int IntKind.i32
                            (bitsI BinOp.or IntKind.i32 (960 : Int)
                              (IntKind.i32.wrap (bitsI BinOp.and IntKind.u8 (↑b.toNat : Int) (63 : Int))))),
                        V.d (D.int IntKind.i64 (2 : Int))]),
                  []))) := by kernel_rfl

theorem b20_208 (n : Nat) (S : Caller) (r : List UInt8) :
    evBody cx S n 58 [.d (.str (208 :: r))] [] =
  must (decide ((0 : Int) < (↑(208 :: r).length : Int)))
    (bif decide ((↑(208 :: r).length : Int) < (2 : Int)) then
      some (Out.ret (V.tup [V.d (D.int IntKind.i32 (65533 : Int)), V.d (D.int IntKind.i64 (1 : Int))]), [])
    else
      must (decide ((1 : Int) < (↑(208 :: r).length : Int)))
        (optK (208 :: r)[(1 : Int).toNat]? fun b =>
          bif decide ((↑b.toNat : Int) < (128 : Int)) then
            some
              (Out.ret (V.tup [V.d (D.int IntKind.i32 (65533 : Int)), V.d (D.int IntKind.i64 (1 : Int))]), [])
          else
            bif decide ((191 : Int) < (↑b.toNat : Int)) then
              some
                (Out.ret (V.tup [V.d (D.int IntKind.i32 (65533 : Int)), V.d (D.int IntKind.i64 (1 : Int))]), [])
            else
              some
                (Out.ret
                    (V.tup
                      [V.d
                          (D.int IntKind.i32
                            (bitsI BinOp.or IntKind.i32 (1024 : Int)
                              (IntKind.i32.wrap (bitsI BinOp.and IntKind.u8 (↑b.toNat : Int) (63 : Int))))),
                        V.d (D.int IntKind.i64 (2 : Int))]),
                  []))) := by kernel_rfl

theorem b20_209 (n : Nat) (S : Caller) (r : List UInt8) :
    evBody cx S n 58 [.d (.str (209 :: r))] [] =
  must (decide ((0 : Int) < (↑(209 :: r).length : Int)))
    (bif decide ((↑(209 :: r).length : Int) < (2 : Int)) then
      some (Out.ret (V.tup [V.d (D.int IntKind.i32 (65533 : Int)), V.d (D.int IntKind.i64 (1 : Int))]), [])
    else
      must (decide ((1 : Int) < (↑(209 :: r).length : Int)))
        (optK (209 :: r)[(1 : Int).toNat]? fun b =>
          bif decide ((↑b.toNat : Int) < (128 : Int)) then
            some
              (Out.ret (V.tup [V.d (D.int IntKind.i32 (65533 : Int)), V.d (D.int IntKind.i64 (1 : Int))]), [])
          else
            bif decide ((191 : Int) < (↑b.toNat : Int)) then
              some
                (Out.ret (V.tup [V.d (D.int IntKind.i32 (65533 : Int)), V.d (D.int IntKind.i64 (1 : Int))]), [])
            else
              some
                (Out.ret
                    (V.tup
                      [V.d
                          (D.int IntKind.i32
                            (bitsI BinOp.or IntKind.i32 (1088 : Int)
                              (IntKind.i32.wrap (bitsI BinOp.and IntKind.u8 (↑b.toNat : Int) (63 : Int))))),
                        V.d (D.int IntKind.i64 (2 : Int))]),
                  []))) := by kernel_rfl

theorem b20_210 (n : Nat) (S : Caller) (r : List UInt8) :
    evBody cx S n 58 [.d (.str (210 :: r))] [] =
  must (decide ((0 : Int) < (↑(210 :: r).length : Int)))
    (bif decide ((↑(210 :: r).length : Int) < (2 : Int)) then
      some (Out.ret (V.tup [V.d (D.int IntKind.i32 (65533 : Int)), V.d (D.int IntKind.i64 (1 : Int))]), [])
    else
      must (decide ((1 : Int) < (↑(210 :: r).length : Int)))
        (optK (210 :: r)[(1 : Int).toNat]? fun b =>
          bif decide ((↑b.toNat : Int) < (128 : Int)) then
            some
              (Out.ret (V.tup [V.d (D.int IntKind.i32 (65533 : Int)), V.d (D.int IntKind.i64 (1 : Int))]), [])
          else
            bif decide ((191 : Int) < (↑b.toNat : Int)) then
              some
                (Out.ret (V.tup [V.d (D.int IntKind.i32 (65533 : Int)), V.d (D.int IntKind.i64 (1 : Int))]), [])
            else
              some
                (Out.ret
                    (V.tup
                      [V.d
                          (D.int IntKind.i32
                            (bitsI BinOp.or IntKind.i32 (1152 : Int)
                              (IntKind.i32.wrap (bitsI BinOp.and IntKind.u8 (↑b.toNat : Int) (63 : Int))))),
                        V.d (D.int IntKind.i64 (2 : Int))]),
                  []))) := by kernel_rfl

theorem b20_211 (n : Nat) (S : Caller) (r : List UInt8) :
    evBody cx S n 58 [.d (.str (211 :: r))] [] =
  must (decide ((0 : Int) < (↑(211 :: r).length : Int)))
    (bif decide ((↑(211 :: r).length : Int) < (2 : Int)) then
      some (Out.ret (V.tup [V.d (D.int IntKind.i32 (65533 : Int)), V.d (D.int IntKind.i64 (1 : Int))]), [])
    else
      must (decide ((1 : Int) < (↑(211 :: r).length : Int)))
        (optK (211 :: r)[(1 : Int).toNat]? fun b =>
          bif decide ((↑b.toNat : Int) < (128 : Int)) then
            some
              (Out.ret (V.tup [V.d (D.int IntKind.i32 (65533 : Int)), V.d (D.int IntKind.i64 (1 : Int))]), [])
          else
            bif decide ((191 : Int) < (↑b.toNat : Int)) then
              some
                (Out.ret (V.tup [V.d (D.int IntKind.i32 (65533 : Int)), V.d (D.int IntKind.i64 (1 : Int))]), [])
            else
              some
                (Out.ret
                    (V.tup
                      [V.d
                          (D.int IntKind.i32
                            (bitsI BinOp.or IntKind.i32 (1216 : Int)
                              (IntKind.i32.wrap (bitsI BinOp.and IntKind.u8 (↑b.toNat : Int) (63 : Int))))),
                        V.d (D.int IntKind.i64 (2 : Int))]),
                  []))) := by kernel_rfl

theorem b20_212 (n : Nat) (S : Caller) (r : List UInt8) :
    evBody cx S n 58 [.d (.str (212 :: r))] [] =
  must (decide ((0 : Int) < (↑(212 :: r).length : Int)))
    (bif decide ((↑(212 :: r).length : Int) < (2 : Int)) then
      some (Out.ret (V.tup [V.d (D.int IntKind.i32 (65533 : Int)), V.d (D.int IntKind.i64 (1 : Int))]), [])
    else
      must (decide ((1 : Int) < (↑(212 :: r).length : Int)))
        (optK (212 :: r)[(1 : Int).toNat]? fun b =>
          bif decide ((↑b.toNat : Int) < (128 : Int)) then
            some
              (Out.ret (V.tup [V.d (D.int IntKind.i32 (65533 : Int)), V.d (D.int IntKind.i64 (1 : Int))]), [])
          else
            bif decide ((191 : Int) < (↑b.toNat : Int)) then
              some
                (Out.ret (V.tup [V.d (D.int IntKind.i32 (65533 : Int)), V.d (D.int IntKind.i64 (1 : Int))]), [])
            else
              some
                (Out.ret
                    (V.tup
                      [V.d
                          (D.int IntKind.i32
                            (bitsI BinOp.or IntKind.i32 (1280 : Int)
                              (IntKind.i32.wrap (bitsI BinOp.and IntKind.u8 (↑b.toNat : Int) (63 : Int))))),
                        V.d (D.int IntKind.i64 (2 : Int))]),
                  []))) := by kernel_rfl

theorem b20_213 (n : Nat) (S : Caller) (r : List UInt8) :
    evBody cx S n 58 [.d (.str (213 :: r))] [] =
  must (decide ((0 : Int) < (↑(213 :: r).length : Int)))
    (bif decide ((↑(213 :: r).length : Int) < (2 : Int)) then
      some (Out.ret (V.tup [V.d (D.int IntKind.i32 (65533 : Int)), V.d (D.int IntKind.i64 (1 : Int))]), [])
    else
      must (decide ((1 : Int) < (↑(213 :: r).length : Int)))
        (optK (213 :: r)[(1 : Int).toNat]? fun b =>
          bif decide ((↑b.toNat : Int) < (128 : Int)) then
            some
              (Out.ret (V.tup [V.d (D.int IntKind.i32 (65533 : Int)), V.d (D.int IntKind.i64 (1 : Int))]), [])
          else
            bif decide ((191 : Int) < (↑b.toNat : Int)) then
              some
                (Out.ret (V.tup [V.d (D.int IntKind.i32 (65533 : Int)), V.d (D.int IntKind.i64 (1 : Int))]), [])
            else
              some
                (Out.ret
                    (V.tup
                      [V.d
                          (D.int IntKind.i32
                            (bitsI BinOp.or IntKind.i32 (1344 : Int)
                              (IntKind.i32.wrap (bitsI BinOp.and IntKind.u8 (↑b.toNat : Int) (63 : Int))))),
                        V.d (D.int IntKind.i64 (2 : Int))]),
                  []))) := by kernel_rfl

theorem b20_214 (n : Nat) (S : Caller) (r : List UInt8) :
    evBody cx S n 58 [.d (.str (214 :: r))] [] =
  must (decide ((0 : Int) < (↑(214 :: r).length : Int)))
    (bif decide ((↑(214 :: r).length : Int) < (2 : Int)) then
      some (Out.ret (V.tup [V.d (D.int IntKind.i32 (65533 : Int)), V.d (D.int IntKind.i64 (1 : Int))]), [])
    else
      must (decide ((1 : Int) < (↑(214 :: r).length : Int)))
        (optK (214 :: r)[(1 : Int).toNat]? fun b =>
          bif decide ((↑b.toNat : Int) < (128 : Int)) then
            some
              (Out.ret (V.tup [V.d (D.int IntKind.i32 (65533 : Int)), V.d (D.int IntKind.i64 (1 : Int))]), [])
          else
            bif decide ((191 : Int) < (↑b.toNat : Int)) then
              some
                (Out.ret (V.tup [V.d (D.int IntKind.i32 (65533 : Int)), V.d (D.int IntKind.i64 (1 : Int))]), [])
            else
              some
                (Out.ret
                    (V.tup
                      [V.d
                          (D.int IntKind.i32
                            (bitsI BinOp.or IntKind.i32 (1408 : Int)
                              (IntKind.i32.wrap (bitsI BinOp.and IntKind.u8 (↑b.toNat : Int) (63 : Int))))),
                        V.d (D.int IntKind.i64 (2 : Int))]),
                  []))) := by kernel_rfl

theorem b20_215 (n : Nat) (S : Caller) (r : List UInt8) :
    evBody cx S n 58 [.d (.str (215 :: r))] [] =
  must (decide ((0 : Int) < (↑(215 :: r).length : Int)))
    (bif decide ((↑(215 :: r).length : Int) < (2 : Int)) then
      some (Out.ret (V.tup [V.d (D.int IntKind.i32 (65533 : Int)), V.d (D.int IntKind.i64 (1 : Int))]), [])
    else
      must (decide ((1 : Int) < (↑(215 :: r).length : Int)))
        (optK (215 :: r)[(1 : Int).toNat]? fun b =>
          bif decide ((↑b.toNat : Int) < (128 : Int)) then
            some
              (Out.ret (V.tup [V.d (D.int IntKind.i32 (65533 : Int)), V.d (D.int IntKind.i64 (1 : Int))]), [])
          else
            bif decide ((191 : Int) < (↑b.toNat : Int)) then
              some
                (Out.ret (V.tup [V.d (D.int IntKind.i32 (65533 : Int)), V.d (D.int IntKind.i64 (1 : Int))]), [])
            else
              some
                (Out.ret
                    (V.tup
                      [V.d
                          (D.int IntKind.i32
                            (bitsI BinOp.or IntKind.i32 (1472 : Int)
                              (IntKind.i32.wrap (bitsI BinOp.and IntKind.u8 (↑b.toNat : Int) (63 : Int))))),
                        V.d (D.int IntKind.i64 (2 : Int))]),
                  []))) := by kernel_rfl

theorem b20_216 (n : Nat) (S : Caller) (r : List UInt8) :
    evBody cx S n 58 [.d (.str (216 :: r))] [] =
  must (decide ((0 : Int) < (↑(216 :: r).length : Int)))
    (bif decide ((↑(216 :: r).length : Int) < (2 : Int)) then
      some (Out.ret (V.tup [V.d (D.int IntKind.i32 (65533 : Int)), V.d (D.int IntKind.i64 (1 : Int))]), [])
    else
      must (decide ((1 : Int) < (↑(216 :: r).length : Int)))
        (optK (216 :: r)[(1 : Int).toNat]? fun b =>
          bif decide ((↑b.toNat : Int) < (128 : Int)) then
            some
              (Out.ret (V.tup [V.d (D.int IntKind.i32 (65533 : Int)), V.d (D.int IntKind.i64 (1 : Int))]), [])
          else
            bif decide ((191 : Int) < (↑b.toNat : Int)) then
              some
                (Out.ret (V.tup [V.d (D.int IntKind.i32 (65533 : Int)), V.d (D.int IntKind.i64 (1 : Int))]), [])
            else
              some
                (Out.ret
                    (V.tup
                      [V.d
                          (D.int IntKind.i32
                            (bitsI BinOp.or IntKind.i32 (1536 : Int)
                              (IntKind.i32.wrap (bitsI BinOp.and IntKind.u8 (↑b.toNat : Int) (63 : Int))))),
                        V.d (D.int IntKind.i64 (2 : Int))]),
                  []))) := by kernel_rfl

theorem b20_217 (n : Nat) (S : Caller) (r : List UInt8) :
    evBody cx S n 58 [.d (.str (217 :: r))] [] =
  must (decide ((0 : Int) < (↑(217 :: r).length : Int)))
    (bif decide ((↑(217 :: r).length : Int) < (2 : Int)) then
      some (Out.ret (V.tup [V.d (D.int IntKind.i32 (65533 : Int)), V.d (D.int IntKind.i64 (1 : Int))]), [])
    else
      must (decide ((1 : Int) < (↑(217 :: r).length : Int)))
        (optK (217 :: r)[(1 : Int).toNat]? fun b =>
          bif decide ((↑b.toNat : Int) < (128 : Int)) then
            some
              (Out.ret (V.tup [V.d (D.int IntKind.i32 (65533 : Int)), V.d (D.int IntKind.i64 (1 : Int))]), [])
          else
            bif decide ((191 : Int) < (↑b.toNat : Int)) then
              some
                (Out.ret (V.tup [V.d (D.int IntKind.i32 (65533 : Int)), V.d (D.int IntKind.i64 (1 : Int))]), [])
            else
              some
                (Out.ret
                    (V.tup
                      [V.d
                          (D.int IntKind.i32
                            (bitsI BinOp.or IntKind.i32 (1600 : Int)
                              (IntKind.i32.wrap (bitsI BinOp.and IntKind.u8 (↑b.toNat : Int) (63 : Int))))),
                        V.d (D.int IntKind.i64 (2 : Int))]),
                  []))) := by kernel_rfl

theorem b20_218 (n : Nat) (S : Caller) (r : List UInt8) :
    evBody cx S n 58 [.d (.str (218 :: r))] [] =
  must (decide ((0 : Int) < (↑(218 :: r).length : Int)))
    (bif decide ((↑(218 :: r).length : Int) < (2 : Int)) then
      some (Out.ret (V.tup [V.d (D.int IntKind.i32 (65533 : Int)), V.d (D.int IntKind.i64 (1 : Int))]), [])
    else
      must (decide ((1 : Int) < (↑(218 :: r).length : Int)))
        (optK (218 :: r)[(1 : Int).toNat]? fun b =>
          bif decide ((↑b.toNat : Int) < (128 : Int)) then
            some
              (Out.ret (V.tup [V.d (D.int IntKind.i32 (65533 : Int)), V.d (D.int IntKind.i64 (1 : Int))]), [])
          else
            bif decide ((191 : Int) < (↑b.toNat : Int)) then
              some
                (Out.ret (V.tup [V.d (D.int IntKind.i32 (65533 : Int)), V.d (D.int IntKind.i64 (1 : Int))]), [])
            else
              some
                (Out.ret
                    (V.tup
                      [V.d
                          (D.int IntKind.i32
                            (bitsI BinOp.or IntKind.i32 (1664 : Int)
                              (IntKind.i32.wrap (bitsI BinOp.and IntKind.u8 (↑b.toNat : Int) (63 : Int))))),
                        V.d (D.int IntKind.i64 (2 : Int))]),
                  []))) := by kernel_rfl

theorem b20_219 (n : Nat) (S : Caller) (r : List UInt8) :
    evBody cx S n 58 [.d (.str (219 :: r))] [] =
  must (decide ((0 : Int) < (↑(219 :: r).length : Int)))
    (bif decide ((↑(219 :: r).length : Int) < (2 : Int)) then
      some (Out.ret (V.tup [V.d (D.int IntKind.i32 (65533 : Int)), V.d (D.int IntKind.i64 (1 : Int))]), [])
    else
      must (decide ((1 : Int) < (↑(219 :: r).length : Int)))
        (optK (219 :: r)[(1 : Int).toNat]? fun b =>
          bif decide ((↑b.toNat : Int) < (128 : Int)) then
            some
              (Out.ret (V.tup [V.d (D.int IntKind.i32 (65533 : Int)), V.d (D.int IntKind.i64 (1 : Int))]), [])
          else
            bif decide ((191 : Int) < (↑b.toNat : Int)) then
              some
                (Out.ret (V.tup [V.d (D.int IntKind.i32 (65533 : Int)), V.d (D.int IntKind.i64 (1 : Int))]), [])
            else
              some
                (Out.ret
                    (V.tup
                      [V.d
                          (D.int IntKind.i32
                            (bitsI BinOp.or IntKind.i32 (1728 : Int)
                              (IntKind.i32.wrap (bitsI BinOp.and IntKind.u8 (↑b.toNat : Int) (63 : Int))))),
                        V.d (D.int IntKind.i64 (2 : Int))]),
                  []))) := by kernel_rfl

theorem b20_220 (n : Nat) (S : Caller) (r : List UInt8) :
    evBody cx S n 58 [.d (.str (220 :: r))] [] =
  must (decide ((0 : Int) < (↑(220 :: r).length : Int)))
    (bif decide ((↑(220 :: r).length : Int) < (2 : Int)) then
      some (Out.ret (V.tup [V.d (D.int IntKind.i32 (65533 : Int)), V.d (D.int IntKind.i64 (1 : Int))]), [])
    else
      must (decide ((1 : Int) < (↑(220 :: r).length : Int)))
        (optK (220 :: r)[(1 : Int).toNat]? fun b =>
          bif decide ((↑b.toNat : Int) < (128 : Int)) then
            some
              (Out.ret (V.tup [V.d (D.int IntKind.i32 (65533 : Int)), V.d (D.int IntKind.i64 (1 : Int))]), [])
          else
            bif decide ((191 : Int) < (↑b.toNat : Int)) then
              some
                (Out.ret (V.tup [V.d (D.int IntKind.i32 (65533 : Int)), V.d (D.int IntKind.i64 (1 : Int))]), [])
            else
              some
                (Out.ret
                    (V.tup
                      [V.d
                          (D.int IntKind.i32
                            (bitsI BinOp.or IntKind.i32 (1792 : Int)
                              (IntKind.i32.wrap (bitsI BinOp.and IntKind.u8 (↑b.toNat : Int) (63 : Int))))),
                        V.d (D.int IntKind.i64 (2 : Int))]),
                  []))) := by kernel_rfl

theorem b20_221 (n : Nat) (S : Caller) (r : List UInt8) :
    evBody cx S n 58 [.d (.str (221 :: r))] [] =
  must (decide ((0 : Int) < (↑(221 :: r).length : Int)))
    (bif decide ((↑(221 :: r).length : Int) < (2 : Int)) then
      some (Out.ret (V.tup [V.d (D.int IntKind.i32 (65533 : Int)), V.d (D.int IntKind.i64 (1 : Int))]), [])
    else
      must (decide ((1 : Int) < (↑(221 :: r).length : Int)))
        (optK (221 :: r)[(1 : Int).toNat]? fun b =>
          bif decide ((↑b.toNat : Int) < (128 : Int)) then
            some
              (Out.ret (V.tup [V.d (D.int IntKind.i32 (65533 : Int)), V.d (D.int IntKind.i64 (1 : Int))]), [])
          else
            bif decide ((191 : Int) < (↑b.toNat : Int)) then
              some
                (Out.ret (V.tup [V.d (D.int IntKind.i32 (65533 : Int)), V.d (D.int IntKind.i64 (1 : Int))]), [])
            else
              some
                (Out.ret
                    (V.tup
                      [V.d
                          (D.int IntKind.i32
                            (bitsI BinOp.or IntKind.i32 (1856 : Int)
                              (IntKind.i32.wrap (bitsI BinOp.and IntKind.u8 (↑b.toNat : Int) (63 : Int))))),
                        V.d (D.int IntKind.i64 (2 : Int))]),
                  []))) := by kernel_rfl

theorem b20_222 (n : Nat) (S : Caller) (r : List UInt8) :
    evBody cx S n 58 [.d (.str (222 :: r))] [] =
  must (decide ((0 : Int) < (↑(222 :: r).length : Int)))
    (bif decide ((↑(222 :: r).length : Int) < (2 : Int)) then
      some (Out.ret (V.tup [V.d (D.int IntKind.i32 (65533 : Int)), V.d (D.int IntKind.i64 (1 : Int))]), [])
    else
      must (decide ((1 : Int) < (↑(222 :: r).length : Int)))
        (optK (222 :: r)[(1 : Int).toNat]? fun b =>
          bif decide ((↑b.toNat : Int) < (128 : Int)) then
            some
              (Out.ret (V.tup [V.d (D.int IntKind.i32 (65533 : Int)), V.d (D.int IntKind.i64 (1 : Int))]), [])
          else
            bif decide ((191 : Int) < (↑b.toNat : Int)) then
              some
                (Out.ret (V.tup [V.d (D.int IntKind.i32 (65533 : Int)), V.d (D.int IntKind.i64 (1 : Int))]), [])
            else
              some
                (Out.ret
                    (V.tup
                      [V.d
                          (D.int IntKind.i32
                            (bitsI BinOp.or IntKind.i32 (1920 : Int)
                              (IntKind.i32.wrap (bitsI BinOp.and IntKind.u8 (↑b.toNat : Int) (63 : Int))))),
                        V.d (D.int IntKind.i64 (2 : Int))]),
                  []))) := by kernel_rfl

theorem b20_223 (n : Nat) (S : Caller) (r : List UInt8) :
    evBody cx S n 58 [.d (.str (223 :: r))] [] =
  must (decide ((0 : Int) < (↑(223 :: r).length : Int)))
    (bif decide ((↑(223 :: r).length : Int) < (2 : Int)) then
      some (Out.ret (V.tup [V.d (D.int IntKind.i32 (65533 : Int)), V.d (D.int IntKind.i64 (1 : Int))]), [])
    else
      must (decide ((1 : Int) < (↑(223 :: r).length : Int)))
        (optK (223 :: r)[(1 : Int).toNat]? fun b =>
          bif decide ((↑b.toNat : Int) < (128 : Int)) then
            some
              (Out.ret (V.tup [V.d (D.int IntKind.i32 (65533 : Int)), V.d (D.int IntKind.i64 (1 : Int))]), [])
          else
            bif decide ((191 : Int) < (↑b.toNat : Int)) then
              some
                (Out.ret (V.tup [V.d (D.int IntKind.i32 (65533 : Int)), V.d (D.int IntKind.i64 (1 : Int))]), [])
            else
              some
                (Out.ret
                    (V.tup
                      [V.d
                          (D.int IntKind.i32
                            (bitsI BinOp.or IntKind.i32 (1984 : Int)
                              (IntKind.i32.wrap (bitsI BinOp.and IntKind.u8 (↑b.toNat : Int) (63 : Int))))),
                        V.d (D.int IntKind.i64 (2 : Int))]),
                  []))) := by kernel_rfl

theorem b20_224 (n : Nat) (S : Caller) (r : List UInt8) :
    evBody cx S n 58 [.d (.str (224 :: r))] [] =
  must (decide ((0 : Int) < (↑(224 :: r).length : Int)))
    (bif decide ((↑(224 :: r).length : Int) < (3 : Int)) then
      some (Out.ret (V.tup [V.d (D.int IntKind.i32 (65533 : Int)), V.d (D.int IntKind.i64 (1 : Int))]), [])
    else
      must (decide ((1 : Int) < (↑(224 :: r).length : Int)))
        (optK (224 :: r)[(1 : Int).toNat]? fun b =>
          bif decide ((↑b.toNat : Int) < (160 : Int)) then
            some
              (Out.ret (V.tup [V.d (D.int IntKind.i32 (65533 : Int)), V.d (D.int IntKind.i64 (1 : Int))]), [])
          else
            bif decide ((191 : Int) < (↑b.toNat : Int)) then
              some
                (Out.ret (V.tup [V.d (D.int IntKind.i32 (65533 : Int)), V.d (D.int IntKind.i64 (1 : Int))]), [])
            else
              must (decide ((2 : Int) < (↑(224 :: r).length : Int)))
                (optK (224 :: r)[(2 : Int).toNat]? fun b_1 =>
                  bif decide ((↑b_1.toNat : Int) < (128 : Int)) then
                    some
                      (Out.ret
                          (V.tup [V.d (D.int IntKind.i32 (65533 : Int)), V.d (D.int IntKind.i64 (1 : Int))]),
                        [])
                  else
                    bif decide ((191 : Int) < (↑b_1.toNat : Int)) then
                      some
                        (Out.ret
                            (V.tup [V.d (D.int IntKind.i32 (65533 : Int)), V.d (D.int IntKind.i64 (1 : Int))]),
                          [])
                    else
                      some
                        (Out.ret
                            (V.tup
                              [V.d
                                  (D.int IntKind.i32
                                    (bitsI BinOp.or IntKind.i32
                                      (bitsI BinOp.or IntKind.i32 (0 : Int)
                                        (IntKind.i32.wrap
                                          (IntKind.i32.wrap
                                              (bitsI BinOp.and IntKind.u8 (↑b.toNat : Int) (63 : Int)) *
                                            2 ^ min (6 : Int).toNat IntKind.i32.bits)))
                                      (IntKind.i32.wrap
                                        (bitsI BinOp.and IntKind.u8 (↑b_1.toNat : Int) (63 : Int))))),
                                V.d (D.int IntKind.i64 (3 : Int))]),
                          [])))) := by kernel_rfl

theorem b20_225 (n : Nat) (S : Caller) (r : List UInt8) :
    evBody cx S n 58 [.d (.str (225 :: r))] [] =
  must (decide ((0 : Int) < (↑(225 :: r).length : Int)))
    (bif decide ((↑(225 :: r).length : Int) < (3 : Int)) then
      some (Out.ret (V.tup [V.d (D.int IntKind.i32 (65533 : Int)), V.d (D.int IntKind.i64 (1 : Int))]), [])
    else
      must (decide ((1 : Int) < (↑(225 :: r).length : Int)))
        (optK (225 :: r)[(1 : Int).toNat]? fun b =>
          bif decide ((↑b.toNat : Int) < (128 : Int)) then
            some
              (Out.ret (V.tup [V.d (D.int IntKind.i32 (65533 : Int)), V.d (D.int IntKind.i64 (1 : Int))]), [])
          else
            bif decide ((191 : Int) < (↑b.toNat : Int)) then
              some
                (Out.ret (V.tup [V.d (D.int IntKind.i32 (65533 : Int)), V.d (D.int IntKind.i64 (1 : Int))]), [])
            else
              must (decide ((2 : Int) < (↑(225 :: r).length : Int)))
                (optK (225 :: r)[(2 : Int).toNat]? fun b_1 =>
                  bif decide ((↑b_1.toNat : Int) < (128 : Int)) then
                    some
                      (Out.ret
                          (V.tup [V.d (D.int IntKind.i32 (65533 : Int)), V.d (D.int IntKind.i64 (1 : Int))]),
                        [])
                  else
                    bif decide ((191 : Int) < (↑b_1.toNat : Int)) then
                      some
                        (Out.ret
                            (V.tup [V.d (D.int IntKind.i32 (65533 : Int)), V.d (D.int IntKind.i64 (1 : Int))]),
                          [])
                    else
                      some
                        (Out.ret
                            (V.tup
                              [V.d
                                  (D.int IntKind.i32
                                    (bitsI BinOp.or IntKind.i32
                                      (bitsI BinOp.or IntKind.i32 (4096 : Int)
                                        (IntKind.i32.wrap
                                          (IntKind.i32.wrap
                                              (bitsI BinOp.and IntKind.u8 (↑b.toNat : Int) (63 : Int)) *
                                            2 ^ min (6 : Int).toNat IntKind.i32.bits)))
                                      (IntKind.i32.wrap
                                        (bitsI BinOp.and IntKind.u8 (↑b_1.toNat : Int) (63 : Int))))),
                                V.d (D.int IntKind.i64 (3 : Int))]),
                          [])))) := by kernel_rfl

theorem b20_226 (n : Nat) (S : Caller) (r : List UInt8) :
    evBody cx S n 58 [.d (.str (226 :: r))] [] =
  must (decide ((0 : Int) < (↑(226 :: r).length : Int)))
    (bif decide ((↑(226 :: r).length : Int) < (3 : Int)) then
      some (Out.ret (V.tup [V.d (D.int IntKind.i32 (65533 : Int)), V.d (D.int IntKind.i64 (1 : Int))]), [])
    else
      must (decide ((1 : Int) < (↑(226 :: r).length : Int)))
        (optK (226 :: r)[(1 : Int).toNat]? fun b =>
          bif decide ((↑b.toNat : Int) < (128 : Int)) then
            some
              (Out.ret (V.tup [V.d (D.int IntKind.i32 (65533 : Int)), V.d (D.int IntKind.i64 (1 : Int))]), [])
          else
            bif decide ((191 : Int) < (↑b.toNat : Int)) then
              some
                (Out.ret (V.tup [V.d (D.int IntKind.i32 (65533 : Int)), V.d (D.int IntKind.i64 (1 : Int))]), [])
            else
              must (decide ((2 : Int) < (↑(226 :: r).length : Int)))
                (optK (226 :: r)[(2 : Int).toNat]? fun b_1 =>
                  bif decide ((↑b_1.toNat : Int) < (128 : Int)) then
                    some
                      (Out.ret
                          (V.tup [V.d (D.int IntKind.i32 (65533 : Int)), V.d (D.int IntKind.i64 (1 : Int))]),
                        [])
                  else
                    bif decide ((191 : Int) < (↑b_1.toNat : Int)) then
                      some
                        (Out.ret
                            (V.tup [V.d (D.int IntKind.i32 (65533 : Int)), V.d (D.int IntKind.i64 (1 : Int))]),
                          [])
                    else
                      some
                        (Out.ret
                            (V.tup
                              [V.d
                                  (D.int IntKind.i32
                                    (bitsI BinOp.or IntKind.i32
                                      (bitsI BinOp.or IntKind.i32 (8192 : Int)
                                        (IntKind.i32.wrap
                                          (IntKind.i32.wrap
                                              (bitsI BinOp.and IntKind.u8 (↑b.toNat : Int) (63 : Int)) *
                                            2 ^ min (6 : Int).toNat IntKind.i32.bits)))
                                      (IntKind.i32.wrap
                                        (bitsI BinOp.and IntKind.u8 (↑b_1.toNat : Int) (63 : Int))))),
                                V.d (D.int IntKind.i64 (3 : Int))]),
                          [])))) := by kernel_rfl

theorem b20_227 (n : Nat) (S : Caller) (r : List UInt8) :
    evBody cx S n 58 [.d (.str (227 :: r))] [] =
  must (decide ((0 : Int) < (↑(227 :: r).length : Int)))
    (bif decide ((↑(227 :: r).length : Int) < (3 : Int)) then
      some (Out.ret (V.tup [V.d (D.int IntKind.i32 (65533 : Int)), V.d (D.int IntKind.i64 (1 : Int))]), [])
    else
      must (decide ((1 : Int) < (↑(227 :: r).length : Int)))
        (optK (227 :: r)[(1 : Int).toNat]? fun b =>
          bif decide ((↑b.toNat : Int) < (128 : Int)) then
            some
              (Out.ret (V.tup [V.d (D.int IntKind.i32 (65533 : Int)), V.d (D.int IntKind.i64 (1 : Int))]), [])
          else
            bif decide ((191 : Int) < (↑b.toNat : Int)) then
              some
                (Out.ret (V.tup [V.d (D.int IntKind.i32 (65533 : Int)), V.d (D.int IntKind.i64 (1 : Int))]), [])
            else
              must (decide ((2 : Int) < (↑(227 :: r).length : Int)))
                (optK (227 :: r)[(2 : Int).toNat]? fun b_1 =>
                  bif decide ((↑b_1.toNat : Int) < (128 : Int)) then
                    some
                      (Out.ret
                          (V.tup [V.d (D.int IntKind.i32 (65533 : Int)), V.d (D.int IntKind.i64 (1 : Int))]),
                        [])
                  else
                    bif decide ((191 : Int) < (↑b_1.toNat : Int)) then
                      some
                        (Out.ret
                            (V.tup [V.d (D.int IntKind.i32 (65533 : Int)), V.d (D.int IntKind.i64 (1 : Int))]),
                          [])
                    else
                      some
                        (Out.ret
                            (V.tup
                              [V.d
                                  (D.int IntKind.i32
                                    (bitsI BinOp.or IntKind.i32
                                      (bitsI BinOp.or IntKind.i32 (12288 : Int)
                                        (IntKind.i32.wrap
                                          (IntKind.i32.wrap
                                              (bitsI BinOp.and IntKind.u8 (↑b.toNat : Int) (63 : Int)) *
                                            2 ^ min (6 : Int).toNat IntKind.i32.bits)))
                                      (IntKind.i32.wrap
                                        (bitsI BinOp.and IntKind.u8 (↑b_1.toNat : Int) (63 : Int))))),
                                V.d (D.int IntKind.i64 (3 : Int))]),
                          [])))) := by kernel_rfl

theorem b20_228 (n : Nat) (S : Caller) (r : List UInt8) :
    evBody cx S n 58 [.d (.str (228 :: r))] [] =
  must (decide ((0 : Int) < (↑(228 :: r).length : Int)))
    (bif decide ((↑(228 :: r).length : Int) < (3 : Int)) then
      some (Out.ret (V.tup [V.d (D.int IntKind.i32 (65533 : Int)), V.d (D.int IntKind.i64 (1 : Int))]), [])
    else
      must (decide ((1 : Int) < (↑(228 :: r).length : Int)))
        (optK (228 :: r)[(1 : Int).toNat]? fun b =>
          bif decide ((↑b.toNat : Int) < (128 : Int)) then
            some
              (Out.ret (V.tup [V.d (D.int IntKind.i32 (65533 : Int)), V.d (D.int IntKind.i64 (1 : Int))]), [])
          else
            bif decide ((191 : Int) < (↑b.toNat : Int)) then
              some
                (Out.ret (V.tup [V.d (D.int IntKind.i32 (65533 : Int)), V.d (D.int IntKind.i64 (1 : Int))]), [])
            else
              must (decide ((2 : Int) < (↑(228 :: r).length : Int)))
                (optK (228 :: r)[(2 : Int).toNat]? fun b_1 =>
                  bif decide ((↑b_1.toNat : Int) < (128 : Int)) then
                    some
                      (Out.ret
                          (V.tup [V.d (D.int IntKind.i32 (65533 : Int)), V.d (D.int IntKind.i64 (1 : Int))]),
                        [])
                  else
                    bif decide ((191 : Int) < (↑b_1.toNat : Int)) then
                      some
                        (Out.ret
                            (V.tup [V.d (D.int IntKind.i32 (65533 : Int)), V.d (D.int IntKind.i64 (1 : Int))]),
                          [])
                    else
                      some
                        (Out.ret
                            (V.tup
                              [V.d
                                  (D.int IntKind.i32
                                    (bitsI BinOp.or IntKind.i32
                                      (bitsI BinOp.or IntKind.i32 (16384 : Int)
                                        (IntKind.i32.wrap
                                          (IntKind.i32.wrap
                                              (bitsI BinOp.and IntKind.u8 (↑b.toNat : Int) (63 : Int)) *
                                            2 ^ min (6 : Int).toNat IntKind.i32.bits)))
                                      (IntKind.i32.wrap
                                        (bitsI BinOp.and IntKind.u8 (↑b_1.toNat : Int) (63 : Int))))),
                                V.d (D.int IntKind.i64 (3 : Int))]),
                          [])))) := by kernel_rfl

theorem b20_229 (n : Nat) (S : Caller) (r : List UInt8) :
    evBody cx S n 58 [.d (.str (229 :: r))] [] =
  must (decide ((0 : Int) < (↑(229 :: r).length : Int)))
    (bif decide ((↑(229 :: r).length : Int) < (3 : Int)) then
      some (Out.ret (V.tup [V.d (D.int IntKind.i32 (65533 : Int)), V.d (D.int IntKind.i64 (1 : Int))]), [])
    else
      must (decide ((1 : Int) < (↑(229 :: r).length : Int)))
        (optK (229 :: r)[(1 : Int).toNat]? fun b =>
          bif decide ((↑b.toNat : Int) < (128 : Int)) then
            some
              (Out.ret (V.tup [V.d (D.int IntKind.i32 (65533 : Int)), V.d (D.int IntKind.i64 (1 : Int))]), [])
          else
            bif decide ((191 : Int) < (↑b.toNat : Int)) then
              some
                (Out.ret (V.tup [V.d (D.int IntKind.i32 (65533 : Int)), V.d (D.int IntKind.i64 (1 : Int))]), [])
            else
              must (decide ((2 : Int) < (↑(229 :: r).length : Int)))
                (optK (229 :: r)[(2 : Int).toNat]? fun b_1 =>
                  bif decide ((↑b_1.toNat : Int) < (128 : Int)) then
                    some
                      (Out.ret
                          (V.tup [V.d (D.int IntKind.i32 (65533 : Int)), V.d (D.int IntKind.i64 (1 : Int))]),
                        [])
                  else
                    bif decide ((191 : Int) < (↑b_1.toNat : Int)) then
                      some
                        (Out.ret
                            (V.tup [V.d (D.int IntKind.i32 (65533 : Int)), V.d (D.int IntKind.i64 (1 : Int))]),
                          [])
                    else
                      some
                        (Out.ret
                            (V.tup
                              [V.d
                                  (D.int IntKind.i32
                                    (bitsI BinOp.or IntKind.i32
                                      (bitsI BinOp.or IntKind.i32 (20480 : Int)
                                        (IntKind.i32.wrap
                                          (IntKind.i32.wrap
                                              (bitsI BinOp.and IntKind.u8 (↑b.toNat : Int) (63 : Int)) *
                                            2 ^ min (6 : Int).toNat IntKind.i32.bits)))
                                      (IntKind.i32.wrap
                                        (bitsI BinOp.and IntKind.u8 (↑b_1.toNat : Int) (63 : Int))))),
                                V.d (D.int IntKind.i64 (3 : Int))]),
                          [])))) := by kernel_rfl

theorem b20_230 (n : Nat) (S : Caller) (r : List UInt8) :
    evBody cx S n 58 [.d (.str (230 :: r))] [] =
  must (decide ((0 : Int) < (↑(230 :: r).length : Int)))
    (bif decide ((↑(230 :: r).length : Int) < (3 : Int)) then
      some (Out.ret (V.tup [V.d (D.int IntKind.i32 (65533 : Int)), V.d (D.int IntKind.i64 (1 : Int))]), [])
    else
      must (decide ((1 : Int) < (↑(230 :: r).length : Int)))
        (optK (230 :: r)[(1 : Int).toNat]? fun b =>
          bif decide ((↑b.toNat : Int) < (128 : Int)) then
            some
              (Out.ret (V.tup [V.d (D.int IntKind.i32 (65533 : Int)), V.d (D.int IntKind.i64 (1 : Int))]), [])
          else
            bif decide ((191 : Int) < (↑b.toNat : Int)) then
              some
                (Out.ret (V.tup [V.d (D.int IntKind.i32 (65533 : Int)), V.d (D.int IntKind.i64 (1 : Int))]), [])
            else
              must (decide ((2 : Int) < (↑(230 :: r).length : Int)))
                (optK (230 :: r)[(2 : Int).toNat]? fun b_1 =>
                  bif decide ((↑b_1.toNat : Int) < (128 : Int)) then
                    some
                      (Out.ret
                          (V.tup [V.d (D.int IntKind.i32 (65533 : Int)), V.d (D.int IntKind.i64 (1 : Int))]),
                        [])
                  else
                    bif decide ((191 : Int) < (↑b_1.toNat : Int)) then
                      some
                        (Out.ret
                            (V.tup [V.d (D.int IntKind.i32 (65533 : Int)), V.d (D.int IntKind.i64 (1 : Int))]),
                          [])
                    else
                      some
                        (Out.ret
                            (V.tup
                              [V.d
                                  (D.int IntKind.i32
                                    (bitsI BinOp.or IntKind.i32
                                      (bitsI BinOp.or IntKind.i32 (24576 : Int)
                                        (IntKind.i32.wrap
                                          (IntKind.i32.wrap
                                              (bitsI BinOp.and IntKind.u8 (↑b.toNat : Int) (63 : Int)) *
                                            2 ^ min (6 : Int).toNat IntKind.i32.bits)))
                                      (IntKind.i32.wrap
                                        (bitsI BinOp.and IntKind.u8 (↑b_1.toNat : Int) (63 : Int))))),
                                V.d (D.int IntKind.i64 (3 : Int))]),
                          [])))) := by kernel_rfl

theorem b20_231 (n : Nat) (S : Caller) (r : List UInt8) :
    evBody cx S n 58 [.d (.str (231 :: r))] [] =
  must (decide ((0 : Int) < (↑(231 :: r).length : Int)))
    (bif decide ((↑(231 :: r).length : Int) < (3 : Int)) then
      some (Out.ret (V.tup [V.d (D.int IntKind.i32 (65533 : Int)), V.d (D.int IntKind.i64 (1 : Int))]), [])
    else
      must (decide ((1 : Int) < (↑(231 :: r).length : Int)))
        (optK (231 :: r)[(1 : Int).toNat]? fun b =>
          bif decide ((↑b.toNat : Int) < (128 : Int)) then
            some
              (Out.ret (V.tup [V.d (D.int IntKind.i32 (65533 : Int)), V.d (D.int IntKind.i64 (1 : Int))]), [])
          else
            bif decide ((191 : Int) < (↑b.toNat : Int)) then
              some
                (Out.ret (V.tup [V.d (D.int IntKind.i32 (65533 : Int)), V.d (D.int IntKind.i64 (1 : Int))]), [])
            else
              must (decide ((2 : Int) < (↑(231 :: r).length : Int)))
                (optK (231 :: r)[(2 : Int).toNat]? fun b_1 =>
                  bif decide ((↑b_1.toNat : Int) < (128 : Int)) then
                    some
                      (Out.ret
                          (V.tup [V.d (D.int IntKind.i32 (65533 : Int)), V.d (D.int IntKind.i64 (1 : Int))]),
                        [])
                  else
                    bif decide ((191 : Int) < (↑b_1.toNat : Int)) then
                      some
                        (Out.ret
                            (V.tup [V.d (D.int IntKind.i32 (65533 : Int)), V.d (D.int IntKind.i64 (1 : Int))]),
                          [])
                    else
                      some
                        (Out.ret
                            (V.tup
                              [V.d
                                  (D.int IntKind.i32
                                    (bitsI BinOp.or IntKind.i32
                                      (bitsI BinOp.or IntKind.i32 (28672 : Int)
                                        (IntKind.i32.wrap
                                          (IntKind.i32.wrap
                                              (bitsI BinOp.and IntKind.u8 (↑b.toNat : Int) (63 : Int)) *
                                            2 ^ min (6 : Int).toNat IntKind.i32.bits)))
                                      (IntKind.i32.wrap
                                        (bitsI BinOp.and IntKind.u8 (↑b_1.toNat : Int) (63 : Int))))),
                                V.d (D.int IntKind.i64 (3 : Int))]),
                          [])))) := by kernel_rfl

theorem b20_232 (n : Nat) (S : Caller) (r : List UInt8) :
    evBody cx S n 58 [.d (.str (232 :: r))] [] =
  must (decide ((0 : Int) < (↑(232 :: r).length : Int)))
    (bif decide ((↑(232 :: r).length : Int) < (3 : Int)) then
      some (Out.ret (V.tup [V.d (D.int IntKind.i32 (65533 : Int)), V.d (D.int IntKind.i64 (1 : Int))]), [])
    else
      must (decide ((1 : Int) < (↑(232 :: r).length : Int)))
        (optK (232 :: r)[(1 : Int).toNat]? fun b =>
          bif decide ((↑b.toNat : Int) < (128 : Int)) then
            some
              (Out.ret (V.tup [V.d (D.int IntKind.i32 (65533 : Int)), V.d (D.int IntKind.i64 (1 : Int))]), [])
          else
            bif decide ((191 : Int) < (↑b.toNat : Int)) then
              some
                (Out.ret (V.tup [V.d (D.int IntKind.i32 (65533 : Int)), V.d (D.int IntKind.i64 (1 : Int))]), [])
            else
              must (decide ((2 : Int) < (↑(232 :: r).length : Int)))
                (optK (232 :: r)[(2 : Int).toNat]? fun b_1 =>
                  bif decide ((↑b_1.toNat : Int) < (128 : Int)) then
                    some
                      (Out.ret
                          (V.tup [V.d (D.int IntKind.i32 (65533 : Int)), V.d (D.int IntKind.i64 (1 : Int))]),
                        [])
                  else
                    bif decide ((191 : Int) < (↑b_1.toNat : Int)) then
                      some
                        (Out.ret
                            (V.tup [V.d (D.int IntKind.i32 (65533 : Int)), V.d (D.int IntKind.i64 (1 : Int))]),
                          [])
                    else
                      some
                        (Out.ret
                            (V.tup
                              [V.d
                                  (D.int IntKind.i32
                                    (bitsI BinOp.or IntKind.i32
                                      (bitsI BinOp.or IntKind.i32 (32768 : Int)
                                        (IntKind.i32.wrap
                                          (IntKind.i32.wrap
                                              (bitsI BinOp.and IntKind.u8 (↑b.toNat : Int) (63 : Int)) *
                                            2 ^ min (6 : Int).toNat IntKind.i32.bits)))
                                      (IntKind.i32.wrap
                                        (bitsI BinOp.and IntKind.u8 (↑b_1.toNat : Int) (63 : Int))))),
                                V.d (D.int IntKind.i64 (3 : Int))]),
                          [])))) := by kernel_rfl

theorem b20_233 (n : Nat) (S : Caller) (r : List UInt8) :
    evBody cx S n 58 [.d (.str (233 :: r))] [] =
  must (decide ((0 : Int) < (↑(233 :: r).length : Int)))
    (bif decide ((↑(233 :: r).length : Int) < (3 : Int)) then
      some (Out.ret (V.tup [V.d (D.int IntKind.i32 (65533 : Int)), V.d (D.int IntKind.i64 (1 : Int))]), [])
    else
      must (decide ((1 : Int) < (↑(233 :: r).length : Int)))
        (optK (233 :: r)[(1 : Int).toNat]? fun b =>
          bif decide ((↑b.toNat : Int) < (128 : Int)) then
            some
              (Out.ret (V.tup [V.d (D.int IntKind.i32 (65533 : Int)), V.d (D.int IntKind.i64 (1 : Int))]), [])
          else
            bif decide ((191 : Int) < (↑b.toNat : Int)) then
              some
                (Out.ret (V.tup [V.d (D.int IntKind.i32 (65533 : Int)), V.d (D.int IntKind.i64 (1 : Int))]), [])
            else
              must (decide ((2 : Int) < (↑(233 :: r).length : Int)))
                (optK (233 :: r)[(2 : Int).toNat]? fun b_1 =>
                  bif decide ((↑b_1.toNat : Int) < (128 : Int)) then
                    some
                      (Out.ret
                          (V.tup [V.d (D.int IntKind.i32 (65533 : Int)), V.d (D.int IntKind.i64 (1 : Int))]),
                        [])
                  else
                    bif decide ((191 : Int) < (↑b_1.toNat : Int)) then
                      some
                        (Out.ret
                            (V.tup [V.d (D.int IntKind.i32 (65533 : Int)), V.d (D.int IntKind.i64 (1 : Int))]),
                          [])
                    else
                      some
                        (Out.ret
                            (V.tup
                              [V.d
                                  (D.int IntKind.i32
                                    (bitsI BinOp.or IntKind.i32
                                      (bitsI BinOp.or IntKind.i32 (36864 : Int)
                                        (IntKind.i32.wrap
                                          (IntKind.i32.wrap
                                              (bitsI BinOp.and IntKind.u8 (↑b.toNat : Int) (63 : Int)) *
                                            2 ^ min (6 : Int).toNat IntKind.i32.bits)))
                                      (IntKind.i32.wrap
                                        (bitsI BinOp.and IntKind.u8 (↑b_1.toNat : Int) (63 : Int))))),
                                V.d (D.int IntKind.i64 (3 : Int))]),
                          [])))) := by kernel_rfl

theorem b20_234 (n : Nat) (S : Caller) (r : List UInt8) :
    evBody cx S n 58 [.d (.str (234 :: r))] [] =
  must (decide ((0 : Int) < (↑(234 :: r).length : Int)))
    (bif decide ((↑(234 :: r).length : Int) < (3 : Int)) then
      some (Out.ret (V.tup [V.d (D.int IntKind.i32 (65533 : Int)), V.d (D.int IntKind.i64 (1 : Int))]), [])
    else
      must (decide ((1 : Int) < (↑(234 :: r).length : Int)))
        (optK (234 :: r)[(1 : Int).toNat]? fun b =>
          bif decide ((↑b.toNat : Int) < (128 : Int)) then
            some
              (Out.ret (V.tup [V.d (D.int IntKind.i32 (65533 : Int)), V.d (D.int IntKind.i64 (1 : Int))]), [])
          else
            bif decide ((191 : Int) < (↑b.toNat : Int)) then
              some
                (Out.ret (V.tup [V.d (D.int IntKind.i32 (65533 : Int)), V.d (D.int IntKind.i64 (1 : Int))]), [])
            else
              must (decide ((2 : Int) < (↑(234 :: r).length : Int)))
                (optK (234 :: r)[(2 : Int).toNat]? fun b_1 =>
                  bif decide ((↑b_1.toNat : Int) < (128 : Int)) then
                    some
                      (Out.ret
                          (V.tup [V.d (D.int IntKind.i32 (65533 : Int)), V.d (D.int IntKind.i64 (1 : Int))]),
                        [])
                  else
                    bif decide ((191 : Int) < (↑b_1.toNat : Int)) then
                      some
                        (Out.ret
                            (V.tup [V.d (D.int IntKind.i32 (65533 : Int)), V.d (D.int IntKind.i64 (1 : Int))]),
                          [])
                    else
                      some
                        (Out.ret
                            (V.tup
                              [V.d
                                  (D.int IntKind.i32
                                    (bitsI BinOp.or IntKind.i32
                                      (bitsI BinOp.or IntKind.i32 (40960 : Int)
                                        (IntKind.i32.wrap
                                          (IntKind.i32.wrap
                                              (bitsI BinOp.and IntKind.u8 (↑b.toNat : Int) (63 : Int)) *
                                            2 ^ min (6 : Int).toNat IntKind.i32.bits)))
                                      (IntKind.i32.wrap
                                        (bitsI BinOp.and IntKind.u8 (↑b_1.toNat : Int) (63 : Int))))),
                                V.d (D.int IntKind.i64 (3 : Int))]),
                          [])))) := by kernel_rfl

theorem b20_235 (n : Nat) (S : Caller) (r : List UInt8) :
    evBody cx S n 58 [.d (.str (235 :: r))] [] =
  must (decide ((0 : Int) < (↑(235 :: r).length : Int)))
    (bif decide ((↑(235 :: r).length : Int) < (3 : Int)) then
      some (Out.ret (V.tup [V.d (D.int IntKind.i32 (65533 : Int)), V.d (D.int IntKind.i64 (1 : Int))]), [])
    else
      must (decide ((1 : Int) < (↑(235 :: r).length : Int)))
        (optK (235 :: r)[(1 : Int).toNat]? fun b =>
          bif decide ((↑b.toNat : Int) < (128 : Int)) then
            some
              (Out.ret (V.tup [V.d (D.int IntKind.i32 (65533 : Int)), V.d (D.int IntKind.i64 (1 : Int))]), [])
          else
            bif decide ((191 : Int) < (↑b.toNat : Int)) then
              some
                (Out.ret (V.tup [V.d (D.int IntKind.i32 (65533 : Int)), V.d (D.int IntKind.i64 (1 : Int))]), [])
            else
              must (decide ((2 : Int) < (↑(235 :: r).length : Int)))
                (optK (235 :: r)[(2 : Int).toNat]? fun b_1 =>
                  bif decide ((↑b_1.toNat : Int) < (128 : Int)) then
                    some
                      (Out.ret
                          (V.tup [V.d (D.int IntKind.i32 (65533 : Int)), V.d (D.int IntKind.i64 (1 : Int))]),
                        [])
                  else
                    bif decide ((191 : Int) < (↑b_1.toNat : Int)) then
                      some
                        (Out.ret
                            (V.tup [V.d (D.int IntKind.i32 (65533 : Int)), V.d (D.int IntKind.i64 (1 : Int))]),
                          [])
                    else
                      some
                        (Out.ret
                            (V.tup
                              [V.d
                                  (D.int IntKind.i32
                                    (bitsI BinOp.or IntKind.i32
                                      (bitsI BinOp.or IntKind.i32 (45056 : Int)
                                        (IntKind.i32.wrap
                                          (IntKind.i32.wrap
                                              (bitsI BinOp.and IntKind.u8 (↑b.toNat : Int) (63 : Int)) *
                                            2 ^ min (6 : Int).toNat IntKind.i32.bits)))
                                      (IntKind.i32.wrap
                                        (bitsI BinOp.and IntKind.u8 (↑b_1.toNat : Int) (63 : Int))))),
                                V.d (D.int IntKind.i64 (3 : Int))]),
                          [])))) := by kernel_rfl

theorem b20_236 (n : Nat) (S : Caller) (r : List UInt8) :
    evBody cx S n 58 [.d (.str (236 :: r))] [] =
  must (decide ((0 : Int) < (↑(236 :: r).length : Int)))
    (bif decide ((↑(236 :: r).length : Int) < (3 : Int)) then
      some (Out.ret (V.tup [V.d (D.int IntKind.i32 (65533 : Int)), V.d (D.int IntKind.i64 (1 : Int))]), [])
    else
      must (decide ((1 : Int) < (↑(236 :: r).length : Int)))
        (optK (236 :: r)[(1 : Int).toNat]? fun b =>
          bif decide ((↑b.toNat : Int) < (128 : Int)) then
            some
              (Out.ret (V.tup [V.d (D.int IntKind.i32 (65533 : Int)), V.d (D.int IntKind.i64 (1 : Int))]), [])
          else
            bif decide ((191 : Int) < (↑b.toNat : Int)) then
              some
                (Out.ret (V.tup [V.d (D.int IntKind.i32 (65533 : Int)), V.d (D.int IntKind.i64 (1 : Int))]), [])
            else
              must (decide ((2 : Int) < (↑(236 :: r).length : Int)))
                (optK (236 :: r)[(2 : Int).toNat]? fun b_1 =>
                  bif decide ((↑b_1.toNat : Int) < (128 : Int)) then
                    some
                      (Out.ret
                          (V.tup [V.d (D.int IntKind.i32 (65533 : Int)), V.d (D.int IntKind.i64 (1 : Int))]),
                        [])
                  else
                    bif decide ((191 : Int) < (↑b_1.toNat : Int)) then
                      some
                        (Out.ret
                            (V.tup [V.d (D.int IntKind.i32 (65533 : Int)), V.d (D.int IntKind.i64 (1 : Int))]),
                          [])
                    else
                      some
                        (Out.ret
                            (V.tup
                              [V.d
                                  (D.int IntKind.i32
                                    (bitsI BinOp.or IntKind.i32
                                      (bitsI BinOp.or IntKind.i32 (49152 : Int)
                                        (IntKind.i32.wrap
                                          (IntKind.i32.wrap
                                              (bitsI BinOp.and IntKind.u8 (↑b.toNat : Int) (63 : Int)) *
                                            2 ^ min (6 : Int).toNat IntKind.i32.bits)))
                                      (IntKind.i32.wrap
                                        (bitsI BinOp.and IntKind.u8 (↑b_1.toNat : Int) (63 : Int))))),
                                V.d (D.int IntKind.i64 (3 : Int))]),
                          [])))) := by kernel_rfl

theorem b20_237 (n : Nat) (S : Caller) (r : List UInt8) :
    evBody cx S n 58 [.d (.str (237 :: r))] [] =
  must (decide ((0 : Int) < (↑(237 :: r).length : Int)))
    (bif decide ((↑(237 :: r).length : Int) < (3 : Int)) then
      some (Out.ret (V.tup [V.d (D.int IntKind.i32 (65533 : Int)), V.d (D.int IntKind.i64 (1 : Int))]), [])
    else
      must (decide ((1 : Int) < (↑(237 :: r).length : Int)))
        (optK (237 :: r)[(1 : Int).toNat]? fun b =>
          bif decide ((↑b.toNat : Int) < (128 : Int)) then
            some
              (Out.ret (V.tup [V.d (D.int IntKind.i32 (65533 : Int)), V.d (D.int IntKind.i64 (1 : Int))]), [])
          else
            bif decide ((159 : Int) < (↑b.toNat : Int)) then
              some
                (Out.ret (V.tup [V.d (D.int IntKind.i32 (65533 : Int)), V.d (D.int IntKind.i64 (1 : Int))]), [])
            else
              must (decide ((2 : Int) < (↑(237 :: r).length : Int)))
                (optK (237 :: r)[(2 : Int).toNat]? fun b_1 =>
                  bif decide ((↑b_1.toNat : Int) < (128 : Int)) then
                    some
                      (Out.ret
                          (V.tup [V.d (D.int IntKind.i32 (65533 : Int)), V.d (D.int IntKind.i64 (1 : Int))]),
                        [])
                  else
                    bif decide ((191 : Int) < (↑b_1.toNat : Int)) then
                      some
                        (Out.ret
                            (V.tup [V.d (D.int IntKind.i32 (65533 : Int)), V.d (D.int IntKind.i64 (1 : Int))]),
                          [])
                    else
                      some
                        (Out.ret
                            (V.tup
                              [V.d
                                  (D.int IntKind.i32
                                    (bitsI BinOp.or IntKind.i32
                                      (bitsI BinOp.or IntKind.i32 (53248 : Int)
                                        (IntKind.i32.wrap
                                          (IntKind.i32.wrap
                                              (bitsI BinOp.and IntKind.u8 (↑b.toNat : Int) (63 : Int)) *
                                            2 ^ min (6 : Int).toNat IntKind.i32.bits)))
                                      (IntKind.i32.wrap
                                        (bitsI BinOp.and IntKind.u8 (↑b_1.toNat : Int) (63 : Int))))),
                                V.d (D.int IntKind.i64 (3 : Int))]),
                          [])))) := by kernel_rfl

theorem b20_238 (n : Nat) (S : Caller) (r : List UInt8) :
    evBody cx S n 58 [.d (.str (238 :: r))] [] =
  must (decide ((0 : Int) < (↑(238 :: r).length : Int)))
    (bif decide ((↑(238 :: r).length : Int) < (3 : Int)) then
      some (Out.ret (V.tup [V.d (D.int IntKind.i32 (65533 : Int)), V.d (D.int IntKind.i64 (1 : Int))]), [])
    else
      must (decide ((1 : Int) < (↑(238 :: r).length : Int)))
        (optK (238 :: r)[(1 : Int).toNat]? fun b =>
          bif decide ((↑b.toNat : Int) < (128 : Int)) then
            some
              (Out.ret (V.tup [V.d (D.int IntKind.i32 (65533 : Int)), V.d (D.int IntKind.i64 (1 : Int))]), [])
          else
            bif decide ((191 : Int) < (↑b.toNat : Int)) then
              some
                (Out.ret (V.tup [V.d (D.int IntKind.i32 (65533 : Int)), V.d (D.int IntKind.i64 (1 : Int))]), [])
            else
              must (decide ((2 : Int) < (↑(238 :: r).length : Int)))
                (optK (238 :: r)[(2 : Int).toNat]? fun b_1 =>
                  bif decide ((↑b_1.toNat : Int) < (128 : Int)) then
                    some
                      (Out.ret
                          (V.tup [V.d (D.int IntKind.i32 (65533 : Int)), V.d (D.int IntKind.i64 (1 : Int))]),
                        [])
                  else
                    bif decide ((191 : Int) < (↑b_1.toNat : Int)) then
                      some
                        (Out.ret
                            (V.tup [V.d (D.int IntKind.i32 (65533 : Int)), V.d (D.int IntKind.i64 (1 : Int))]),
                          [])
                    else
                      some
                        (Out.ret
                            (V.tup
                              [V.d
                                  (D.int IntKind.i32
                                    (bitsI BinOp.or IntKind.i32
                                      (bitsI BinOp.or IntKind.i32 (57344 : Int)
                                        (IntKind.i32.wrap
                                          (IntKind.i32.wrap
                                              (bitsI BinOp.and IntKind.u8 (↑b.toNat : Int) (63 : Int)) *
                                            2 ^ min (6 : Int).toNat IntKind.i32.bits)))
                                      (IntKind.i32.wrap
                                        (bitsI BinOp.and IntKind.u8 (↑b_1.toNat : Int) (63 : Int))))),
                                V.d (D.int IntKind.i64 (3 : Int))]),
                          [])))) := by kernel_rfl

theorem b20_239 (n : Nat) (S : Caller) (r : List UInt8) :
    evBody cx S n 58 [.d (.str (239 :: r))] [] =
  must (decide ((0 : Int) < (↑(239 :: r).length : Int)))
    (bif decide ((↑(239 :: r).length : Int) < (3 : Int)) then
      some (Out.ret (V.tup [V.d (D.int IntKind.i32 (65533 : Int)), V.d (D.int IntKind.i64 (1 : Int))]), [])
    else
      must (decide ((1 : Int) < (↑(239 :: r).length : Int)))
        (optK (239 :: r)[(1 : Int).toNat]? fun b =>
          bif decide ((↑b.toNat : Int) < (128 : Int)) then
            some
              (Out.ret (V.tup [V.d (D.int IntKind.i32 (65533 : Int)), V.d (D.int IntKind.i64 (1 : Int))]), [])
          else
            bif decide ((191 : Int) < (↑b.toNat : Int)) then
              some
                (Out.ret (V.tup [V.d (D.int IntKind.i32 (65533 : Int)), V.d (D.int IntKind.i64 (1 : Int))]), [])
            else
              must (decide ((2 : Int) < (↑(239 :: r).length : Int)))
                (optK (239 :: r)[(2 : Int).toNat]? fun b_1 =>
                  bif decide ((↑b_1.toNat : Int) < (128 : Int)) then
                    some
                      (Out.ret
                          (V.tup [V.d (D.int IntKind.i32 (65533 : Int)), V.d (D.int IntKind.i64 (1 : Int))]),
                        [])
                  else
                    bif decide ((191 : Int) < (↑b_1.toNat : Int)) then
                      some
                        (Out.ret
                            (V.tup [V.d (D.int IntKind.i32 (65533 : Int)), V.d (D.int IntKind.i64 (1 : Int))]),
                          [])
                    else
                      some
                        (Out.ret
                            (V.tup
                              [V.d
                                  (D.int IntKind.i32
                                    (bitsI BinOp.or IntKind.i32
                                      (bitsI BinOp.or IntKind.i32 (61440 : Int)
                                        (IntKind.i32.wrap
                                          (IntKind.i32.wrap
                                              (bitsI BinOp.and IntKind.u8 (↑b.toNat : Int) (63 : Int)) *
                                            2 ^ min (6 : Int).toNat IntKind.i32.bits)))
                                      (IntKind.i32.wrap
                                        (bitsI BinOp.and IntKind.u8 (↑b_1.toNat : Int) (63 : Int))))),
                                V.d (D.int IntKind.i64 (3 : Int))]),
                          [])))) := by kernel_rfl

theorem b20_240 (n : Nat) (S : Caller) (r : List UInt8) :
    evBody cx S n 58 [.d (.str (240 :: r))] [] =
  must (decide ((0 : Int) < (↑(240 :: r).length : Int)))
    (bif decide ((↑(240 :: r).length : Int) < (4 : Int)) then
      some (Out.ret (V.tup [V.d (D.int IntKind.i32 (65533 : Int)), V.d (D.int IntKind.i64 (1 : Int))]), [])
    else
      must (decide ((1 : Int) < (↑(240 :: r).length : Int)))
        (optK (240 :: r)[(1 : Int).toNat]? fun b =>
          bif decide ((↑b.toNat : Int) < (144 : Int)) then
            some
              (Out.ret (V.tup [V.d (D.int IntKind.i32 (65533 : Int)), V.d (D.int IntKind.i64 (1 : Int))]), [])
          else
            bif decide ((191 : Int) < (↑b.toNat : Int)) then
              some
                (Out.ret (V.tup [V.d (D.int IntKind.i32 (65533 : Int)), V.d (D.int IntKind.i64 (1 : Int))]), [])
            else
              must (decide ((2 : Int) < (↑(240 :: r).length : Int)))
                (optK (240 :: r)[(2 : Int).toNat]? fun b_1 =>
                  bif decide ((↑b_1.toNat : Int) < (128 : Int)) then
                    some
                      (Out.ret
                          (V.tup [V.d (D.int IntKind.i32 (65533 : Int)), V.d (D.int IntKind.i64 (1 : Int))]),
                        [])
                  else
                    bif decide ((191 : Int) < (↑b_1.toNat : Int)) then
                      some
                        (Out.ret
                            (V.tup [V.d (D.int IntKind.i32 (65533 : Int)), V.d (D.int IntKind.i64 (1 : Int))]),
                          [])
                    else
                      must (decide ((3 : Int) < (↑(240 :: r).length : Int)))
                        (optK (240 :: r)[(3 : Int).toNat]? fun b_2 =>
                          bif decide ((↑b_2.toNat : Int) < (128 : Int)) then
                            some
                              (Out.ret
                                  (V.tup
                                    [V.d (D.int IntKind.i32 (65533 : Int)), V.d (D.int IntKind.i64 (1 : Int))]),
                                [])
                          else
                            bif decide ((191 : Int) < (↑b_2.toNat : Int)) then
                              some
                                (Out.ret
                                    (V.tup
                                      [V.d (D.int IntKind.i32 (65533 : Int)),
                                        V.d (D.int IntKind.i64 (1 : Int))]),
                                  [])
                            else
                              some
                                (Out.ret
                                    (V.tup
                                      [V.d
                                          (D.int IntKind.i32
                                            (bitsI BinOp.or IntKind.i32
                                              (bitsI BinOp.or IntKind.i32
                                                (bitsI BinOp.or IntKind.i32 (0 : Int)
                                                  (IntKind.i32.wrap
                                                    (IntKind.i32.wrap
                                                        (bitsI BinOp.and IntKind.u8 (↑b.toNat : Int) (63 : Int)) *
                                                      2 ^ min (12 : Int).toNat IntKind.i32.bits)))
                                                (IntKind.i32.wrap
                                                  (IntKind.i32.wrap
                                                      (bitsI BinOp.and IntKind.u8 (↑b_1.toNat : Int) (63 : Int)) *
                                                    2 ^ min (6 : Int).toNat IntKind.i32.bits)))
                                              (IntKind.i32.wrap
                                                (bitsI BinOp.and IntKind.u8 (↑b_2.toNat : Int) (63 : Int))))),
                                        V.d (D.int IntKind.i64 (4 : Int))]),
                                  []))))) := by kernel_rfl

theorem b20_241 (n : Nat) (S : Caller) (r : List UInt8) :
    evBody cx S n 58 [.d (.str (241 :: r))] [] =
  must (decide ((0 : Int) < (↑(241 :: r).length : Int)))
    (bif decide ((↑(241 :: r).length : Int) < (4 : Int)) then
      some (Out.ret (V.tup [V.d (D.int IntKind.i32 (65533 : Int)), V.d (D.int IntKind.i64 (1 : Int))]), [])
    else
      must (decide ((1 : Int) < (↑(241 :: r).length : Int)))
        (optK (241 :: r)[(1 : Int).toNat]? fun b =>
          bif decide ((↑b.toNat : Int) < (128 : Int)) then
            some
              (Out.ret (V.tup [V.d (D.int IntKind.i32 (65533 : Int)), V.d (D.int IntKind.i64 (1 : Int))]), [])
          else
            bif decide ((191 : Int) < (↑b.toNat : Int)) then
              some
                (Out.ret (V.tup [V.d (D.int IntKind.i32 (65533 : Int)), V.d (D.int IntKind.i64 (1 : Int))]), [])
            else
              must (decide ((2 : Int) < (↑(241 :: r).length : Int)))
                (optK (241 :: r)[(2 : Int).toNat]? fun b_1 =>
                  bif decide ((↑b_1.toNat : Int) < (128 : Int)) then
                    some
                      (Out.ret
                          (V.tup [V.d (D.int IntKind.i32 (65533 : Int)), V.d (D.int IntKind.i64 (1 : Int))]),
                        [])
                  else
                    bif decide ((191 : Int) < (↑b_1.toNat : Int)) then
                      some
                        (Out.ret
                            (V.tup [V.d (D.int IntKind.i32 (65533 : Int)), V.d (D.int IntKind.i64 (1 : Int))]),
                          [])
                    else
                      must (decide ((3 : Int) < (↑(241 :: r).length : Int)))
                        (optK (241 :: r)[(3 : Int).toNat]? fun b_2 =>
                          bif decide ((↑b_2.toNat : Int) < (128 : Int)) then
                            some
                              (Out.ret
                                  (V.tup
                                    [V.d (D.int IntKind.i32 (65533 : Int)), V.d (D.int IntKind.i64 (1 : Int))]),
                                [])
                          else
                            bif decide ((191 : Int) < (↑b_2.toNat : Int)) then
                              some
                                (Out.ret
                                    (V.tup
                                      [V.d (D.int IntKind.i32 (65533 : Int)),
                                        V.d (D.int IntKind.i64 (1 : Int))]),
                                  [])
                            else
                              some
                                (Out.ret
                                    (V.tup
                                      [V.d
                                          (D.int IntKind.i32
                                            (bitsI BinOp.or IntKind.i32
                                              (bitsI BinOp.or IntKind.i32
                                                (bitsI BinOp.or IntKind.i32 (262144 : Int)
                                                  (IntKind.i32.wrap
                                                    (IntKind.i32.wrap
                                                        (bitsI BinOp.and IntKind.u8 (↑b.toNat : Int) (63 : Int)) *
                                                      2 ^ min (12 : Int).toNat IntKind.i32.bits)))
                                                (IntKind.i32.wrap
                                                  (IntKind.i32.wrap
                                                      (bitsI BinOp.and IntKind.u8 (↑b_1.toNat : Int) (63 : Int)) *
                                                    2 ^ min (6 : Int).toNat IntKind.i32.bits)))
                                              (IntKind.i32.wrap
                                                (bitsI BinOp.and IntKind.u8 (↑b_2.toNat : Int) (63 : Int))))),
                                        V.d (D.int IntKind.i64 (4 : Int))]),
                                  []))))) := by kernel_rfl

theorem b20_242 (n : Nat) (S : Caller) (r : List UInt8) :
    evBody cx S n 58 [.d (.str (242 :: r))] [] =
  must (decide ((0 : Int) < (↑(242 :: r).length : Int)))
    (bif decide ((↑(242 :: r).length : Int) < (4 : Int)) then
      some (Out.ret (V.tup [V.d (D.int IntKind.i32 (65533 : Int)), V.d (D.int IntKind.i64 (1 : Int))]), [])
    else
      must (decide ((1 : Int) < (↑(242 :: r).length : Int)))
        (optK (242 :: r)[(1 : Int).toNat]? fun b =>
          bif decide ((↑b.toNat : Int) < (128 : Int)) then
            some
              (Out.ret (V.tup [V.d (D.int IntKind.i32 (65533 : Int)), V.d (D.int IntKind.i64 (1 : Int))]), [])
          else
            bif decide ((191 : Int) < (↑b.toNat : Int)) then
              some
                (Out.ret (V.tup [V.d (D.int IntKind.i32 (65533 : Int)), V.d (D.int IntKind.i64 (1 : Int))]), [])
            else
              must (decide ((2 : Int) < (↑(242 :: r).length : Int)))
                (optK (242 :: r)[(2 : Int).toNat]? fun b_1 =>
                  bif decide ((↑b_1.toNat : Int) < (128 : Int)) then
                    some
                      (Out.ret
                          (V.tup [V.d (D.int IntKind.i32 (65533 : Int)), V.d (D.int IntKind.i64 (1 : Int))]),
                        [])
                  else
                    bif decide ((191 : Int) < (↑b_1.toNat : Int)) then
                      some
                        (Out.ret
                            (V.tup [V.d (D.int IntKind.i32 (65533 : Int)), V.d (D.int IntKind.i64 (1 : Int))]),
                          [])
                    else
                      must (decide ((3 : Int) < (↑(242 :: r).length : Int)))
                        (optK (242 :: r)[(3 : Int).toNat]? fun b_2 =>
                          bif decide ((↑b_2.toNat : Int) < (128 : Int)) then
                            some
                              (Out.ret
                                  (V.tup
                                    [V.d (D.int IntKind.i32 (65533 : Int)), V.d (D.int IntKind.i64 (1 : Int))]),
                                [])
                          else
                            bif decide ((191 : Int) < (↑b_2.toNat : Int)) then
                              some
                                (Out.ret
                                    (V.tup
                                      [V.d (D.int IntKind.i32 (65533 : Int)),
                                        V.d (D.int IntKind.i64 (1 : Int))]),
                                  [])
                            else
                              some
                                (Out.ret
                                    (V.tup
                                      [V.d
                                          (D.int IntKind.i32
                                            (bitsI BinOp.or IntKind.i32
                                              (bitsI BinOp.or IntKind.i32
                                                (bitsI BinOp.or IntKind.i32 (524288 : Int)
                                                  (IntKind.i32.wrap
                                                    (IntKind.i32.wrap
                                                        (bitsI BinOp.and IntKind.u8 (↑b.toNat : Int) (63 : Int)) *
                                                      2 ^ min (12 : Int).toNat IntKind.i32.bits)))
                                                (IntKind.i32.wrap
                                                  (IntKind.i32.wrap
                                                      (bitsI BinOp.and IntKind.u8 (↑b_1.toNat : Int) (63 : Int)) *
                                                    2 ^ min (6 : Int).toNat IntKind.i32.bits)))
                                              (IntKind.i32.wrap
                                                (bitsI BinOp.and IntKind.u8 (↑b_2.toNat : Int) (63 : Int))))),
                                        V.d (D.int IntKind.i64 (4 : Int))]),
                                  []))))) := by kernel_rfl

theorem b20_243 (n : Nat) (S : Caller) (r : List UInt8) :
    evBody cx S n 58 [.d (.str (243 :: r))] [] =
  must (decide ((0 : Int) < (↑(243 :: r).length : Int)))
    (bif decide ((↑(243 :: r).length : Int) < (4 : Int)) then
      some (Out.ret (V.tup [V.d (D.int IntKind.i32 (65533 : Int)), V.d (D.int IntKind.i64 (1 : Int))]), [])
    else
      must (decide ((1 : Int) < (↑(243 :: r).length : Int)))
        (optK (243 :: r)[(1 : Int).toNat]? fun b =>
          bif decide ((↑b.toNat : Int) < (128 : Int)) then
            some
              (Out.ret (V.tup [V.d (D.int IntKind.i32 (65533 : Int)), V.d (D.int IntKind.i64 (1 : Int))]), [])
          else
            bif decide ((191 : Int) < (↑b.toNat : Int)) then
              some
                (Out.ret (V.tup [V.d (D.int IntKind.i32 (65533 : Int)), V.d (D.int IntKind.i64 (1 : Int))]), [])
            else
              must (decide ((2 : Int) < (↑(243 :: r).length : Int)))
                (optK (243 :: r)[(2 : Int).toNat]? fun b_1 =>
                  bif decide ((↑b_1.toNat : Int) < (128 : Int)) then
                    some
                      (Out.ret
                          (V.tup [V.d (D.int IntKind.i32 (65533 : Int)), V.d (D.int IntKind.i64 (1 : Int))]),
                        [])
                  else
                    bif decide ((191 : Int) < (↑b_1.toNat : Int)) then
                      some
                        (Out.ret
                            (V.tup [V.d (D.int IntKind.i32 (65533 : Int)), V.d (D.int IntKind.i64 (1 : Int))]),
                          [])
                    else
                      must (decide ((3 : Int) < (↑(243 :: r).length : Int)))
                        (optK (243 :: r)[(3 : Int).toNat]? fun b_2 =>
                          bif decide ((↑b_2.toNat : Int) < (128 : Int)) then
                            some
                              (Out.ret
                                  (V.tup
                                    [V.d (D.int IntKind.i32 (65533 : Int)), V.d (D.int IntKind.i64 (1 : Int))]),
                                [])
                          else
                            bif decide ((191 : Int) < (↑b_2.toNat : Int)) then
                              some
                                (Out.ret
                                    (V.tup
                                      [V.d (D.int IntKind.i32 (65533 : Int)),
                                        V.d (D.int IntKind.i64 (1 : Int))]),
                                  [])
                            else
                              some
                                (Out.ret
                                    (V.tup
                                      [V.d
                                          (D.int IntKind.i32
                                            (bitsI BinOp.or IntKind.i32
                                              (bitsI BinOp.or IntKind.i32
                                                (bitsI BinOp.or IntKind.i32 (786432 : Int)
                                                  (IntKind.i32.wrap
                                                    (IntKind.i32.wrap
                                                        (bitsI BinOp.and IntKind.u8 (↑b.toNat : Int) (63 : Int)) *
                                                      2 ^ min (12 : Int).toNat IntKind.i32.bits)))
                                                (IntKind.i32.wrap
                                                  (IntKind.i32.wrap
                                                      (bitsI BinOp.and IntKind.u8 (↑b_1.toNat : Int) (63 : Int)) *
                                                    2 ^ min (6 : Int).toNat IntKind.i32.bits)))
                                              (IntKind.i32.wrap
                                                (bitsI BinOp.and IntKind.u8 (↑b_2.toNat : Int) (63 : Int))))),
                                        V.d (D.int IntKind.i64 (4 : Int))]),
                                  []))))) := by kernel_rfl

theorem b20_244 (n : Nat) (S : Caller) (r : List UInt8) :
    evBody cx S n 58 [.d (.str (244 :: r))] [] =
  must (decide ((0 : Int) < (↑(244 :: r).length : Int)))
    (bif decide ((↑(244 :: r).length : Int) < (4 : Int)) then
      some (Out.ret (V.tup [V.d (D.int IntKind.i32 (65533 : Int)), V.d (D.int IntKind.i64 (1 : Int))]), [])
    else
      must (decide ((1 : Int) < (↑(244 :: r).length : Int)))
        (optK (244 :: r)[(1 : Int).toNat]? fun b =>
          bif decide ((↑b.toNat : Int) < (128 : Int)) then
            some
              (Out.ret (V.tup [V.d (D.int IntKind.i32 (65533 : Int)), V.d (D.int IntKind.i64 (1 : Int))]), [])
          else
            bif decide ((143 : Int) < (↑b.toNat : Int)) then
              some
                (Out.ret (V.tup [V.d (D.int IntKind.i32 (65533 : Int)), V.d (D.int IntKind.i64 (1 : Int))]), [])
            else
              must (decide ((2 : Int) < (↑(244 :: r).length : Int)))
                (optK (244 :: r)[(2 : Int).toNat]? fun b_1 =>
                  bif decide ((↑b_1.toNat : Int) < (128 : Int)) then
                    some
                      (Out.ret
                          (V.tup [V.d (D.int IntKind.i32 (65533 : Int)), V.d (D.int IntKind.i64 (1 : Int))]),
                        [])
                  else
                    bif decide ((191 : Int) < (↑b_1.toNat : Int)) then
                      some
                        (Out.ret
                            (V.tup [V.d (D.int IntKind.i32 (65533 : Int)), V.d (D.int IntKind.i64 (1 : Int))]),
                          [])
                    else
                      must (decide ((3 : Int) < (↑(244 :: r).length : Int)))
                        (optK (244 :: r)[(3 : Int).toNat]? fun b_2 =>
                          bif decide ((↑b_2.toNat : Int) < (128 : Int)) then
                            some
                              (Out.ret
                                  (V.tup
                                    [V.d (D.int IntKind.i32 (65533 : Int)), V.d (D.int IntKind.i64 (1 : Int))]),
                                [])
                          else
                            bif decide ((191 : Int) < (↑b_2.toNat : Int)) then
                              some
                                (Out.ret
                                    (V.tup
                                      [V.d (D.int IntKind.i32 (65533 : Int)),
                                        V.d (D.int IntKind.i64 (1 : Int))]),
                                  [])
                            else
                              some
                                (Out.ret
                                    (V.tup
                                      [V.d
                                          (D.int IntKind.i32
                                            (bitsI BinOp.or IntKind.i32
                                              (bitsI BinOp.or IntKind.i32
                                                (bitsI BinOp.or IntKind.i32 (1048576 : Int)
                                                  (IntKind.i32.wrap
                                                    (IntKind.i32.wrap
                                                        (bitsI BinOp.and IntKind.u8 (↑b.toNat : Int) (63 : Int)) *
                                                      2 ^ min (12 : Int).toNat IntKind.i32.bits)))
                                                (IntKind.i32.wrap
                                                  (IntKind.i32.wrap
                                                      (bitsI BinOp.and IntKind.u8 (↑b_1.toNat : Int) (63 : Int)) *
                                                    2 ^ min (6 : Int).toNat IntKind.i32.bits)))
                                              (IntKind.i32.wrap
                                                (bitsI BinOp.and IntKind.u8 (↑b_2.toNat : Int) (63 : Int))))),
                                        V.d (D.int IntKind.i64 (4 : Int))]),
                                  []))))) := by kernel_rfl

theorem b20_245 (n : Nat) (S : Caller) (r : List UInt8) :
    evBody cx S n 58 [.d (.str (245 :: r))] [] =
  must (decide ((0 : Int) < (↑(245 :: r).length : Int)))
    (must (decide ((0 : Int) < (↑(245 :: r).length : Int)))
      (some (Out.ret (V.tup [V.d (D.int IntKind.i32 (65533 : Int)), V.d (D.int IntKind.i64 (1 : Int))]), []))) := by kernel_rfl

theorem b20_246 (n : Nat) (S : Caller) (r : List UInt8) :
    evBody cx S n 58 [.d (.str (246 :: r))] [] =
  must (decide ((0 : Int) < (↑(246 :: r).length : Int)))
    (must (decide ((0 : Int) < (↑(246 :: r).length : Int)))
      (some (Out.ret (V.tup [V.d (D.int IntKind.i32 (65533 : Int)), V.d (D.int IntKind.i64 (1 : Int))]), []))) := by kernel_rfl

theorem b20_247 (n : Nat) (S : Caller) (r : List UInt8) :
    evBody cx S n 58 [.d (.str (247 :: r))] [] =
  must (decide ((0 : Int) < (↑(247 :: r).length : Int)))
    (must (decide ((0 : Int) < (↑(247 :: r).length : Int)))
      (some (Out.ret (V.tup [V.d (D.int IntKind.i32 (65533 : Int)), V.d (D.int IntKind.i64 (1 : Int))]), []))) := by kernel_rfl

theorem b20_248 (n : Nat) (S : Caller) (r : List UInt8) :
    evBody cx S n 58 [.d (.str (248 :: r))] [] =
  must (decide ((0 : Int) < (↑(248 :: r).length : Int)))
    (must (decide ((0 : Int) < (↑(248 :: r).length : Int)))
      (some (Out.ret (V.tup [V.d (D.int IntKind.i32 (65533 : Int)), V.d (D.int IntKind.i64 (1 : Int))]), []))) := by kernel_rfl

theorem b20_249 (n : Nat) (S : Caller) (r : List UInt8) :
    evBody cx S n 58 [.d (.str (249 :: r))] [] =
  must (decide ((0 : Int) < (↑(249 :: r).length : Int)))
    (must (decide ((0 : Int) < (↑(249 :: r).length : Int)))
      (some (Out.ret (V.tup [V.d (D.int IntKind.i32 (65533 : Int)), V.d (D.int IntKind.i64 (1 : Int))]), []))) := by kernel_rfl

theorem b20_250 (n : Nat) (S : Caller) (r : List UInt8) :
    evBody cx S n 58 [.d (.str (250 :: r))] [] =
  must (decide ((0 : Int) < (↑(250 :: r).length : Int)))
    (must (decide ((0 : Int) < (↑(250 :: r).length : Int)))
      (some (Out.ret (V.tup [V.d (D.int IntKind.i32 (65533 : Int)), V.d (D.int IntKind.i64 (1 : Int))]), []))) := by kernel_rfl

theorem b20_251 (n : Nat) (S : Caller) (r : List UInt8) :
    evBody cx S n 58 [.d (.str (251 :: r))] [] =
  must (decide ((0 : Int) < (↑(251 :: r).length : Int)))
    (must (decide ((0 : Int) < (↑(251 :: r).length : Int)))
      (some (Out.ret (V.tup [V.d (D.int IntKind.i32 (65533 : Int)), V.d (D.int IntKind.i64 (1 : Int))]), []))) := by kernel_rfl

theorem b20_252 (n : Nat) (S : Caller) (r : List UInt8) :
    evBody cx S n 58 [.d (.str (252 :: r))] [] =
  must (decide ((0 : Int) < (↑(252 :: r).length : Int)))
    (must (decide ((0 : Int) < (↑(252 :: r).length : Int)))
      (some (Out.ret (V.tup [V.d (D.int IntKind.i32 (65533 : Int)), V.d (D.int IntKind.i64 (1 : Int))]), []))) := by kernel_rfl

theorem b20_253 (n : Nat) (S : Caller) (r : List UInt8) :
    evBody cx S n 58 [.d (.str (253 :: r))] [] =
  must (decide ((0 : Int) < (↑(253 :: r).length : Int)))
    (must (decide ((0 : Int) < (↑(253 :: r).length : Int)))
      (some (Out.ret (V.tup [V.d (D.int IntKind.i32 (65533 : Int)), V.d (D.int IntKind.i64 (1 : Int))]), []))) := by kernel_rfl

theorem b20_254 (n : Nat) (S : Caller) (r : List UInt8) :
    evBody cx S n 58 [.d (.str (254 :: r))] [] =
  must (decide ((0 : Int) < (↑(254 :: r).length : Int)))
    (must (decide ((0 : Int) < (↑(254 :: r).length : Int)))
      (some (Out.ret (V.tup [V.d (D.int IntKind.i32 (65533 : Int)), V.d (D.int IntKind.i64 (1 : Int))]), []))) := by kernel_rfl

theorem b20_255 (n : Nat) (S : Caller) (r : List UInt8) :
    evBody cx S n 58 [.d (.str (255 :: r))] [] =
  must (decide ((0 : Int) < (↑(255 :: r).length : Int)))
    (must (decide ((0 : Int) < (↑(255 :: r).length : Int)))
      (some (Out.ret (V.tup [V.d (D.int IntKind.i32 (65533 : Int)), V.d (D.int IntKind.i64 (1 : Int))]), []))) := by kernel_rfl


theorem d20_128 (l : List UInt8) : DecR (128 :: l) := by
  refine decBad ?_ rfl
  rw [b20_128, len0]
  rfl

theorem d20_129 (l : List UInt8) : DecR (129 :: l) := by
  refine decBad ?_ rfl
  rw [b20_129, len0]
  rfl

theorem d20_130 (l : List UInt8) : DecR (130 :: l) := by
  refine decBad ?_ rfl
  rw [b20_130, len0]
  rfl

theorem d20_131 (l : List UInt8) : DecR (131 :: l) := by
  refine decBad ?_ rfl
  rw [b20_131, len0]
  rfl

theorem d20_132 (l : List UInt8) : DecR (132 :: l) := by
  refine decBad ?_ rfl
  rw [b20_132, len0]
  rfl

theorem d20_133 (l : List UInt8) : DecR (133 :: l) := by
  refine decBad ?_ rfl
  rw [b20_133, len0]
  rfl

theorem d20_134 (l : List UInt8) : DecR (134 :: l) := by
  refine decBad ?_ rfl
  rw [b20_134, len0]
  rfl

theorem d20_135 (l : List UInt8) : DecR (135 :: l) := by
  refine decBad ?_ rfl
  rw [b20_135, len0]
  rfl

theorem d20_136 (l : List UInt8) : DecR (136 :: l) := by
  refine decBad ?_ rfl
  rw [b20_136, len0]
  rfl

theorem d20_137 (l : List UInt8) : DecR (137 :: l) := by
  refine decBad ?_ rfl
  rw [b20_137, len0]
  rfl

theorem d20_138 (l : List UInt8) : DecR (138 :: l) := by
  refine decBad ?_ rfl
  rw [b20_138, len0]
  rfl

theorem d20_139 (l : List UInt8) : DecR (139 :: l) := by
  refine decBad ?_ rfl
  rw [b20_139, len0]
  rfl

theorem d20_140 (l : List UInt8) : DecR (140 :: l) := by
  refine decBad ?_ rfl
  rw [b20_140, len0]
  rfl

theorem d20_141 (l : List UInt8) : DecR (141 :: l) := by
  refine decBad ?_ rfl
  rw [b20_141, len0]
  rfl

theorem d20_142 (l : List UInt8) : DecR (142 :: l) := by
  refine decBad ?_ rfl
  rw [b20_142, len0]
  rfl

theorem d20_143 (l : List UInt8) : DecR (143 :: l) := by
  refine decBad ?_ rfl
  rw [b20_143, len0]
  rfl

theorem d20_144 (l : List UInt8) : DecR (144 :: l) := by
  refine decBad ?_ rfl
  rw [b20_144, len0]
  rfl

theorem d20_145 (l : List UInt8) : DecR (145 :: l) := by
  refine decBad ?_ rfl
  rw [b20_145, len0]
  rfl

theorem d20_146 (l : List UInt8) : DecR (146 :: l) := by
  refine decBad ?_ rfl
  rw [b20_146, len0]
  rfl

theorem d20_147 (l : List UInt8) : DecR (147 :: l) := by
  refine decBad ?_ rfl
  rw [b20_147, len0]
  rfl

theorem d20_148 (l : List UInt8) : DecR (148 :: l) := by
  refine decBad ?_ rfl
  rw [b20_148, len0]
  rfl

theorem d20_149 (l : List UInt8) : DecR (149 :: l) := by
  refine decBad ?_ rfl
  rw [b20_149, len0]
  rfl

theorem d20_150 (l : List UInt8) : DecR (150 :: l) := by
  refine decBad ?_ rfl
  rw [b20_150, len0]
  rfl

theorem d20_151 (l : List UInt8) : DecR (151 :: l) := by
  refine decBad ?_ rfl
  rw [b20_151, len0]
  rfl

theorem d20_152 (l : List UInt8) : DecR (152 :: l) := by
  refine decBad ?_ rfl
  rw [b20_152, len0]
  rfl

theorem d20_153 (l : List UInt8) : DecR (153 :: l) := by
  refine decBad ?_ rfl
  rw [b20_153, len0]
  rfl

theorem d20_154 (l : List UInt8) : DecR (154 :: l) := by
  refine decBad ?_ rfl
  rw [b20_154, len0]
  rfl

theorem d20_155 (l : List UInt8) : DecR (155 :: l) := by
  refine decBad ?_ rfl
  rw [b20_155, len0]
  rfl

theorem d20_156 (l : List UInt8) : DecR (156 :: l) := by
  refine decBad ?_ rfl
  rw [b20_156, len0]
  rfl

theorem d20_157 (l : List UInt8) : DecR (157 :: l) := by
  refine decBad ?_ rfl
  rw [b20_157, len0]
  rfl

theorem d20_158 (l : List UInt8) : DecR (158 :: l) := by
  refine decBad ?_ rfl
  rw [b20_158, len0]
  rfl

theorem d20_159 (l : List UInt8) : DecR (159 :: l) := by
  refine decBad ?_ rfl
  rw [b20_159, len0]
  rfl

theorem d20_160 (l : List UInt8) : DecR (160 :: l) := by
  refine decBad ?_ rfl
  rw [b20_160, len0]
  rfl

theorem d20_161 (l : List UInt8) : DecR (161 :: l) := by
  refine decBad ?_ rfl
  rw [b20_161, len0]
  rfl

theorem d20_162 (l : List UInt8) : DecR (162 :: l) := by
  refine decBad ?_ rfl
  rw [b20_162, len0]
  rfl

theorem d20_163 (l : List UInt8) : DecR (163 :: l) := by
  refine decBad ?_ rfl
  rw [b20_163, len0]
  rfl

theorem d20_164 (l : List UInt8) : DecR (164 :: l) := by
  refine decBad ?_ rfl
  rw [b20_164, len0]
  rfl

theorem d20_165 (l : List UInt8) : DecR (165 :: l) := by
  refine decBad ?_ rfl
  rw [b20_165, len0]
  rfl

theorem d20_166 (l : List UInt8) : DecR (166 :: l) := by
  refine decBad ?_ rfl
  rw [b20_166, len0]
  rfl

theorem d20_167 (l : List UInt8) : DecR (167 :: l) := by
  refine decBad ?_ rfl
  rw [b20_167, len0]
  rfl

theorem d20_168 (l : List UInt8) : DecR (168 :: l) := by
  refine decBad ?_ rfl
  rw [b20_168, len0]
  rfl

theorem d20_169 (l : List UInt8) : DecR (169 :: l) := by
  refine decBad ?_ rfl
  rw [b20_169, len0]
  rfl

theorem d20_170 (l : List UInt8) : DecR (170 :: l) := by
  refine decBad ?_ rfl
  rw [b20_170, len0]
  rfl

theorem d20_171 (l : List UInt8) : DecR (171 :: l) := by
  refine decBad ?_ rfl
  rw [b20_171, len0]
  rfl

theorem d20_172 (l : List UInt8) : DecR (172 :: l) := by
  refine decBad ?_ rfl
  rw [b20_172, len0]
  rfl

theorem d20_173 (l : List UInt8) : DecR (173 :: l) := by
  refine decBad ?_ rfl
  rw [b20_173, len0]
  rfl

theorem d20_174 (l : List UInt8) : DecR (174 :: l) := by
  refine decBad ?_ rfl
  rw [b20_174, len0]
  rfl

theorem d20_175 (l : List UInt8) : DecR (175 :: l) := by
  refine decBad ?_ rfl
  rw [b20_175, len0]
  rfl

theorem d20_176 (l : List UInt8) : DecR (176 :: l) := by
  refine decBad ?_ rfl
  rw [b20_176, len0]
  rfl

theorem d20_177 (l : List UInt8) : DecR (177 :: l) := by
  refine decBad ?_ rfl
  rw [b20_177, len0]
  rfl

theorem d20_178 (l : List UInt8) : DecR (178 :: l) := by
  refine decBad ?_ rfl
  rw [b20_178, len0]
  rfl

theorem d20_179 (l : List UInt8) : DecR (179 :: l) := by
  refine decBad ?_ rfl
  rw [b20_179, len0]
  rfl

theorem d20_180 (l : List UInt8) : DecR (180 :: l) := by
  refine decBad ?_ rfl
  rw [b20_180, len0]
  rfl

theorem d20_181 (l : List UInt8) : DecR (181 :: l) := by
  refine decBad ?_ rfl
  rw [b20_181, len0]
  rfl

theorem d20_182 (l : List UInt8) : DecR (182 :: l) := by
  refine decBad ?_ rfl
  rw [b20_182, len0]
  rfl

theorem d20_183 (l : List UInt8) : DecR (183 :: l) := by
  refine decBad ?_ rfl
  rw [b20_183, len0]
  rfl

theorem d20_184 (l : List UInt8) : DecR (184 :: l) := by
  refine decBad ?_ rfl
  rw [b20_184, len0]
  rfl

theorem d20_185 (l : List UInt8) : DecR (185 :: l) := by
  refine decBad ?_ rfl
  rw [b20_185, len0]
  rfl

theorem d20_186 (l : List UInt8) : DecR (186 :: l) := by
  refine decBad ?_ rfl
  rw [b20_186, len0]
  rfl

theorem d20_187 (l : List UInt8) : DecR (187 :: l) := by
  refine decBad ?_ rfl
  rw [b20_187, len0]
  rfl

theorem d20_188 (l : List UInt8) : DecR (188 :: l) := by
  refine decBad ?_ rfl
  rw [b20_188, len0]
  rfl

theorem d20_189 (l : List UInt8) : DecR (189 :: l) := by
  refine decBad ?_ rfl
  rw [b20_189, len0]
  rfl

theorem d20_190 (l : List UInt8) : DecR (190 :: l) := by
  refine decBad ?_ rfl
  rw [b20_190, len0]
  rfl

theorem d20_191 (l : List UInt8) : DecR (191 :: l) := by
  refine decBad ?_ rfl
  rw [b20_191, len0]
  rfl

theorem d20_192 (l : List UInt8) : DecR (192 :: l) := by
  refine decBad ?_ rfl
  rw [b20_192, len0]
  rfl

theorem d20_193 (l : List UInt8) : DecR (193 :: l) := by
  refine decBad ?_ rfl
  rw [b20_193, len0]
  rfl

theorem d20_194 : ∀ (l : List UInt8), DecR (194 :: l)
  | [] => by
    refine decBad ?_ rfl
    rw [b20_194]
    rfl
  | c :: l => by
    have hu : Sp.uni (194 :: c :: l) = (bif Sp.cont c then 2 else 0) := rfl
    by_cases h0a : (c.toNat : Int) < 128
    · exact decBad (by rw [b20_194]; simp only [len0, len1, len2, len3, ge2, ge3, ge4, at1, at2, at3, must, optK, cond_true, cond_false, decide_eq_true h0a]) (by rw [hu, contF (c := c) (.inl h0a)]; simp only [Bool.and_false, Bool.false_and, cond_false])
    by_cases h0b : (191 : Int) < (c.toNat : Int)
    · exact decBad (by rw [b20_194]; simp only [len0, len1, len2, len3, ge2, ge3, ge4, at1, at2, at3, must, optK, cond_true, cond_false, decide_eq_false h0a, decide_eq_true h0b]) (by rw [hu, contF (c := c) (.inr h0b)]; simp only [Bool.and_false, Bool.false_and, cond_false])
    exact decGood (k := 2) (by rw [b20_194]; simp only [len0, len1, len2, len3, ge2, ge3, ge4, at1, at2, at3, must, optK, cond_true, cond_false, decide_eq_false h0a, decide_eq_false h0b]; rfl) (by rw [hu, contT (c := c) h0a h0b]; first | done | rfl) (by omega)

theorem d20_195 : ∀ (l : List UInt8), DecR (195 :: l)
  | [] => by
    refine decBad ?_ rfl
    rw [b20_195]
    rfl
  | c :: l => by
    have hu : Sp.uni (195 :: c :: l) = (bif Sp.cont c then 2 else 0) := rfl
    by_cases h0a : (c.toNat : Int) < 128
    · exact decBad (by rw [b20_195]; simp only [len0, len1, len2, len3, ge2, ge3, ge4, at1, at2, at3, must, optK, cond_true, cond_false, decide_eq_true h0a]) (by rw [hu, contF (c := c) (.inl h0a)]; simp only [Bool.and_false, Bool.false_and, cond_false])
    by_cases h0b : (191 : Int) < (c.toNat : Int)
    · exact decBad (by rw [b20_195]; simp only [len0, len1, len2, len3, ge2, ge3, ge4, at1, at2, at3, must, optK, cond_true, cond_false, decide_eq_false h0a, decide_eq_true h0b]) (by rw [hu, contF (c := c) (.inr h0b)]; simp only [Bool.and_false, Bool.false_and, cond_false])
    exact decGood (k := 2) (by rw [b20_195]; simp only [len0, len1, len2, len3, ge2, ge3, ge4, at1, at2, at3, must, optK, cond_true, cond_false, decide_eq_false h0a, decide_eq_false h0b]; rfl) (by rw [hu, contT (c := c) h0a h0b]; first | done | rfl) (by omega)

theorem d20_196 : ∀ (l : List UInt8), DecR (196 :: l)
  | [] => by
    refine decBad ?_ rfl
    rw [b20_196]
    rfl
  | c :: l => by
    have hu : Sp.uni (196 :: c :: l) = (bif Sp.cont c then 2 else 0) := rfl
    by_cases h0a : (c.toNat : Int) < 128
    · exact decBad (by rw [b20_196]; simp only [len0, len1, len2, len3, ge2, ge3, ge4, at1, at2, at3, must, optK, cond_true, cond_false, decide_eq_true h0a]) (by rw [hu, contF (c := c) (.inl h0a)]; simp only [Bool.and_false, Bool.false_and, cond_false])
    by_cases h0b : (191 : Int) < (c.toNat : Int)
    · exact decBad (by rw [b20_196]; simp only [len0, len1, len2, len3, ge2, ge3, ge4, at1, at2, at3, must, optK, cond_true, cond_false, decide_eq_false h0a, decide_eq_true h0b]) (by rw [hu, contF (c := c) (.inr h0b)]; simp only [Bool.and_false, Bool.false_and, cond_false])
    exact decGood (k := 2) (by rw [b20_196]; simp only [len0, len1, len2, len3, ge2, ge3, ge4, at1, at2, at3, must, optK, cond_true, cond_false, decide_eq_false h0a, decide_eq_false h0b]; rfl) (by rw [hu, contT (c := c) h0a h0b]; first | done | rfl) (by omega)

theorem d20_197 : ∀ (l : List UInt8), DecR (197 :: l)
  | [] => by
    refine decBad ?_ rfl
    rw [b20_197]
    rfl
  | c :: l => by
    have hu : Sp.uni (197 :: c :: l) = (bif Sp.cont c then 2 else 0) := rfl
    by_cases h0a : (c.toNat : Int) < 128
    · exact decBad (by rw [b20_197]; simp only [len0, len1, len2, len3, ge2, ge3, ge4, at1, at2, at3, must, optK, cond_true, cond_false, decide_eq_true h0a]) (by rw [hu, contF (c := c) (.inl h0a)]; simp only [Bool.and_false, Bool.false_and, cond_false])
    by_cases h0b : (191 : Int) < (c.toNat : Int)
    · exact decBad (by rw [b20_197]; simp only [len0, len1, len2, len3, ge2, ge3, ge4, at1, at2, at3, must, optK, cond_true, cond_false, decide_eq_false h0a, decide_eq_true h0b]) (by rw [hu, contF (c := c) (.inr h0b)]; simp only [Bool.and_false, Bool.false_and, cond_false])
    exact decGood (k := 2) (by rw [b20_197]; simp only [len0, len1, len2, len3, ge2, ge3, ge4, at1, at2, at3, must, optK, cond_true, cond_false, decide_eq_false h0a, decide_eq_false h0b]; rfl) (by rw [hu, contT (c := c) h0a h0b]; first | done | rfl) (by omega)

theorem d20_198 : ∀ (l : List UInt8), DecR (198 :: l)
  | [] => by
    refine decBad ?_ rfl
    rw [b20_198]
    rfl
  | c :: l => by
    have hu : Sp.uni (198 :: c :: l) = (bif Sp.cont c then 2 else 0) := rfl
    by_cases h0a : (c.toNat : Int) < 128
    · exact decBad (by rw [b20_198]; simp only [len0, len1, len2, len3, ge2, ge3, ge4, at1, at2, at3, must, optK, cond_true, cond_false, decide_eq_true h0a]) (by rw [hu, contF (c := c) (.inl h0a)]; simp only [Bool.and_false, Bool.false_and, cond_false])
    by_cases h0b : (191 : Int) < (c.toNat : Int)
    · exact decBad (by rw [b20_198]; simp only [len0, len1, len2, len3, ge2, ge3, ge4, at1, at2, at3, must, optK, cond_true, cond_false, decide_eq_false h0a, decide_eq_true h0b]) (by rw [hu, contF (c := c) (.inr h0b)]; simp only [Bool.and_false, Bool.false_and, cond_false])
    exact decGood (k := 2) (by rw [b20_198]; simp only [len0, len1, len2, len3, ge2, ge3, ge4, at1, at2, at3, must, optK, cond_true, cond_false, decide_eq_false h0a, decide_eq_false h0b]; rfl) (by rw [hu, contT (c := c) h0a h0b]; first | done | rfl) (by omega)

theorem d20_199 : ∀ (l : List UInt8), DecR (199 :: l)
  | [] => by
    refine decBad ?_ rfl
    rw [b20_199]
    rfl
  | c :: l => by
    have hu : Sp.uni (199 :: c :: l) = (bif Sp.cont c then 2 else 0) := rfl
    by_cases h0a : (c.toNat : Int) < 128
    · exact decBad (by rw [b20_199]; simp only [len0, len1, len2, len3, ge2, ge3, ge4, at1, at2, at3, must, optK, cond_true, cond_false, decide_eq_true h0a]) (by rw [hu, contF (c := c) (.inl h0a)]; simp only [Bool.and_false, Bool.false_and, cond_false])
    by_cases h0b : (191 : Int) < (c.toNat : Int)
    · exact decBad (by rw [b20_199]; simp only [len0, len1, len2, len3, ge2, ge3, ge4, at1, at2, at3, must, optK, cond_true, cond_false, decide_eq_false h0a, decide_eq_true h0b]) (by rw [hu, contF (c := c) (.inr h0b)]; simp only [Bool.and_false, Bool.false_and, cond_false])
    exact decGood (k := 2) (by rw [b20_199]; simp only [len0, len1, len2, len3, ge2, ge3, ge4, at1, at2, at3, must, optK, cond_true, cond_false, decide_eq_false h0a, decide_eq_false h0b]; rfl) (by rw [hu, contT (c := c) h0a h0b]; first | done | rfl) (by omega)

theorem d20_200 : ∀ (l : List UInt8), DecR (200 :: l)
  | [] => by
    refine decBad ?_ rfl
    rw [b20_200]
    rfl
  | c :: l => by
    have hu : Sp.uni (200 :: c :: l) = (bif Sp.cont c then 2 else 0) := rfl
    by_cases h0a : (c.toNat : Int) < 128
    · exact decBad (by rw [b20_200]; simp only [len0, len1, len2, len3, ge2, ge3, ge4, at1, at2, at3, must, optK, cond_true, cond_false, decide_eq_true h0a]) (by rw [hu, contF (c := c) (.inl h0a)]; simp only [Bool.and_false, Bool.false_and, cond_false])
    by_cases h0b : (191 : Int) < (c.toNat : Int)
    · exact decBad (by rw [b20_200]; simp only [len0, len1, len2, len3, ge2, ge3, ge4, at1, at2, at3, must, optK, cond_true, cond_false, decide_eq_false h0a, decide_eq_true h0b]) (by rw [hu, contF (c := c) (.inr h0b)]; simp only [Bool.and_false, Bool.false_and, cond_false])
    exact decGood (k := 2) (by rw [b20_200]; simp only [len0, len1, len2, len3, ge2, ge3, ge4, at1, at2, at3, must, optK, cond_true, cond_false, decide_eq_false h0a, decide_eq_false h0b]; rfl) (by rw [hu, contT (c := c) h0a h0b]; first | done | rfl) (by omega)

theorem d20_201 : ∀ (l : List UInt8), DecR (201 :: l)
  | [] => by
    refine decBad ?_ rfl
    rw [b20_201]
    rfl
  | c :: l => by
    have hu : Sp.uni (201 :: c :: l) = (bif Sp.cont c then 2 else 0) := rfl
    by_cases h0a : (c.toNat : Int) < 128
    · exact decBad (by rw [b20_201]; simp only [len0, len1, len2, len3, ge2, ge3, ge4, at1, at2, at3, must, optK, cond_true, cond_false, decide_eq_true h0a]) (by rw [hu, contF (c := c) (.inl h0a)]; simp only [Bool.and_false, Bool.false_and, cond_false])
    by_cases h0b : (191 : Int) < (c.toNat : Int)
    · exact decBad (by rw [b20_201]; simp only [len0, len1, len2, len3, ge2, ge3, ge4, at1, at2, at3, must, optK, cond_true, cond_false, decide_eq_false h0a, decide_eq_true h0b]) (by rw [hu, contF (c := c) (.inr h0b)]; simp only [Bool.and_false, Bool.false_and, cond_false])
    exact decGood (k := 2) (by rw [b20_201]; simp only [len0, len1, len2, len3, ge2, ge3, ge4, at1, at2, at3, must, optK, cond_true, cond_false, decide_eq_false h0a, decide_eq_false h0b]; rfl) (by rw [hu, contT (c := c) h0a h0b]; first | done | rfl) (by omega)

theorem d20_202 : ∀ (l : List UInt8), DecR (202 :: l)
  | [] => by
    refine decBad ?_ rfl
    rw [b20_202]
    rfl
  | c :: l => by
    have hu : Sp.uni (202 :: c :: l) = (bif Sp.cont c then 2 else 0) := rfl
    by_cases h0a : (c.toNat : Int) < 128
    · exact decBad (by rw [b20_202]; simp only [len0, len1, len2, len3, ge2, ge3, ge4, at1, at2, at3, must, optK, cond_true, cond_false, decide_eq_true h0a]) (by rw [hu, contF (c := c) (.inl h0a)]; simp only [Bool.and_false, Bool.false_and, cond_false])
    by_cases h0b : (191 : Int) < (c.toNat : Int)
    · exact decBad (by rw [b20_202]; simp only [len0, len1, len2, len3, ge2, ge3, ge4, at1, at2, at3, must, optK, cond_true, cond_false, decide_eq_false h0a, decide_eq_true h0b]) (by rw [hu, contF (c := c) (.inr h0b)]; simp only [Bool.and_false, Bool.false_and, cond_false])
    exact decGood (k := 2) (by rw [b20_202]; simp only [len0, len1, len2, len3, ge2, ge3, ge4, at1, at2, at3, must, optK, cond_true, cond_false, decide_eq_false h0a, decide_eq_false h0b]; rfl) (by rw [hu, contT (c := c) h0a h0b]; first | done | rfl) (by omega)

theorem d20_203 : ∀ (l : List UInt8), DecR (203 :: l)
  | [] => by
    refine decBad ?_ rfl
    rw [b20_203]
    rfl
  | c :: l => by
    have hu : Sp.uni (203 :: c :: l) = (bif Sp.cont c then 2 else 0) := rfl
    by_cases h0a : (c.toNat : Int) < 128
    · exact decBad (by rw [b20_203]; simp only [len0, len1, len2, len3, ge2, ge3, ge4, at1, at2, at3, must, optK, cond_true, cond_false, decide_eq_true h0a]) (by rw [hu, contF (c := c) (.inl h0a)]; simp only [Bool.and_false, Bool.false_and, cond_false])
    by_cases h0b : (191 : Int) < (c.toNat : Int)
    · exact decBad (by rw [b20_203]; simp only [len0, len1, len2, len3, ge2, ge3, ge4, at1, at2, at3, must, optK, cond_true, cond_false, decide_eq_false h0a, decide_eq_true h0b]) (by rw [hu, contF (c := c) (.inr h0b)]; simp only [Bool.and_false, Bool.false_and, cond_false])
    exact decGood (k := 2) (by rw [b20_203]; simp only [len0, len1, len2, len3, ge2, ge3, ge4, at1, at2, at3, must, optK, cond_true, cond_false, decide_eq_false h0a, decide_eq_false h0b]; rfl) (by rw [hu, contT (c := c) h0a h0b]; first | done | rfl) (by omega)

theorem d20_204 : ∀ (l : List UInt8), DecR (204 :: l)
  | [] => by
    refine decBad ?_ rfl
    rw [b20_204]
    rfl
  | c :: l => by
    have hu : Sp.uni (204 :: c :: l) = (bif Sp.cont c then 2 else 0) := rfl
    by_cases h0a : (c.toNat : Int) < 128
    · exact decBad (by rw [b20_204]; simp only [len0, len1, len2, len3, ge2, ge3, ge4, at1, at2, at3, must, optK, cond_true, cond_false, decide_eq_true h0a]) (by rw [hu, contF (c := c) (.inl h0a)]; simp only [Bool.and_false, Bool.false_and, cond_false])
    by_cases h0b : (191 : Int) < (c.toNat : Int)
    · exact decBad (by rw [b20_204]; simp only [len0, len1, len2, len3, ge2, ge3, ge4, at1, at2, at3, must, optK, cond_true, cond_false, decide_eq_false h0a, decide_eq_true h0b]) (by rw [hu, contF (c := c) (.inr h0b)]; simp only [Bool.and_false, Bool.false_and, cond_false])
    exact decGood (k := 2) (by rw [b20_204]; simp only [len0, len1, len2, len3, ge2, ge3, ge4, at1, at2, at3, must, optK, cond_true, cond_false, decide_eq_false h0a, decide_eq_false h0b]; rfl) (by rw [hu, contT (c := c) h0a h0b]; first | done | rfl) (by omega)

theorem d20_205 : ∀ (l : List UInt8), DecR (205 :: l)
  | [] => by
    refine decBad ?_ rfl
    rw [b20_205]
    rfl
  | c :: l => by
    have hu : Sp.uni (205 :: c :: l) = (bif Sp.cont c then 2 else 0) := rfl
    by_cases h0a : (c.toNat : Int) < 128
    · exact decBad (by rw [b20_205]; simp only [len0, len1, len2, len3, ge2, ge3, ge4, at1, at2, at3, must, optK, cond_true, cond_false, decide_eq_true h0a]) (by rw [hu, contF (c := c) (.inl h0a)]; simp only [Bool.and_false, Bool.false_and, cond_false])
    by_cases h0b : (191 : Int) < (c.toNat : Int)
    · exact decBad (by rw [b20_205]; simp only [len0, len1, len2, len3, ge2, ge3, ge4, at1, at2, at3, must, optK, cond_true, cond_false, decide_eq_false h0a, decide_eq_true h0b]) (by rw [hu, contF (c := c) (.inr h0b)]; simp only [Bool.and_false, Bool.false_and, cond_false])
    exact decGood (k := 2) (by rw [b20_205]; simp only [len0, len1, len2, len3, ge2, ge3, ge4, at1, at2, at3, must, optK, cond_true, cond_false, decide_eq_false h0a, decide_eq_false h0b]; rfl) (by rw [hu, contT (c := c) h0a h0b]; first | done | rfl) (by omega)

theorem d20_206 : ∀ (l : List UInt8), DecR (206 :: l)
  | [] => by
    refine decBad ?_ rfl
    rw [b20_206]
    rfl
  | c :: l => by
    have hu : Sp.uni (206 :: c :: l) = (bif Sp.cont c then 2 else 0) := rfl
    by_cases h0a : (c.toNat : Int) < 128
    · exact decBad (by rw [b20_206]; simp only [len0, len1, len2, len3, ge2, ge3, ge4, at1, at2, at3, must, optK, cond_true, cond_false, decide_eq_true h0a]) (by rw [hu, contF (c := c) (.inl h0a)]; simp only [Bool.and_false, Bool.false_and, cond_false])
    by_cases h0b : (191 : Int) < (c.toNat : Int)
    · exact decBad (by rw [b20_206]; simp only [len0, len1, len2, len3, ge2, ge3, ge4, at1, at2, at3, must, optK, cond_true, cond_false, decide_eq_false h0a, decide_eq_true h0b]) (by rw [hu, contF (c := c) (.inr h0b)]; simp only [Bool.and_false, Bool.false_and, cond_false])
    exact decGood (k := 2) (by rw [b20_206]; simp only [len0, len1, len2, len3, ge2, ge3, ge4, at1, at2, at3, must, optK, cond_true, cond_false, decide_eq_false h0a, decide_eq_false h0b]; rfl) (by rw [hu, contT (c := c) h0a h0b]; first | done | rfl) (by omega)

theorem d20_207 : ∀ (l : List UInt8), DecR (207 :: l)
  | [] => by
    refine decBad ?_ rfl
    rw [b20_207]
    rfl
  | c :: l => by
    have hu : Sp.uni (207 :: c :: l) = (bif Sp.cont c then 2 else 0) := rfl
    by_cases h0a : (c.toNat : Int) < 128
    · exact decBad (by rw [b20_207]; simp only [len0, len1, len2, len3, ge2, ge3, ge4, at1, at2, at3, must, optK, cond_true, cond_false, decide_eq_true h0a]) (by rw [hu, contF (c := c) (.inl h0a)]; simp only [Bool.and_false, Bool.false_and, cond_false])
    by_cases h0b : (191 : Int) < (c.toNat : Int)
    · exact decBad (by rw [b20_207]; simp only [len0, len1, len2, len3, ge2, ge3, ge4, at1, at2, at3, must, optK, cond_true, cond_false, decide_eq_false h0a, decide_eq_true h0b]) (by rw [hu, contF (c := c) (.inr h0b)]; simp only [Bool.and_false, Bool.false_and, cond_false])
    exact decGood (k := 2) (by rw [b20_207]; simp only [len0, len1, len2, len3, ge2, ge3, ge4, at1, at2, at3, must, optK, cond_true, cond_false, decide_eq_false h0a, decide_eq_false h0b]; rfl) (by rw [hu, contT (c := c) h0a h0b]; first | done | rfl) (by omega)

theorem d20_208 : ∀ (l : List UInt8), DecR (208 :: l)
  | [] => by
    refine decBad ?_ rfl
    rw [b20_208]
    rfl
  | c :: l => by
    have hu : Sp.uni (208 :: c :: l) = (bif Sp.cont c then 2 else 0) := rfl
    by_cases h0a : (c.toNat : Int) < 128
    · exact decBad (by rw [b20_208]; simp only [len0, len1, len2, len3, ge2, ge3, ge4, at1, at2, at3, must, optK, cond_true, cond_false, decide_eq_true h0a]) (by rw [hu, contF (c := c) (.inl h0a)]; simp only [Bool.and_false, Bool.false_and, cond_false])
    by_cases h0b : (191 : Int) < (c.toNat : Int)
    · exact decBad (by rw [b20_208]; simp only [len0, len1, len2, len3, ge2, ge3, ge4, at1, at2, at3, must, optK, cond_true, cond_false, decide_eq_false h0a, decide_eq_true h0b]) (by rw [hu, contF (c := c) (.inr h0b)]; simp only [Bool.and_false, Bool.false_and, cond_false])
    exact decGood (k := 2) (by rw [b20_208]; simp only [len0, len1, len2, len3, ge2, ge3, ge4, at1, at2, at3, must, optK, cond_true, cond_false, decide_eq_false h0a, decide_eq_false h0b]; rfl) (by rw [hu, contT (c := c) h0a h0b]; first | done | rfl) (by omega)

theorem d20_209 : ∀ (l : List UInt8), DecR (209 :: l)
  | [] => by
    refine decBad ?_ rfl
    rw [b20_209]
    rfl
  | c :: l => by
    have hu : Sp.uni (209 :: c :: l) = (bif Sp.cont c then 2 else 0) := rfl
    by_cases h0a : (c.toNat : Int) < 128
    · exact decBad (by rw [b20_209]; simp only [len0, len1, len2, len3, ge2, ge3, ge4, at1, at2, at3, must, optK, cond_true, cond_false, decide_eq_true h0a]) (by rw [hu, contF (c := c) (.inl h0a)]; simp only [Bool.and_false, Bool.false_and, cond_false])
    by_cases h0b : (191 : Int) < (c.toNat : Int)
    · exact decBad (by rw [b20_209]; simp only [len0, len1, len2, len3, ge2, ge3, ge4, at1, at2, at3, must, optK, cond_true, cond_false, decide_eq_false h0a, decide_eq_true h0b]) (by rw [hu, contF (c := c) (.inr h0b)]; simp only [Bool.and_false, Bool.false_and, cond_false])
    exact decGood (k := 2) (by rw [b20_209]; simp only [len0, len1, len2, len3, ge2, ge3, ge4, at1, at2, at3, must, optK, cond_true, cond_false, decide_eq_false h0a, decide_eq_false h0b]; rfl) (by rw [hu, contT (c := c) h0a h0b]; first | done | rfl) (by omega)

theorem d20_210 : ∀ (l : List UInt8), DecR (210 :: l)
  | [] => by
    refine decBad ?_ rfl
    rw [b20_210]
    rfl
  | c :: l => by
    have hu : Sp.uni (210 :: c :: l) = (bif Sp.cont c then 2 else 0) := rfl
    by_cases h0a : (c.toNat : Int) < 128
    · exact decBad (by rw [b20_210]; simp only [len0, len1, len2, len3, ge2, ge3, ge4, at1, at2, at3, must, optK, cond_true, cond_false, decide_eq_true h0a]) (by rw [hu, contF (c := c) (.inl h0a)]; simp only [Bool.and_false, Bool.false_and, cond_false])
    by_cases h0b : (191 : Int) < (c.toNat : Int)
    · exact decBad (by rw [b20_210]; simp only [len0, len1, len2, len3, ge2, ge3, ge4, at1, at2, at3, must, optK, cond_true, cond_false, decide_eq_false h0a, decide_eq_true h0b]) (by rw [hu, contF (c := c) (.inr h0b)]; simp only [Bool.and_false, Bool.false_and, cond_false])
    exact decGood (k := 2) (by rw [b20_210]; simp only [len0, len1, len2, len3, ge2, ge3, ge4, at1, at2, at3, must, optK, cond_true, cond_false, decide_eq_false h0a, decide_eq_false h0b]; rfl) (by rw [hu, contT (c := c) h0a h0b]; first | done | rfl) (by omega)

theorem d20_211 : ∀ (l : List UInt8), DecR (211 :: l)
  | [] => by
    refine decBad ?_ rfl
    rw [b20_211]
    rfl
  | c :: l => by
    have hu : Sp.uni (211 :: c :: l) = (bif Sp.cont c then 2 else 0) := rfl
    by_cases h0a : (c.toNat : Int) < 128
    · exact decBad (by rw [b20_211]; simp only [len0, len1, len2, len3, ge2, ge3, ge4, at1, at2, at3, must, optK, cond_true, cond_false, decide_eq_true h0a]) (by rw [hu, contF (c := c) (.inl h0a)]; simp only [Bool.and_false, Bool.false_and, cond_false])
    by_cases h0b : (191 : Int) < (c.toNat : Int)
    · exact decBad (by rw [b20_211]; simp only [len0, len1, len2, len3, ge2, ge3, ge4, at1, at2, at3, must, optK, cond_true, cond_false, decide_eq_false h0a, decide_eq_true h0b]) (by rw [hu, contF (c := c) (.inr h0b)]; simp only [Bool.and_false, Bool.false_and, cond_false])
    exact decGood (k := 2) (by rw [b20_211]; simp only [len0, len1, len2, len3, ge2, ge3, ge4, at1, at2, at3, must, optK, cond_true, cond_false, decide_eq_false h0a, decide_eq_false h0b]; rfl) (by rw [hu, contT (c := c) h0a h0b]; first | done | rfl) (by omega)

theorem d20_212 : ∀ (l : List UInt8), DecR (212 :: l)
  | [] => by
    refine decBad ?_ rfl
    rw [b20_212]
    rfl
  | c :: l => by
    have hu : Sp.uni (212 :: c :: l) = (bif Sp.cont c then 2 else 0) := rfl
    by_cases h0a : (c.toNat : Int) < 128
    · exact decBad (by rw [b20_212]; simp only [len0, len1, len2, len3, ge2, ge3, ge4, at1, at2, at3, must, optK, cond_true, cond_false, decide_eq_true h0a]) (by rw [hu, contF (c := c) (.inl h0a)]; simp only [Bool.and_false, Bool.false_and, cond_false])
    by_cases h0b : (191 : Int) < (c.toNat : Int)
    · exact decBad (by rw [b20_212]; simp only [len0, len1, len2, len3, ge2, ge3, ge4, at1, at2, at3, must, optK, cond_true, cond_false, decide_eq_false h0a, decide_eq_true h0b]) (by rw [hu, contF (c := c) (.inr h0b)]; simp only [Bool.and_false, Bool.false_and, cond_false])
    exact decGood (k := 2) (by rw [b20_212]; simp only [len0, len1, len2, len3, ge2, ge3, ge4, at1, at2, at3, must, optK, cond_true, cond_false, decide_eq_false h0a, decide_eq_false h0b]; rfl) (by rw [hu, contT (c := c) h0a h0b]; first | done | rfl) (by omega)

theorem d20_213 : ∀ (l : List UInt8), DecR (213 :: l)
  | [] => by
    refine decBad ?_ rfl
    rw [b20_213]
    rfl
  | c :: l => by
    have hu : Sp.uni (213 :: c :: l) = (bif Sp.cont c then 2 else 0) := rfl
    by_cases h0a : (c.toNat : Int) < 128
    · exact decBad (by rw [b20_213]; simp only [len0, len1, len2, len3, ge2, ge3, ge4, at1, at2, at3, must, optK, cond_true, cond_false, decide_eq_true h0a]) (by rw [hu, contF (c := c) (.inl h0a)]; simp only [Bool.and_false, Bool.false_and, cond_false])
    by_cases h0b : (191 : Int) < (c.toNat : Int)
    · exact decBad (by rw [b20_213]; simp only [len0, len1, len2, len3, ge2, ge3, ge4, at1, at2, at3, must, optK, cond_true, cond_false, decide_eq_false h0a, decide_eq_true h0b]) (by rw [hu, contF (c := c) (.inr h0b)]; simp only [Bool.and_false, Bool.false_and, cond_false])
    exact decGood (k := 2) (by rw [b20_213]; simp only [len0, len1, len2, len3, ge2, ge3, ge4, at1, at2, at3, must, optK, cond_true, cond_false, decide_eq_false h0a, decide_eq_false h0b]; rfl) (by rw [hu, contT (c := c) h0a h0b]; first | done | rfl) (by omega)

theorem d20_214 : ∀ (l : List UInt8), DecR (214 :: l)
  | [] => by
    refine decBad ?_ rfl
    rw [b20_214]
    rfl
  | c :: l => by
    have hu : Sp.uni (214 :: c :: l) = (bif Sp.cont c then 2 else 0) := rfl
    by_cases h0a : (c.toNat : Int) < 128
    · exact decBad (by rw [b20_214]; simp only [len0, len1, len2, len3, ge2, ge3, ge4, at1, at2, at3, must, optK, cond_true, cond_false, decide_eq_true h0a]) (by rw [hu, contF (c := c) (.inl h0a)]; simp only [Bool.and_false, Bool.false_and, cond_false])
    by_cases h0b : (191 : Int) < (c.toNat : Int)
    · exact decBad (by rw [b20_214]; simp only [len0, len1, len2, len3, ge2, ge3, ge4, at1, at2, at3, must, optK, cond_true, cond_false, decide_eq_false h0a, decide_eq_true h0b]) (by rw [hu, contF (c := c) (.inr h0b)]; simp only [Bool.and_false, Bool.false_and, cond_false])
    exact decGood (k := 2) (by rw [b20_214]; simp only [len0, len1, len2, len3, ge2, ge3, ge4, at1, at2, at3, must, optK, cond_true, cond_false, decide_eq_false h0a, decide_eq_false h0b]; rfl) (by rw [hu, contT (c := c) h0a h0b]; first | done | rfl) (by omega)

theorem d20_215 : ∀ (l : List UInt8), DecR (215 :: l)
  | [] => by
    refine decBad ?_ rfl
    rw [b20_215]
    rfl
  | c :: l => by
    have hu : Sp.uni (215 :: c :: l) = (bif Sp.cont c then 2 else 0) := rfl
    by_cases h0a : (c.toNat : Int) < 128
    · exact decBad (by rw [b20_215]; simp only [len0, len1, len2, len3, ge2, ge3, ge4, at1, at2, at3, must, optK, cond_true, cond_false, decide_eq_true h0a]) (by rw [hu, contF (c := c) (.inl h0a)]; simp only [Bool.and_false, Bool.false_and, cond_false])
    by_cases h0b : (191 : Int) < (c.toNat : Int)
    · exact decBad (by rw [b20_215]; simp only [len0, len1, len2, len3, ge2, ge3, ge4, at1, at2, at3, must, optK, cond_true, cond_false, decide_eq_false h0a, decide_eq_true h0b]) (by rw [hu, contF (c := c) (.inr h0b)]; simp only [Bool.and_false, Bool.false_and, cond_false])
    exact decGood (k := 2) (by rw [b20_215]; simp only [len0, len1, len2, len3, ge2, ge3, ge4, at1, at2, at3, must, optK, cond_true, cond_false, decide_eq_false h0a, decide_eq_false h0b]; rfl) (by rw [hu, contT (c := c) h0a h0b]; first | done | rfl) (by omega)

theorem d20_216 : ∀ (l : List UInt8), DecR (216 :: l)
  | [] => by
    refine decBad ?_ rfl
    rw [b20_216]
    rfl
  | c :: l => by
    have hu : Sp.uni (216 :: c :: l) = (bif Sp.cont c then 2 else 0) := rfl
    by_cases h0a : (c.toNat : Int) < 128
    · exact decBad (by rw [b20_216]; simp only [len0, len1, len2, len3, ge2, ge3, ge4, at1, at2, at3, must, optK, cond_true, cond_false, decide_eq_true h0a]) (by rw [hu, contF (c := c) (.inl h0a)]; simp only [Bool.and_false, Bool.false_and, cond_false])
    by_cases h0b : (191 : Int) < (c.toNat : Int)
    · exact decBad (by rw [b20_216]; simp only [len0, len1, len2, len3, ge2, ge3, ge4, at1, at2, at3, must, optK, cond_true, cond_false, decide_eq_false h0a, decide_eq_true h0b]) (by rw [hu, contF (c := c) (.inr h0b)]; simp only [Bool.and_false, Bool.false_and, cond_false])
    exact decGood (k := 2) (by rw [b20_216]; simp only [len0, len1, len2, len3, ge2, ge3, ge4, at1, at2, at3, must, optK, cond_true, cond_false, decide_eq_false h0a, decide_eq_false h0b]; rfl) (by rw [hu, contT (c := c) h0a h0b]; first | done | rfl) (by omega)

theorem d20_217 : ∀ (l : List UInt8), DecR (217 :: l)
  | [] => by
    refine decBad ?_ rfl
    rw [b20_217]
    rfl
  | c :: l => by
    have hu : Sp.uni (217 :: c :: l) = (bif Sp.cont c then 2 else 0) := rfl
    by_cases h0a : (c.toNat : Int) < 128
    · exact decBad (by rw [b20_217]; simp only [len0, len1, len2, len3, ge2, ge3, ge4, at1, at2, at3, must, optK, cond_true, cond_false, decide_eq_true h0a]) (by rw [hu, contF (c := c) (.inl h0a)]; simp only [Bool.and_false, Bool.false_and, cond_false])
    by_cases h0b : (191 : Int) < (c.toNat : Int)
    · exact decBad (by rw [b20_217]; simp only [len0, len1, len2, len3, ge2, ge3, ge4, at1, at2, at3, must, optK, cond_true, cond_false, decide_eq_false h0a, decide_eq_true h0b]) (by rw [hu, contF (c := c) (.inr h0b)]; simp only [Bool.and_false, Bool.false_and, cond_false])
    exact decGood (k := 2) (by rw [b20_217]; simp only [len0, len1, len2, len3, ge2, ge3, ge4, at1, at2, at3, must, optK, cond_true, cond_false, decide_eq_false h0a, decide_eq_false h0b]; rfl) (by rw [hu, contT (c := c) h0a h0b]; first | done | rfl) (by omega)

theorem d20_218 : ∀ (l : List UInt8), DecR (218 :: l)
  | [] => by
    refine decBad ?_ rfl
    rw [b20_218]
    rfl
  | c :: l => by
    have hu : Sp.uni (218 :: c :: l) = (bif Sp.cont c then 2 else 0) := rfl
    by_cases h0a : (c.toNat : Int) < 128
    · exact decBad (by rw [b20_218]; simp only [len0, len1, len2, len3, ge2, ge3, ge4, at1, at2, at3, must, optK, cond_true, cond_false, decide_eq_true h0a]) (by rw [hu, contF (c := c) (.inl h0a)]; simp only [Bool.and_false, Bool.false_and, cond_false])
    by_cases h0b : (191 : Int) < (c.toNat : Int)
    · exact decBad (by rw [b20_218]; simp only [len0, len1, len2, len3, ge2, ge3, ge4, at1, at2, at3, must, optK, cond_true, cond_false, decide_eq_false h0a, decide_eq_true h0b]) (by rw [hu, contF (c := c) (.inr h0b)]; simp only [Bool.and_false, Bool.false_and, cond_false])
    exact decGood (k := 2) (by rw [b20_218]; simp only [len0, len1, len2, len3, ge2, ge3, ge4, at1, at2, at3, must, optK, cond_true, cond_false, decide_eq_false h0a, decide_eq_false h0b]; rfl) (by rw [hu, contT (c := c) h0a h0b]; first | done | rfl) (by omega)

theorem d20_219 : ∀ (l : List UInt8), DecR (219 :: l)
  | [] => by
    refine decBad ?_ rfl
    rw [b20_219]
    rfl
  | c :: l => by
    have hu : Sp.uni (219 :: c :: l) = (bif Sp.cont c then 2 else 0) := rfl
    by_cases h0a : (c.toNat : Int) < 128
    · exact decBad (by rw [b20_219]; simp only [len0, len1, len2, len3, ge2, ge3, ge4, at1, at2, at3, must, optK, cond_true, cond_false, decide_eq_true h0a]) (by rw [hu, contF (c := c) (.inl h0a)]; simp only [Bool.and_false, Bool.false_and, cond_false])
    by_cases h0b : (191 : Int) < (c.toNat : Int)
    · exact decBad (by rw [b20_219]; simp only [len0, len1, len2, len3, ge2, ge3, ge4, at1, at2, at3, must, optK, cond_true, cond_false, decide_eq_false h0a, decide_eq_true h0b]) (by rw [hu, contF (c := c) (.inr h0b)]; simp only [Bool.and_false, Bool.false_and, cond_false])
    exact decGood (k := 2) (by rw [b20_219]; simp only [len0, len1, len2, len3, ge2, ge3, ge4, at1, at2, at3, must, optK, cond_true, cond_false, decide_eq_false h0a, decide_eq_false h0b]; rfl) (by rw [hu, contT (c := c) h0a h0b]; first | done | rfl) (by omega)

theorem d20_220 : ∀ (l : List UInt8), DecR (220 :: l)
  | [] => by
    refine decBad ?_ rfl
    rw [b20_220]
    rfl
  | c :: l => by
    have hu : Sp.uni (220 :: c :: l) = (bif Sp.cont c then 2 else 0) := rfl
    by_cases h0a : (c.toNat : Int) < 128
    · exact decBad (by rw [b20_220]; simp only [len0, len1, len2, len3, ge2, ge3, ge4, at1, at2, at3, must, optK, cond_true, cond_false, decide_eq_true h0a]) (by rw [hu, contF (c := c) (.inl h0a)]; simp only [Bool.and_false, Bool.false_and, cond_false])
    by_cases h0b : (191 : Int) < (c.toNat : Int)
    · exact decBad (by rw [b20_220]; simp only [len0, len1, len2, len3, ge2, ge3, ge4, at1, at2, at3, must, optK, cond_true, cond_false, decide_eq_false h0a, decide_eq_true h0b]) (by rw [hu, contF (c := c) (.inr h0b)]; simp only [Bool.and_false, Bool.false_and, cond_false])
    exact decGood (k := 2) (by rw [b20_220]; simp only [len0, len1, len2, len3, ge2, ge3, ge4, at1, at2, at3, must, optK, cond_true, cond_false, decide_eq_false h0a, decide_eq_false h0b]; rfl) (by rw [hu, contT (c := c) h0a h0b]; first | done | rfl) (by omega)

theorem d20_221 : ∀ (l : List UInt8), DecR (221 :: l)
  | [] => by
    refine decBad ?_ rfl
    rw [b20_221]
    rfl
  | c :: l => by
    have hu : Sp.uni (221 :: c :: l) = (bif Sp.cont c then 2 else 0) := rfl
    by_cases h0a : (c.toNat : Int) < 128
    · exact decBad (by rw [b20_221]; simp only [len0, len1, len2, len3, ge2, ge3, ge4, at1, at2, at3, must, optK, cond_true, cond_false, decide_eq_true h0a]) (by rw [hu, contF (c := c) (.inl h0a)]; simp only [Bool.and_false, Bool.false_and, cond_false])
    by_cases h0b : (191 : Int) < (c.toNat : Int)
    · exact decBad (by rw [b20_221]; simp only [len0, len1, len2, len3, ge2, ge3, ge4, at1, at2, at3, must, optK, cond_true, cond_false, decide_eq_false h0a, decide_eq_true h0b]) (by rw [hu, contF (c := c) (.inr h0b)]; simp only [Bool.and_false, Bool.false_and, cond_false])
    exact decGood (k := 2) (by rw [b20_221]; simp only [len0, len1, len2, len3, ge2, ge3, ge4, at1, at2, at3, must, optK, cond_true, cond_false, decide_eq_false h0a, decide_eq_false h0b]; rfl) (by rw [hu, contT (c := c) h0a h0b]; first | done | rfl) (by omega)

theorem d20_222 : ∀ (l : List UInt8), DecR (222 :: l)
  | [] => by
    refine decBad ?_ rfl
    rw [b20_222]
    rfl
  | c :: l => by
    have hu : Sp.uni (222 :: c :: l) = (bif Sp.cont c then 2 else 0) := rfl
    by_cases h0a : (c.toNat : Int) < 128
    · exact decBad (by rw [b20_222]; simp only [len0, len1, len2, len3, ge2, ge3, ge4, at1, at2, at3, must, optK, cond_true, cond_false, decide_eq_true h0a]) (by rw [hu, contF (c := c) (.inl h0a)]; simp only [Bool.and_false, Bool.false_and, cond_false])
    by_cases h0b : (191 : Int) < (c.toNat : Int)
    · exact decBad (by rw [b20_222]; simp only [len0, len1, len2, len3, ge2, ge3, ge4, at1, at2, at3, must, optK, cond_true, cond_false, decide_eq_false h0a, decide_eq_true h0b]) (by rw [hu, contF (c := c) (.inr h0b)]; simp only [Bool.and_false, Bool.false_and, cond_false])
    exact decGood (k := 2) (by rw [b20_222]; simp only [len0, len1, len2, len3, ge2, ge3, ge4, at1, at2, at3, must, optK, cond_true, cond_false, decide_eq_false h0a, decide_eq_false h0b]; rfl) (by rw [hu, contT (c := c) h0a h0b]; first | done | rfl) (by omega)

theorem d20_223 : ∀ (l : List UInt8), DecR (223 :: l)
  | [] => by
    refine decBad ?_ rfl
    rw [b20_223]
    rfl
  | c :: l => by
    have hu : Sp.uni (223 :: c :: l) = (bif Sp.cont c then 2 else 0) := rfl
    by_cases h0a : (c.toNat : Int) < 128
    · exact decBad (by rw [b20_223]; simp only [len0, len1, len2, len3, ge2, ge3, ge4, at1, at2, at3, must, optK, cond_true, cond_false, decide_eq_true h0a]) (by rw [hu, contF (c := c) (.inl h0a)]; simp only [Bool.and_false, Bool.false_and, cond_false])
    by_cases h0b : (191 : Int) < (c.toNat : Int)
    · exact decBad (by rw [b20_223]; simp only [len0, len1, len2, len3, ge2, ge3, ge4, at1, at2, at3, must, optK, cond_true, cond_false, decide_eq_false h0a, decide_eq_true h0b]) (by rw [hu, contF (c := c) (.inr h0b)]; simp only [Bool.and_false, Bool.false_and, cond_false])
    exact decGood (k := 2) (by rw [b20_223]; simp only [len0, len1, len2, len3, ge2, ge3, ge4, at1, at2, at3, must, optK, cond_true, cond_false, decide_eq_false h0a, decide_eq_false h0b]; rfl) (by rw [hu, contT (c := c) h0a h0b]; first | done | rfl) (by omega)

theorem d20_224 : ∀ (l : List UInt8), DecR (224 :: l)
  | [] => by
    refine decBad ?_ rfl
    rw [b20_224]
    rfl
  | [c] => decBad (by rw [b20_224]; rfl) rfl
  | c :: d :: l => by
    have hu : Sp.uni (224 :: c :: d :: l) = (bif decide (160 ≤ c.toNat) && decide (c.toNat ≤ 191) && Sp.cont d then 3 else 0) := rfl
    by_cases h0a : (c.toNat : Int) < 160
    · exact decBad (by rw [b20_224]; simp only [len0, len1, len2, len3, ge2, ge3, ge4, at1, at2, at3, must, optK, cond_true, cond_false, decide_eq_true h0a]) (by rw [hu, decide_eq_false (p := 160 ≤ c.toNat) (by omega)]; simp only [Bool.false_and, cond_false])
    by_cases h0b : (191 : Int) < (c.toNat : Int)
    · exact decBad (by rw [b20_224]; simp only [len0, len1, len2, len3, ge2, ge3, ge4, at1, at2, at3, must, optK, cond_true, cond_false, decide_eq_false h0a, decide_eq_true h0b]) (by rw [hu, decide_eq_false (p := c.toNat ≤ 191) (by omega)]; simp only [Bool.and_false, Bool.false_and, cond_false])
    by_cases h1a : (d.toNat : Int) < 128
    · exact decBad (by rw [b20_224]; simp only [len0, len1, len2, len3, ge2, ge3, ge4, at1, at2, at3, must, optK, cond_true, cond_false, decide_eq_false h0a, decide_eq_false h0b, decide_eq_true h1a]) (by rw [hu, contF (c := d) (.inl h1a)]; simp only [Bool.and_false, Bool.false_and, cond_false])
    by_cases h1b : (191 : Int) < (d.toNat : Int)
    · exact decBad (by rw [b20_224]; simp only [len0, len1, len2, len3, ge2, ge3, ge4, at1, at2, at3, must, optK, cond_true, cond_false, decide_eq_false h0a, decide_eq_false h0b, decide_eq_false h1a, decide_eq_true h1b]) (by rw [hu, contF (c := d) (.inr h1b)]; simp only [Bool.and_false, Bool.false_and, cond_false])
    exact decGood (k := 3) (by rw [b20_224]; simp only [len0, len1, len2, len3, ge2, ge3, ge4, at1, at2, at3, must, optK, cond_true, cond_false, decide_eq_false h0a, decide_eq_false h0b, decide_eq_false h1a, decide_eq_false h1b]; rfl) (by rw [hu, decide_eq_true (p := 160 ≤ c.toNat) (by omega), decide_eq_true (p := c.toNat ≤ 191) (by omega), contT (c := d) h1a h1b]; first | done | rfl) (by omega)

theorem d20_225 : ∀ (l : List UInt8), DecR (225 :: l)
  | [] => by
    refine decBad ?_ rfl
    rw [b20_225]
    rfl
  | [c] => decBad (by rw [b20_225]; rfl) rfl
  | c :: d :: l => by
    have hu : Sp.uni (225 :: c :: d :: l) = (bif decide (128 ≤ c.toNat) && decide (c.toNat ≤ 191) && Sp.cont d then 3 else 0) := rfl
    by_cases h0a : (c.toNat : Int) < 128
    · exact decBad (by rw [b20_225]; simp only [len0, len1, len2, len3, ge2, ge3, ge4, at1, at2, at3, must, optK, cond_true, cond_false, decide_eq_true h0a]) (by rw [hu, decide_eq_false (p := 128 ≤ c.toNat) (by omega)]; simp only [Bool.false_and, cond_false])
    by_cases h0b : (191 : Int) < (c.toNat : Int)
    · exact decBad (by rw [b20_225]; simp only [len0, len1, len2, len3, ge2, ge3, ge4, at1, at2, at3, must, optK, cond_true, cond_false, decide_eq_false h0a, decide_eq_true h0b]) (by rw [hu, decide_eq_false (p := c.toNat ≤ 191) (by omega)]; simp only [Bool.and_false, Bool.false_and, cond_false])
    by_cases h1a : (d.toNat : Int) < 128
    · exact decBad (by rw [b20_225]; simp only [len0, len1, len2, len3, ge2, ge3, ge4, at1, at2, at3, must, optK, cond_true, cond_false, decide_eq_false h0a, decide_eq_false h0b, decide_eq_true h1a]) (by rw [hu, contF (c := d) (.inl h1a)]; simp only [Bool.and_false, Bool.false_and, cond_false])
    by_cases h1b : (191 : Int) < (d.toNat : Int)
    · exact decBad (by rw [b20_225]; simp only [len0, len1, len2, len3, ge2, ge3, ge4, at1, at2, at3, must, optK, cond_true, cond_false, decide_eq_false h0a, decide_eq_false h0b, decide_eq_false h1a, decide_eq_true h1b]) (by rw [hu, contF (c := d) (.inr h1b)]; simp only [Bool.and_false, Bool.false_and, cond_false])
    exact decGood (k := 3) (by rw [b20_225]; simp only [len0, len1, len2, len3, ge2, ge3, ge4, at1, at2, at3, must, optK, cond_true, cond_false, decide_eq_false h0a, decide_eq_false h0b, decide_eq_false h1a, decide_eq_false h1b]; rfl) (by rw [hu, decide_eq_true (p := 128 ≤ c.toNat) (by omega), decide_eq_true (p := c.toNat ≤ 191) (by omega), contT (c := d) h1a h1b]; first | done | rfl) (by omega)

theorem d20_226 : ∀ (l : List UInt8), DecR (226 :: l)
  | [] => by
    refine decBad ?_ rfl
    rw [b20_226]
    rfl
  | [c] => decBad (by rw [b20_226]; rfl) rfl
  | c :: d :: l => by
    have hu : Sp.uni (226 :: c :: d :: l) = (bif decide (128 ≤ c.toNat) && decide (c.toNat ≤ 191) && Sp.cont d then 3 else 0) := rfl
    by_cases h0a : (c.toNat : Int) < 128
    · exact decBad (by rw [b20_226]; simp only [len0, len1, len2, len3, ge2, ge3, ge4, at1, at2, at3, must, optK, cond_true, cond_false, decide_eq_true h0a]) (by rw [hu, decide_eq_false (p := 128 ≤ c.toNat) (by omega)]; simp only [Bool.false_and, cond_false])
    by_cases h0b : (191 : Int) < (c.toNat : Int)
    · exact decBad (by rw [b20_226]; simp only [len0, len1, len2, len3, ge2, ge3, ge4, at1, at2, at3, must, optK, cond_true, cond_false, decide_eq_false h0a, decide_eq_true h0b]) (by rw [hu, decide_eq_false (p := c.toNat ≤ 191) (by omega)]; simp only [Bool.and_false, Bool.false_and, cond_false])
    by_cases h1a : (d.toNat : Int) < 128
    · exact decBad (by rw [b20_226]; simp only [len0, len1, len2, len3, ge2, ge3, ge4, at1, at2, at3, must, optK, cond_true, cond_false, decide_eq_false h0a, decide_eq_false h0b, decide_eq_true h1a]) (by rw [hu, contF (c := d) (.inl h1a)]; simp only [Bool.and_false, Bool.false_and, cond_false])
    by_cases h1b : (191 : Int) < (d.toNat : Int)
    · exact decBad (by rw [b20_226]; simp only [len0, len1, len2, len3, ge2, ge3, ge4, at1, at2, at3, must, optK, cond_true, cond_false, decide_eq_false h0a, decide_eq_false h0b, decide_eq_false h1a, decide_eq_true h1b]) (by rw [hu, contF (c := d) (.inr h1b)]; simp only [Bool.and_false, Bool.false_and, cond_false])
    exact decGood (k := 3) (by rw [b20_226]; simp only [len0, len1, len2, len3, ge2, ge3, ge4, at1, at2, at3, must, optK, cond_true, cond_false, decide_eq_false h0a, decide_eq_false h0b, decide_eq_false h1a, decide_eq_false h1b]; rfl) (by rw [hu, decide_eq_true (p := 128 ≤ c.toNat) (by omega), decide_eq_true (p := c.toNat ≤ 191) (by omega), contT (c := d) h1a h1b]; first | done | rfl) (by omega)

theorem d20_227 : ∀ (l : List UInt8), DecR (227 :: l)
  | [] => by
    refine decBad ?_ rfl
    rw [b20_227]
    rfl
  | [c] => decBad (by rw [b20_227]; rfl) rfl
  | c :: d :: l => by
    have hu : Sp.uni (227 :: c :: d :: l) = (bif decide (128 ≤ c.toNat) && decide (c.toNat ≤ 191) && Sp.cont d then 3 else 0) := rfl
    by_cases h0a : (c.toNat : Int) < 128
    · exact decBad (by rw [b20_227]; simp only [len0, len1, len2, len3, ge2, ge3, ge4, at1, at2, at3, must, optK, cond_true, cond_false, decide_eq_true h0a]) (by rw [hu, decide_eq_false (p := 128 ≤ c.toNat) (by omega)]; simp only [Bool.false_and, cond_false])
    by_cases h0b : (191 : Int) < (c.toNat : Int)
    · exact decBad (by rw [b20_227]; simp only [len0, len1, len2, len3, ge2, ge3, ge4, at1, at2, at3, must, optK, cond_true, cond_false, decide_eq_false h0a, decide_eq_true h0b]) (by rw [hu, decide_eq_false (p := c.toNat ≤ 191) (by omega)]; simp only [Bool.and_false, Bool.false_and, cond_false])
    by_cases h1a : (d.toNat : Int) < 128
    · exact decBad (by rw [b20_227]; simp only [len0, len1, len2, len3, ge2, ge3, ge4, at1, at2, at3, must, optK, cond_true, cond_false, decide_eq_false h0a, decide_eq_false h0b, decide_eq_true h1a]) (by rw [hu, contF (c := d) (.inl h1a)]; simp only [Bool.and_false, Bool.false_and, cond_false])
    by_cases h1b : (191 : Int) < (d.toNat : Int)
    · exact decBad (by rw [b20_227]; simp only [len0, len1, len2, len3, ge2, ge3, ge4, at1, at2, at3, must, optK, cond_true, cond_false, decide_eq_false h0a, decide_eq_false h0b, decide_eq_false h1a, decide_eq_true h1b]) (by rw [hu, contF (c := d) (.inr h1b)]; simp only [Bool.and_false, Bool.false_and, cond_false])
    exact decGood (k := 3) (by rw [b20_227]; simp only [len0, len1, len2, len3, ge2, ge3, ge4, at1, at2, at3, must, optK, cond_true, cond_false, decide_eq_false h0a, decide_eq_false h0b, decide_eq_false h1a, decide_eq_false h1b]; rfl) (by rw [hu, decide_eq_true (p := 128 ≤ c.toNat) (by omega), decide_eq_true (p := c.toNat ≤ 191) (by omega), contT (c := d) h1a h1b]; first | done | rfl) (by omega)

theorem d20_228 : ∀ (l : List UInt8), DecR (228 :: l)
  | [] => by
    refine decBad ?_ rfl
    rw [b20_228]
    rfl
  | [c] => decBad (by rw [b20_228]; rfl) rfl
  | c :: d :: l => by
    have hu : Sp.uni (228 :: c :: d :: l) = (bif decide (128 ≤ c.toNat) && decide (c.toNat ≤ 191) && Sp.cont d then 3 else 0) := rfl
    by_cases h0a : (c.toNat : Int) < 128
    · exact decBad (by rw [b20_228]; simp only [len0, len1, len2, len3, ge2, ge3, ge4, at1, at2, at3, must, optK, cond_true, cond_false, decide_eq_true h0a]) (by rw [hu, decide_eq_false (p := 128 ≤ c.toNat) (by omega)]; simp only [Bool.false_and, cond_false])
    by_cases h0b : (191 : Int) < (c.toNat : Int)
    · exact decBad (by rw [b20_228]; simp only [len0, len1, len2, len3, ge2, ge3, ge4, at1, at2, at3, must, optK, cond_true, cond_false, decide_eq_false h0a, decide_eq_true h0b]) (by rw [hu, decide_eq_false (p := c.toNat ≤ 191) (by omega)]; simp only [Bool.and_false, Bool.false_and, cond_false])
    by_cases h1a : (d.toNat : Int) < 128
    · exact decBad (by rw [b20_228]; simp only [len0, len1, len2, len3, ge2, ge3, ge4, at1, at2, at3, must, optK, cond_true, cond_false, decide_eq_false h0a, decide_eq_false h0b, decide_eq_true h1a]) (by rw [hu, contF (c := d) (.inl h1a)]; simp only [Bool.and_false, Bool.false_and, cond_false])
    by_cases h1b : (191 : Int) < (d.toNat : Int)
    · exact decBad (by rw [b20_228]; simp only [len0, len1, len2, len3, ge2, ge3, ge4, at1, at2, at3, must, optK, cond_true, cond_false, decide_eq_false h0a, decide_eq_false h0b, decide_eq_false h1a, decide_eq_true h1b]) (by rw [hu, contF (c := d) (.inr h1b)]; simp only [Bool.and_false, Bool.false_and, cond_false])
    exact decGood (k := 3) (by rw [b20_228]; simp only [len0, len1, len2, len3, ge2, ge3, ge4, at1, at2, at3, must, optK, cond_true, cond_false, decide_eq_false h0a, decide_eq_false h0b, decide_eq_false h1a, decide_eq_false h1b]; rfl) (by rw [hu, decide_eq_true (p := 128 ≤ c.toNat) (by omega), decide_eq_true (p := c.toNat ≤ 191) (by omega), contT (c := d) h1a h1b]; first | done | rfl) (by omega)

theorem d20_229 : ∀ (l : List UInt8), DecR (229 :: l)
  | [] => by
    refine decBad ?_ rfl
    rw [b20_229]
    rfl
  | [c] => decBad (by rw [b20_229]; rfl) rfl
  | c :: d :: l => by
    have hu : Sp.uni (229 :: c :: d :: l) = (bif decide (128 ≤ c.toNat) && decide (c.toNat ≤ 191) && Sp.cont d then 3 else 0) := rfl
    by_cases h0a : (c.toNat : Int) < 128
    · exact decBad (by rw [b20_229]; simp only [len0, len1, len2, len3, ge2, ge3, ge4, at1, at2, at3, must, optK, cond_true, cond_false, decide_eq_true h0a]) (by rw [hu, decide_eq_false (p := 128 ≤ c.toNat) (by omega)]; simp only [Bool.false_and, cond_false])
    by_cases h0b : (191 : Int) < (c.toNat : Int)
    · exact decBad (by rw [b20_229]; simp only [len0, len1, len2, len3, ge2, ge3, ge4, at1, at2, at3, must, optK, cond_true, cond_false, decide_eq_false h0a, decide_eq_true h0b]) (by rw [hu, decide_eq_false (p := c.toNat ≤ 191) (by omega)]; simp only [Bool.and_false, Bool.false_and, cond_false])
    by_cases h1a : (d.toNat : Int) < 128
    · exact decBad (by rw [b20_229]; simp only [len0, len1, len2, len3, ge2, ge3, ge4, at1, at2, at3, must, optK, cond_true, cond_false, decide_eq_false h0a, decide_eq_false h0b, decide_eq_true h1a]) (by rw [hu, contF (c := d) (.inl h1a)]; simp only [Bool.and_false, Bool.false_and, cond_false])
    by_cases h1b : (191 : Int) < (d.toNat : Int)
    · exact decBad (by rw [b20_229]; simp only [len0, len1, len2, len3, ge2, ge3, ge4, at1, at2, at3, must, optK, cond_true, cond_false, decide_eq_false h0a, decide_eq_false h0b, decide_eq_false h1a, decide_eq_true h1b]) (by rw [hu, contF (c := d) (.inr h1b)]; simp only [Bool.and_false, Bool.false_and, cond_false])
    exact decGood (k := 3) (by rw [b20_229]; simp only [len0, len1, len2, len3, ge2, ge3, ge4, at1, at2, at3, must, optK, cond_true, cond_false, decide_eq_false h0a, decide_eq_false h0b, decide_eq_false h1a, decide_eq_false h1b]; rfl) (by rw [hu, decide_eq_true (p := 128 ≤ c.toNat) (by omega), decide_eq_true (p := c.toNat ≤ 191) (by omega), contT (c := d) h1a h1b]; first | done | rfl) (by omega)

theorem d20_230 : ∀ (l : List UInt8), DecR (230 :: l)
  | [] => by
    refine decBad ?_ rfl
    rw [b20_230]
    rfl
  | [c] => decBad (by rw [b20_230]; rfl) rfl
  | c :: d :: l => by
    have hu : Sp.uni (230 :: c :: d :: l) = (bif decide (128 ≤ c.toNat) && decide (c.toNat ≤ 191) && Sp.cont d then 3 else 0) := rfl
    by_cases h0a : (c.toNat : Int) < 128
    · exact decBad (by rw [b20_230]; simp only [len0, len1, len2, len3, ge2, ge3, ge4, at1, at2, at3, must, optK, cond_true, cond_false, decide_eq_true h0a]) (by rw [hu, decide_eq_false (p := 128 ≤ c.toNat) (by omega)]; simp only [Bool.false_and, cond_false])
    by_cases h0b : (191 : Int) < (c.toNat : Int)
    · exact decBad (by rw [b20_230]; simp only [len0, len1, len2, len3, ge2, ge3, ge4, at1, at2, at3, must, optK, cond_true, cond_false, decide_eq_false h0a, decide_eq_true h0b]) (by rw [hu, decide_eq_false (p := c.toNat ≤ 191) (by omega)]; simp only [Bool.and_false, Bool.false_and, cond_false])
    by_cases h1a : (d.toNat : Int) < 128
    · exact decBad (by rw [b20_230]; simp only [len0, len1, len2, len3, ge2, ge3, ge4, at1, at2, at3, must, optK, cond_true, cond_false, decide_eq_false h0a, decide_eq_false h0b, decide_eq_true h1a]) (by rw [hu, contF (c := d) (.inl h1a)]; simp only [Bool.and_false, Bool.false_and, cond_false])
    by_cases h1b : (191 : Int) < (d.toNat : Int)
    · exact decBad (by rw [b20_230]; simp only [len0, len1, len2, len3, ge2, ge3, ge4, at1, at2, at3, must, optK, cond_true, cond_false, decide_eq_false h0a, decide_eq_false h0b, decide_eq_false h1a, decide_eq_true h1b]) (by rw [hu, contF (c := d) (.inr h1b)]; simp only [Bool.and_false, Bool.false_and, cond_false])
    exact decGood (k := 3) (by rw [b20_230]; simp only [len0, len1, len2, len3, ge2, ge3, ge4, at1, at2, at3, must, optK, cond_true, cond_false, decide_eq_false h0a, decide_eq_false h0b, decide_eq_false h1a, decide_eq_false h1b]; rfl) (by rw [hu, decide_eq_true (p := 128 ≤ c.toNat) (by omega), decide_eq_true (p := c.toNat ≤ 191) (by omega), contT (c := d) h1a h1b]; first | done | rfl) (by omega)

theorem d20_231 : ∀ (l : List UInt8), DecR (231 :: l)
  | [] => by
    refine decBad ?_ rfl
    rw [b20_231]
    rfl
  | [c] => decBad (by rw [b20_231]; rfl) rfl
  | c :: d :: l => by
    have hu : Sp.uni (231 :: c :: d :: l) = (bif decide (128 ≤ c.toNat) && decide (c.toNat ≤ 191) && Sp.cont d then 3 else 0) := rfl
    by_cases h0a : (c.toNat : Int) < 128
    · exact decBad (by rw [b20_231]; simp only [len0, len1, len2, len3, ge2, ge3, ge4, at1, at2, at3, must, optK, cond_true, cond_false, decide_eq_true h0a]) (by rw [hu, decide_eq_false (p := 128 ≤ c.toNat) (by omega)]; simp only [Bool.false_and, cond_false])
    by_cases h0b : (191 : Int) < (c.toNat : Int)
    · exact decBad (by rw [b20_231]; simp only [len0, len1, len2, len3, ge2, ge3, ge4, at1, at2, at3, must, optK, cond_true, cond_false, decide_eq_false h0a, decide_eq_true h0b]) (by rw [hu, decide_eq_false (p := c.toNat ≤ 191) (by omega)]; simp only [Bool.and_false, Bool.false_and, cond_false])
    by_cases h1a : (d.toNat : Int) < 128
    · exact decBad (by rw [b20_231]; simp only [len0, len1, len2, len3, ge2, ge3, ge4, at1, at2, at3, must, optK, cond_true, cond_false, decide_eq_false h0a, decide_eq_false h0b, decide_eq_true h1a]) (by rw [hu, contF (c := d) (.inl h1a)]; simp only [Bool.and_false, Bool.false_and, cond_false])
    by_cases h1b : (191 : Int) < (d.toNat : Int)
    · exact decBad (by rw [b20_231]; simp only [len0, len1, len2, len3, ge2, ge3, ge4, at1, at2, at3, must, optK, cond_true, cond_false, decide_eq_false h0a, decide_eq_false h0b, decide_eq_false h1a, decide_eq_true h1b]) (by rw [hu, contF (c := d) (.inr h1b)]; simp only [Bool.and_false, Bool.false_and, cond_false])
    exact decGood (k := 3) (by rw [b20_231]; simp only [len0, len1, len2, len3, ge2, ge3, ge4, at1, at2, at3, must, optK, cond_true, cond_false, decide_eq_false h0a, decide_eq_false h0b, decide_eq_false h1a, decide_eq_false h1b]; rfl) (by rw [hu, decide_eq_true (p := 128 ≤ c.toNat) (by omega), decide_eq_true (p := c.toNat ≤ 191) (by omega), contT (c := d) h1a h1b]; first | done | rfl) (by omega)

theorem d20_232 : ∀ (l : List UInt8), DecR (232 :: l)
  | [] => by
    refine decBad ?_ rfl
    rw [b20_232]
    rfl
  | [c] => decBad (by rw [b20_232]; rfl) rfl
  | c :: d :: l => by
    have hu : Sp.uni (232 :: c :: d :: l) = (bif decide (128 ≤ c.toNat) && decide (c.toNat ≤ 191) && Sp.cont d then 3 else 0) := rfl
    by_cases h0a : (c.toNat : Int) < 128
    · exact decBad (by rw [b20_232]; simp only [len0, len1, len2, len3, ge2, ge3, ge4, at1, at2, at3, must, optK, cond_true, cond_false, decide_eq_true h0a]) (by rw [hu, decide_eq_false (p := 128 ≤ c.toNat) (by omega)]; simp only [Bool.false_and, cond_false])
    by_cases h0b : (191 : Int) < (c.toNat : Int)
    · exact decBad (by rw [b20_232]; simp only [len0, len1, len2, len3, ge2, ge3, ge4, at1, at2, at3, must, optK, cond_true, cond_false, decide_eq_false h0a, decide_eq_true h0b]) (by rw [hu, decide_eq_false (p := c.toNat ≤ 191) (by omega)]; simp only [Bool.and_false, Bool.false_and, cond_false])
    by_cases h1a : (d.toNat : Int) < 128
    · exact decBad (by rw [b20_232]; simp only [len0, len1, len2, len3, ge2, ge3, ge4, at1, at2, at3, must, optK, cond_true, cond_false, decide_eq_false h0a, decide_eq_false h0b, decide_eq_true h1a]) (by rw [hu, contF (c := d) (.inl h1a)]; simp only [Bool.and_false, Bool.false_and, cond_false])
    by_cases h1b : (191 : Int) < (d.toNat : Int)
    · exact decBad (by rw [b20_232]; simp only [len0, len1, len2, len3, ge2, ge3, ge4, at1, at2, at3, must, optK, cond_true, cond_false, decide_eq_false h0a, decide_eq_false h0b, decide_eq_false h1a, decide_eq_true h1b]) (by rw [hu, contF (c := d) (.inr h1b)]; simp only [Bool.and_false, Bool.false_and, cond_false])
    exact decGood (k := 3) (by rw [b20_232]; simp only [len0, len1, len2, len3, ge2, ge3, ge4, at1, at2, at3, must, optK, cond_true, cond_false, decide_eq_false h0a, decide_eq_false h0b, decide_eq_false h1a, decide_eq_false h1b]; rfl) (by rw [hu, decide_eq_true (p := 128 ≤ c.toNat) (by omega), decide_eq_true (p := c.toNat ≤ 191) (by omega), contT (c := d) h1a h1b]; first | done | rfl) (by omega)

theorem d20_233 : ∀ (l : List UInt8), DecR (233 :: l)
  | [] => by
    refine decBad ?_ rfl
    rw [b20_233]
    rfl
  | [c] => decBad (by rw [b20_233]; rfl) rfl
  | c :: d :: l => by
    have hu : Sp.uni (233 :: c :: d :: l) = (bif decide (128 ≤ c.toNat) && decide (c.toNat ≤ 191) && Sp.cont d then 3 else 0) := rfl
    by_cases h0a : (c.toNat : Int) < 128
    · exact decBad (by rw [b20_233]; simp only [len0, len1, len2, len3, ge2, ge3, ge4, at1, at2, at3, must, optK, cond_true, cond_false, decide_eq_true h0a]) (by rw [hu, decide_eq_false (p := 128 ≤ c.toNat) (by omega)]; simp only [Bool.false_and, cond_false])
    by_cases h0b : (191 : Int) < (c.toNat : Int)
    · exact decBad (by rw [b20_233]; simp only [len0, len1, len2, len3, ge2, ge3, ge4, at1, at2, at3, must, optK, cond_true, cond_false, decide_eq_false h0a, decide_eq_true h0b]) (by rw [hu, decide_eq_false (p := c.toNat ≤ 191) (by omega)]; simp only [Bool.and_false, Bool.false_and, cond_false])
    by_cases h1a : (d.toNat : Int) < 128
    · exact decBad (by rw [b20_233]; simp only [len0, len1, len2, len3, ge2, ge3, ge4, at1, at2, at3, must, optK, cond_true, cond_false, decide_eq_false h0a, decide_eq_false h0b, decide_eq_true h1a]) (by rw [hu, contF (c := d) (.inl h1a)]; simp only [Bool.and_false, Bool.false_and, cond_false])
    by_cases h1b : (191 : Int) < (d.toNat : Int)
    · exact decBad (by rw [b20_233]; simp only [len0, len1, len2, len3, ge2, ge3, ge4, at1, at2, at3, must, optK, cond_true, cond_false, decide_eq_false h0a, decide_eq_false h0b, decide_eq_false h1a, decide_eq_true h1b]) (by rw [hu, contF (c := d) (.inr h1b)]; simp only [Bool.and_false, Bool.false_and, cond_false])
    exact decGood (k := 3) (by rw [b20_233]; simp only [len0, len1, len2, len3, ge2, ge3, ge4, at1, at2, at3, must, optK, cond_true, cond_false, decide_eq_false h0a, decide_eq_false h0b, decide_eq_false h1a, decide_eq_false h1b]; rfl) (by rw [hu, decide_eq_true (p := 128 ≤ c.toNat) (by omega), decide_eq_true (p := c.toNat ≤ 191) (by omega), contT (c := d) h1a h1b]; first | done | rfl) (by omega)

theorem d20_234 : ∀ (l : List UInt8), DecR (234 :: l)
  | [] => by
    refine decBad ?_ rfl
    rw [b20_234]
    rfl
  | [c] => decBad (by rw [b20_234]; rfl) rfl
  | c :: d :: l => by
    have hu : Sp.uni (234 :: c :: d :: l) = (bif decide (128 ≤ c.toNat) && decide (c.toNat ≤ 191) && Sp.cont d then 3 else 0) := rfl
    by_cases h0a : (c.toNat : Int) < 128
    · exact decBad (by rw [b20_234]; simp only [len0, len1, len2, len3, ge2, ge3, ge4, at1, at2, at3, must, optK, cond_true, cond_false, decide_eq_true h0a]) (by rw [hu, decide_eq_false (p := 128 ≤ c.toNat) (by omega)]; simp only [Bool.false_and, cond_false])
    by_cases h0b : (191 : Int) < (c.toNat : Int)
    · exact decBad (by rw [b20_234]; simp only [len0, len1, len2, len3, ge2, ge3, ge4, at1, at2, at3, must, optK, cond_true, cond_false, decide_eq_false h0a, decide_eq_true h0b]) (by rw [hu, decide_eq_false (p := c.toNat ≤ 191) (by omega)]; simp only [Bool.and_false, Bool.false_and, cond_false])
    by_cases h1a : (d.toNat : Int) < 128
    · exact decBad (by rw [b20_234]; simp only [len0, len1, len2, len3, ge2, ge3, ge4, at1, at2, at3, must, optK, cond_true, cond_false, decide_eq_false h0a, decide_eq_false h0b, decide_eq_true h1a]) (by rw [hu, contF (c := d) (.inl h1a)]; simp only [Bool.and_false, Bool.false_and, cond_false])
    by_cases h1b : (191 : Int) < (d.toNat : Int)
    · exact decBad (by rw [b20_234]; simp only [len0, len1, len2, len3, ge2, ge3, ge4, at1, at2, at3, must, optK, cond_true, cond_false, decide_eq_false h0a, decide_eq_false h0b, decide_eq_false h1a, decide_eq_true h1b]) (by rw [hu, contF (c := d) (.inr h1b)]; simp only [Bool.and_false, Bool.false_and, cond_false])
    exact decGood (k := 3) (by rw [b20_234]; simp only [len0, len1, len2, len3, ge2, ge3, ge4, at1, at2, at3, must, optK, cond_true, cond_false, decide_eq_false h0a, decide_eq_false h0b, decide_eq_false h1a, decide_eq_false h1b]; rfl) (by rw [hu, decide_eq_true (p := 128 ≤ c.toNat) (by omega), decide_eq_true (p := c.toNat ≤ 191) (by omega), contT (c := d) h1a h1b]; first | done | rfl) (by omega)

theorem d20_235 : ∀ (l : List UInt8), DecR (235 :: l)
  | [] => by
    refine decBad ?_ rfl
    rw [b20_235]
    rfl
  | [c] => decBad (by rw [b20_235]; rfl) rfl
  | c :: d :: l => by
    have hu : Sp.uni (235 :: c :: d :: l) = (bif decide (128 ≤ c.toNat) && decide (c.toNat ≤ 191) && Sp.cont d then 3 else 0) := rfl
    by_cases h0a : (c.toNat : Int) < 128
    · exact decBad (by rw [b20_235]; simp only [len0, len1, len2, len3, ge2, ge3, ge4, at1, at2, at3, must, optK, cond_true, cond_false, decide_eq_true h0a]) (by rw [hu, decide_eq_false (p := 128 ≤ c.toNat) (by omega)]; simp only [Bool.false_and, cond_false])
    by_cases h0b : (191 : Int) < (c.toNat : Int)
    · exact decBad (by rw [b20_235]; simp only [len0, len1, len2, len3, ge2, ge3, ge4, at1, at2, at3, must, optK, cond_true, cond_false, decide_eq_false h0a, decide_eq_true h0b]) (by rw [hu, decide_eq_false (p := c.toNat ≤ 191) (by omega)]; simp only [Bool.and_false, Bool.false_and, cond_false])
    by_cases h1a : (d.toNat : Int) < 128
    · exact decBad (by rw [b20_235]; simp only [len0, len1, len2, len3, ge2, ge3, ge4, at1, at2, at3, must, optK, cond_true, cond_false, decide_eq_false h0a, decide_eq_false h0b, decide_eq_true h1a]) (by rw [hu, contF (c := d) (.inl h1a)]; simp only [Bool.and_false, Bool.false_and, cond_false])
    by_cases h1b : (191 : Int) < (d.toNat : Int)
    · exact decBad (by rw [b20_235]; simp only [len0, len1, len2, len3, ge2, ge3, ge4, at1, at2, at3, must, optK, cond_true, cond_false, decide_eq_false h0a, decide_eq_false h0b, decide_eq_false h1a, decide_eq_true h1b]) (by rw [hu, contF (c := d) (.inr h1b)]; simp only [Bool.and_false, Bool.false_and, cond_false])
    exact decGood (k := 3) (by rw [b20_235]; simp only [len0, len1, len2, len3, ge2, ge3, ge4, at1, at2, at3, must, optK, cond_true, cond_false, decide_eq_false h0a, decide_eq_false h0b, decide_eq_false h1a, decide_eq_false h1b]; rfl) (by rw [hu, decide_eq_true (p := 128 ≤ c.toNat) (by omega), decide_eq_true (p := c.toNat ≤ 191) (by omega), contT (c := d) h1a h1b]; first | done | rfl) (by omega)

theorem d20_236 : ∀ (l : List UInt8), DecR (236 :: l)
  | [] => by
    refine decBad ?_ rfl
    rw [b20_236]
    rfl
  | [c] => decBad (by rw [b20_236]; rfl) rfl
  | c :: d :: l => by
    have hu : Sp.uni (236 :: c :: d :: l) = (bif decide (128 ≤ c.toNat) && decide (c.toNat ≤ 191) && Sp.cont d then 3 else 0) := rfl
    by_cases h0a : (c.toNat : Int) < 128
    · exact decBad (by rw [b20_236]; simp only [len0, len1, len2, len3, ge2, ge3, ge4, at1, at2, at3, must, optK, cond_true, cond_false, decide_eq_true h0a]) (by rw [hu, decide_eq_false (p := 128 ≤ c.toNat) (by omega)]; simp only [Bool.false_and, cond_false])
    by_cases h0b : (191 : Int) < (c.toNat : Int)
    · exact decBad (by rw [b20_236]; simp only [len0, len1, len2, len3, ge2, ge3, ge4, at1, at2, at3, must, optK, cond_true, cond_false, decide_eq_false h0a, decide_eq_true h0b]) (by rw [hu, decide_eq_false (p := c.toNat ≤ 191) (by omega)]; simp only [Bool.and_false, Bool.false_and, cond_false])
    by_cases h1a : (d.toNat : Int) < 128
    · exact decBad (by rw [b20_236]; simp only [len0, len1, len2, len3, ge2, ge3, ge4, at1, at2, at3, must, optK, cond_true, cond_false, decide_eq_false h0a, decide_eq_false h0b, decide_eq_true h1a]) (by rw [hu, contF (c := d) (.inl h1a)]; simp only [Bool.and_false, Bool.false_and, cond_false])
    by_cases h1b : (191 : Int) < (d.toNat : Int)
    · exact decBad (by rw [b20_236]; simp only [len0, len1, len2, len3, ge2, ge3, ge4, at1, at2, at3, must, optK, cond_true, cond_false, decide_eq_false h0a, decide_eq_false h0b, decide_eq_false h1a, decide_eq_true h1b]) (by rw [hu, contF (c := d) (.inr h1b)]; simp only [Bool.and_false, Bool.false_and, cond_false])
    exact decGood (k := 3) (by rw [b20_236]; simp only [len0, len1, len2, len3, ge2, ge3, ge4, at1, at2, at3, must, optK, cond_true, cond_false, decide_eq_false h0a, decide_eq_false h0b, decide_eq_false h1a, decide_eq_false h1b]; rfl) (by rw [hu, decide_eq_true (p := 128 ≤ c.toNat) (by omega), decide_eq_true (p := c.toNat ≤ 191) (by omega), contT (c := d) h1a h1b]; first | done | rfl) (by omega)

theorem d20_237 : ∀ (l : List UInt8), DecR (237 :: l)
  | [] => by
    refine decBad ?_ rfl
    rw [b20_237]
    rfl
  | [c] => decBad (by rw [b20_237]; rfl) rfl
  | c :: d :: l => by
    have hu : Sp.uni (237 :: c :: d :: l) = (bif decide (128 ≤ c.toNat) && decide (c.toNat ≤ 159) && Sp.cont d then 3 else 0) := rfl
    by_cases h0a : (c.toNat : Int) < 128
    · exact decBad (by rw [b20_237]; simp only [len0, len1, len2, len3, ge2, ge3, ge4, at1, at2, at3, must, optK, cond_true, cond_false, decide_eq_true h0a]) (by rw [hu, decide_eq_false (p := 128 ≤ c.toNat) (by omega)]; simp only [Bool.false_and, cond_false])
    by_cases h0b : (159 : Int) < (c.toNat : Int)
    · exact decBad (by rw [b20_237]; simp only [len0, len1, len2, len3, ge2, ge3, ge4, at1, at2, at3, must, optK, cond_true, cond_false, decide_eq_false h0a, decide_eq_true h0b]) (by rw [hu, decide_eq_false (p := c.toNat ≤ 159) (by omega)]; simp only [Bool.and_false, Bool.false_and, cond_false])
    by_cases h1a : (d.toNat : Int) < 128
    · exact decBad (by rw [b20_237]; simp only [len0, len1, len2, len3, ge2, ge3, ge4, at1, at2, at3, must, optK, cond_true, cond_false, decide_eq_false h0a, decide_eq_false h0b, decide_eq_true h1a]) (by rw [hu, contF (c := d) (.inl h1a)]; simp only [Bool.and_false, Bool.false_and, cond_false])
    by_cases h1b : (191 : Int) < (d.toNat : Int)
    · exact decBad (by rw [b20_237]; simp only [len0, len1, len2, len3, ge2, ge3, ge4, at1, at2, at3, must, optK, cond_true, cond_false, decide_eq_false h0a, decide_eq_false h0b, decide_eq_false h1a, decide_eq_true h1b]) (by rw [hu, contF (c := d) (.inr h1b)]; simp only [Bool.and_false, Bool.false_and, cond_false])
    exact decGood (k := 3) (by rw [b20_237]; simp only [len0, len1, len2, len3, ge2, ge3, ge4, at1, at2, at3, must, optK, cond_true, cond_false, decide_eq_false h0a, decide_eq_false h0b, decide_eq_false h1a, decide_eq_false h1b]; rfl) (by rw [hu, decide_eq_true (p := 128 ≤ c.toNat) (by omega), decide_eq_true (p := c.toNat ≤ 159) (by omega), contT (c := d) h1a h1b]; first | done | rfl) (by omega)

theorem d20_238 : ∀ (l : List UInt8), DecR (238 :: l)
  | [] => by
    refine decBad ?_ rfl
    rw [b20_238]
    rfl
  | [c] => decBad (by rw [b20_238]; rfl) rfl
  | c :: d :: l => by
    have hu : Sp.uni (238 :: c :: d :: l) = (bif decide (128 ≤ c.toNat) && decide (c.toNat ≤ 191) && Sp.cont d then 3 else 0) := rfl
    by_cases h0a : (c.toNat : Int) < 128
    · exact decBad (by rw [b20_238]; simp only [len0, len1, len2, len3, ge2, ge3, ge4, at1, at2, at3, must, optK, cond_true, cond_false, decide_eq_true h0a]) (by rw [hu, decide_eq_false (p := 128 ≤ c.toNat) (by omega)]; simp only [Bool.false_and, cond_false])
    by_cases h0b : (191 : Int) < (c.toNat : Int)
    · exact decBad (by rw [b20_238]; simp only [len0, len1, len2, len3, ge2, ge3, ge4, at1, at2, at3, must, optK, cond_true, cond_false, decide_eq_false h0a, decide_eq_true h0b]) (by rw [hu, decide_eq_false (p := c.toNat ≤ 191) (by omega)]; simp only [Bool.and_false, Bool.false_and, cond_false])
    by_cases h1a : (d.toNat : Int) < 128
    · exact decBad (by rw [b20_238]; simp only [len0, len1, len2, len3, ge2, ge3, ge4, at1, at2, at3, must, optK, cond_true, cond_false, decide_eq_false h0a, decide_eq_false h0b, decide_eq_true h1a]) (by rw [hu, contF (c := d) (.inl h1a)]; simp only [Bool.and_false, Bool.false_and, cond_false])
    by_cases h1b : (191 : Int) < (d.toNat : Int)
    · exact decBad (by rw [b20_238]; simp only [len0, len1, len2, len3, ge2, ge3, ge4, at1, at2, at3, must, optK, cond_true, cond_false, decide_eq_false h0a, decide_eq_false h0b, decide_eq_false h1a, decide_eq_true h1b]) (by rw [hu, contF (c := d) (.inr h1b)]; simp only [Bool.and_false, Bool.false_and, cond_false])
    exact decGood (k := 3) (by rw [b20_238]; simp only [len0, len1, len2, len3, ge2, ge3, ge4, at1, at2, at3, must, optK, cond_true, cond_false, decide_eq_false h0a, decide_eq_false h0b, decide_eq_false h1a, decide_eq_false h1b]; rfl) (by rw [hu, decide_eq_true (p := 128 ≤ c.toNat) (by omega), decide_eq_true (p := c.toNat ≤ 191) (by omega), contT (c := d) h1a h1b]; first | done | rfl) (by omega)

theorem d20_239 : ∀ (l : List UInt8), DecR (239 :: l)
  | [] => by
    refine decBad ?_ rfl
    rw [b20_239]
    rfl
  | [c] => decBad (by rw [b20_239]; rfl) rfl
  | c :: d :: l => by
    have hu : Sp.uni (239 :: c :: d :: l) = (bif decide (128 ≤ c.toNat) && decide (c.toNat ≤ 191) && Sp.cont d then 3 else 0) := rfl
    by_cases h0a : (c.toNat : Int) < 128
    · exact decBad (by rw [b20_239]; simp only [len0, len1, len2, len3, ge2, ge3, ge4, at1, at2, at3, must, optK, cond_true, cond_false, decide_eq_true h0a]) (by rw [hu, decide_eq_false (p := 128 ≤ c.toNat) (by omega)]; simp only [Bool.false_and, cond_false])
    by_cases h0b : (191 : Int) < (c.toNat : Int)
    · exact decBad (by rw [b20_239]; simp only [len0, len1, len2, len3, ge2, ge3, ge4, at1, at2, at3, must, optK, cond_true, cond_false, decide_eq_false h0a, decide_eq_true h0b]) (by rw [hu, decide_eq_false (p := c.toNat ≤ 191) (by omega)]; simp only [Bool.and_false, Bool.false_and, cond_false])
    by_cases h1a : (d.toNat : Int) < 128
    · exact decBad (by rw [b20_239]; simp only [len0, len1, len2, len3, ge2, ge3, ge4, at1, at2, at3, must, optK, cond_true, cond_false, decide_eq_false h0a, decide_eq_false h0b, decide_eq_true h1a]) (by rw [hu, contF (c := d) (.inl h1a)]; simp only [Bool.and_false, Bool.false_and, cond_false])
    by_cases h1b : (191 : Int) < (d.toNat : Int)
    · exact decBad (by rw [b20_239]; simp only [len0, len1, len2, len3, ge2, ge3, ge4, at1, at2, at3, must, optK, cond_true, cond_false, decide_eq_false h0a, decide_eq_false h0b, decide_eq_false h1a, decide_eq_true h1b]) (by rw [hu, contF (c := d) (.inr h1b)]; simp only [Bool.and_false, Bool.false_and, cond_false])
    exact decGood (k := 3) (by rw [b20_239]; simp only [len0, len1, len2, len3, ge2, ge3, ge4, at1, at2, at3, must, optK, cond_true, cond_false, decide_eq_false h0a, decide_eq_false h0b, decide_eq_false h1a, decide_eq_false h1b]; rfl) (by rw [hu, decide_eq_true (p := 128 ≤ c.toNat) (by omega), decide_eq_true (p := c.toNat ≤ 191) (by omega), contT (c := d) h1a h1b]; first | done | rfl) (by omega)

theorem d20_240 : ∀ (l : List UInt8), DecR (240 :: l)
  | [] => by
    refine decBad ?_ rfl
    rw [b20_240]
    rfl
  | [c] => decBad (by rw [b20_240]; rfl) rfl
  | [c, d] => decBad (by rw [b20_240]; rfl) rfl
  | c :: d :: e :: l => by
    have hu : Sp.uni (240 :: c :: d :: e :: l) = (bif decide (144 ≤ c.toNat) && decide (c.toNat ≤ 191) && Sp.cont d && Sp.cont e then 4 else 0) := rfl
    by_cases h0a : (c.toNat : Int) < 144
    · exact decBad (by rw [b20_240]; simp only [len0, len1, len2, len3, ge2, ge3, ge4, at1, at2, at3, must, optK, cond_true, cond_false, decide_eq_true h0a]) (by rw [hu, decide_eq_false (p := 144 ≤ c.toNat) (by omega)]; simp only [Bool.false_and, cond_false])
    by_cases h0b : (191 : Int) < (c.toNat : Int)
    · exact decBad (by rw [b20_240]; simp only [len0, len1, len2, len3, ge2, ge3, ge4, at1, at2, at3, must, optK, cond_true, cond_false, decide_eq_false h0a, decide_eq_true h0b]) (by rw [hu, decide_eq_false (p := c.toNat ≤ 191) (by omega)]; simp only [Bool.and_false, Bool.false_and, cond_false])
    by_cases h1a : (d.toNat : Int) < 128
    · exact decBad (by rw [b20_240]; simp only [len0, len1, len2, len3, ge2, ge3, ge4, at1, at2, at3, must, optK, cond_true, cond_false, decide_eq_false h0a, decide_eq_false h0b, decide_eq_true h1a]) (by rw [hu, contF (c := d) (.inl h1a)]; simp only [Bool.and_false, Bool.false_and, cond_false])
    by_cases h1b : (191 : Int) < (d.toNat : Int)
    · exact decBad (by rw [b20_240]; simp only [len0, len1, len2, len3, ge2, ge3, ge4, at1, at2, at3, must, optK, cond_true, cond_false, decide_eq_false h0a, decide_eq_false h0b, decide_eq_false h1a, decide_eq_true h1b]) (by rw [hu, contF (c := d) (.inr h1b)]; simp only [Bool.and_false, Bool.false_and, cond_false])
    by_cases h2a : (e.toNat : Int) < 128
    · exact decBad (by rw [b20_240]; simp only [len0, len1, len2, len3, ge2, ge3, ge4, at1, at2, at3, must, optK, cond_true, cond_false, decide_eq_false h0a, decide_eq_false h0b, decide_eq_false h1a, decide_eq_false h1b, decide_eq_true h2a]) (by rw [hu, contF (c := e) (.inl h2a)]; simp only [Bool.and_false, Bool.false_and, cond_false])
    by_cases h2b : (191 : Int) < (e.toNat : Int)
    · exact decBad (by rw [b20_240]; simp only [len0, len1, len2, len3, ge2, ge3, ge4, at1, at2, at3, must, optK, cond_true, cond_false, decide_eq_false h0a, decide_eq_false h0b, decide_eq_false h1a, decide_eq_false h1b, decide_eq_false h2a, decide_eq_true h2b]) (by rw [hu, contF (c := e) (.inr h2b)]; simp only [Bool.and_false, Bool.false_and, cond_false])
    exact decGood (k := 4) (by rw [b20_240]; simp only [len0, len1, len2, len3, ge2, ge3, ge4, at1, at2, at3, must, optK, cond_true, cond_false, decide_eq_false h0a, decide_eq_false h0b, decide_eq_false h1a, decide_eq_false h1b, decide_eq_false h2a, decide_eq_false h2b]; rfl) (by rw [hu, decide_eq_true (p := 144 ≤ c.toNat) (by omega), decide_eq_true (p := c.toNat ≤ 191) (by omega), contT (c := d) h1a h1b, contT (c := e) h2a h2b]; first | done | rfl) (by omega)

theorem d20_241 : ∀ (l : List UInt8), DecR (241 :: l)
  | [] => by
    refine decBad ?_ rfl
    rw [b20_241]
    rfl
  | [c] => decBad (by rw [b20_241]; rfl) rfl
  | [c, d] => decBad (by rw [b20_241]; rfl) rfl
  | c :: d :: e :: l => by
    have hu : Sp.uni (241 :: c :: d :: e :: l) = (bif decide (128 ≤ c.toNat) && decide (c.toNat ≤ 191) && Sp.cont d && Sp.cont e then 4 else 0) := rfl
    by_cases h0a : (c.toNat : Int) < 128
    · exact decBad (by rw [b20_241]; simp only [len0, len1, len2, len3, ge2, ge3, ge4, at1, at2, at3, must, optK, cond_true, cond_false, decide_eq_true h0a]) (by rw [hu, decide_eq_false (p := 128 ≤ c.toNat) (by omega)]; simp only [Bool.false_and, cond_false])
    by_cases h0b : (191 : Int) < (c.toNat : Int)
    · exact decBad (by rw [b20_241]; simp only [len0, len1, len2, len3, ge2, ge3, ge4, at1, at2, at3, must, optK, cond_true, cond_false, decide_eq_false h0a, decide_eq_true h0b]) (by rw [hu, decide_eq_false (p := c.toNat ≤ 191) (by omega)]; simp only [Bool.and_false, Bool.false_and, cond_false])
    by_cases h1a : (d.toNat : Int) < 128
    · exact decBad (by rw [b20_241]; simp only [len0, len1, len2, len3, ge2, ge3, ge4, at1, at2, at3, must, optK, cond_true, cond_false, decide_eq_false h0a, decide_eq_false h0b, decide_eq_true h1a]) (by rw [hu, contF (c := d) (.inl h1a)]; simp only [Bool.and_false, Bool.false_and, cond_false])
    by_cases h1b : (191 : Int) < (d.toNat : Int)
    · exact decBad (by rw [b20_241]; simp only [len0, len1, len2, len3, ge2, ge3, ge4, at1, at2, at3, must, optK, cond_true, cond_false, decide_eq_false h0a, decide_eq_false h0b, decide_eq_false h1a, decide_eq_true h1b]) (by rw [hu, contF (c := d) (.inr h1b)]; simp only [Bool.and_false, Bool.false_and, cond_false])
    by_cases h2a : (e.toNat : Int) < 128
    · exact decBad (by rw [b20_241]; simp only [len0, len1, len2, len3, ge2, ge3, ge4, at1, at2, at3, must, optK, cond_true, cond_false, decide_eq_false h0a, decide_eq_false h0b, decide_eq_false h1a, decide_eq_false h1b, decide_eq_true h2a]) (by rw [hu, contF (c := e) (.inl h2a)]; simp only [Bool.and_false, Bool.false_and, cond_false])
    by_cases h2b : (191 : Int) < (e.toNat : Int)
    · exact decBad (by rw [b20_241]; simp only [len0, len1, len2, len3, ge2, ge3, ge4, at1, at2, at3, must, optK, cond_true, cond_false, decide_eq_false h0a, decide_eq_false h0b, decide_eq_false h1a, decide_eq_false h1b, decide_eq_false h2a, decide_eq_true h2b]) (by rw [hu, contF (c := e) (.inr h2b)]; simp only [Bool.and_false, Bool.false_and, cond_false])
    exact decGood (k := 4) (by rw [b20_241]; simp only [len0, len1, len2, len3, ge2, ge3, ge4, at1, at2, at3, must, optK, cond_true, cond_false, decide_eq_false h0a, decide_eq_false h0b, decide_eq_false h1a, decide_eq_false h1b, decide_eq_false h2a, decide_eq_false h2b]; rfl) (by rw [hu, decide_eq_true (p := 128 ≤ c.toNat) (by omega), decide_eq_true (p := c.toNat ≤ 191) (by omega), contT (c := d) h1a h1b, contT (c := e) h2a h2b]; first | done | rfl) (by omega)

theorem d20_242 : ∀ (l : List UInt8), DecR (242 :: l)
  | [] => by
    refine decBad ?_ rfl
    rw [b20_242]
    rfl
  | [c] => decBad (by rw [b20_242]; rfl) rfl
  | [c, d] => decBad (by rw [b20_242]; rfl) rfl
  | c :: d :: e :: l => by
    have hu : Sp.uni (242 :: c :: d :: e :: l) = (bif decide (128 ≤ c.toNat) && decide (c.toNat ≤ 191) && Sp.cont d && Sp.cont e then 4 else 0) := rfl
    by_cases h0a : (c.toNat : Int) < 128
    · exact decBad (by rw [b20_242]; simp only [len0, len1, len2, len3, ge2, ge3, ge4, at1, at2, at3, must, optK, cond_true, cond_false, decide_eq_true h0a]) (by rw [hu, decide_eq_false (p := 128 ≤ c.toNat) (by omega)]; simp only [Bool.false_and, cond_false])
    by_cases h0b : (191 : Int) < (c.toNat : Int)
    · exact decBad (by rw [b20_242]; simp only [len0, len1, len2, len3, ge2, ge3, ge4, at1, at2, at3, must, optK, cond_true, cond_false, decide_eq_false h0a, decide_eq_true h0b]) (by rw [hu, decide_eq_false (p := c.toNat ≤ 191) (by omega)]; simp only [Bool.and_false, Bool.false_and, cond_false])
    by_cases h1a : (d.toNat : Int) < 128
    · exact decBad (by rw [b20_242]; simp only [len0, len1, len2, len3, ge2, ge3, ge4, at1, at2, at3, must, optK, cond_true, cond_false, decide_eq_false h0a, decide_eq_false h0b, decide_eq_true h1a]) (by rw [hu, contF (c := d) (.inl h1a)]; simp only [Bool.and_false, Bool.false_and, cond_false])
    by_cases h1b : (191 : Int) < (d.toNat : Int)
    · exact decBad (by rw [b20_242]; simp only [len0, len1, len2, len3, ge2, ge3, ge4, at1, at2, at3, must, optK, cond_true, cond_false, decide_eq_false h0a, decide_eq_false h0b, decide_eq_false h1a, decide_eq_true h1b]) (by rw [hu, contF (c := d) (.inr h1b)]; simp only [Bool.and_false, Bool.false_and, cond_false])
    by_cases h2a : (e.toNat : Int) < 128
    · exact decBad (by rw [b20_242]; simp only [len0, len1, len2, len3, ge2, ge3, ge4, at1, at2, at3, must, optK, cond_true, cond_false, decide_eq_false h0a, decide_eq_false h0b, decide_eq_false h1a, decide_eq_false h1b, decide_eq_true h2a]) (by rw [hu, contF (c := e) (.inl h2a)]; simp only [Bool.and_false, Bool.false_and, cond_false])
    by_cases h2b : (191 : Int) < (e.toNat : Int)
    · exact decBad (by rw [b20_242]; simp only [len0, len1, len2, len3, ge2, ge3, ge4, at1, at2, at3, must, optK, cond_true, cond_false, decide_eq_false h0a, decide_eq_false h0b, decide_eq_false h1a, decide_eq_false h1b, decide_eq_false h2a, decide_eq_true h2b]) (by rw [hu, contF (c := e) (.inr h2b)]; simp only [Bool.and_false, Bool.false_and, cond_false])
    exact decGood (k := 4) (by rw [b20_242]; simp only [len0, len1, len2, len3, ge2, ge3, ge4, at1, at2, at3, must, optK, cond_true, cond_false, decide_eq_false h0a, decide_eq_false h0b, decide_eq_false h1a, decide_eq_false h1b, decide_eq_false h2a, decide_eq_false h2b]; rfl) (by rw [hu, decide_eq_true (p := 128 ≤ c.toNat) (by omega), decide_eq_true (p := c.toNat ≤ 191) (by omega), contT (c := d) h1a h1b, contT (c := e) h2a h2b]; first | done | rfl) (by omega)

theorem d20_243 : ∀ (l : List UInt8), DecR (243 :: l)
  | [] => by
    refine decBad ?_ rfl
    rw [b20_243]
    rfl
  | [c] => decBad (by rw [b20_243]; rfl) rfl
  | [c, d] => decBad (by rw [b20_243]; rfl) rfl
  | c :: d :: e :: l => by
    have hu : Sp.uni (243 :: c :: d :: e :: l) = (bif decide (128 ≤ c.toNat) && decide (c.toNat ≤ 191) && Sp.cont d && Sp.cont e then 4 else 0) := rfl
    by_cases h0a : (c.toNat : Int) < 128
    · exact decBad (by rw [b20_243]; simp only [len0, len1, len2, len3, ge2, ge3, ge4, at1, at2, at3, must, optK, cond_true, cond_false, decide_eq_true h0a]) (by rw [hu, decide_eq_false (p := 128 ≤ c.toNat) (by omega)]; simp only [Bool.false_and, cond_false])
    by_cases h0b : (191 : Int) < (c.toNat : Int)
    · exact decBad (by rw [b20_243]; simp only [len0, len1, len2, len3, ge2, ge3, ge4, at1, at2, at3, must, optK, cond_true, cond_false, decide_eq_false h0a, decide_eq_true h0b]) (by rw [hu, decide_eq_false (p := c.toNat ≤ 191) (by omega)]; simp only [Bool.and_false, Bool.false_and, cond_false])
    by_cases h1a : (d.toNat : Int) < 128
    · exact decBad (by rw [b20_243]; simp only [len0, len1, len2, len3, ge2, ge3, ge4, at1, at2, at3, must, optK, cond_true, cond_false, decide_eq_false h0a, decide_eq_false h0b, decide_eq_true h1a]) (by rw [hu, contF (c := d) (.inl h1a)]; simp only [Bool.and_false, Bool.false_and, cond_false])
    by_cases h1b : (191 : Int) < (d.toNat : Int)
    · exact decBad (by rw [b20_243]; simp only [len0, len1, len2, len3, ge2, ge3, ge4, at1, at2, at3, must, optK, cond_true, cond_false, decide_eq_false h0a, decide_eq_false h0b, decide_eq_false h1a, decide_eq_true h1b]) (by rw [hu, contF (c := d) (.inr h1b)]; simp only [Bool.and_false, Bool.false_and, cond_false])
    by_cases h2a : (e.toNat : Int) < 128
    · exact decBad (by rw [b20_243]; simp only [len0, len1, len2, len3, ge2, ge3, ge4, at1, at2, at3, must, optK, cond_true, cond_false, decide_eq_false h0a, decide_eq_false h0b, decide_eq_false h1a, decide_eq_false h1b, decide_eq_true h2a]) (by rw [hu, contF (c := e) (.inl h2a)]; simp only [Bool.and_false, Bool.false_and, cond_false])
    by_cases h2b : (191 : Int) < (e.toNat : Int)
    · exact decBad (by rw [b20_243]; simp only [len0, len1, len2, len3, ge2, ge3, ge4, at1, at2, at3, must, optK, cond_true, cond_false, decide_eq_false h0a, decide_eq_false h0b, decide_eq_false h1a, decide_eq_false h1b, decide_eq_false h2a, decide_eq_true h2b]) (by rw [hu, contF (c := e) (.inr h2b)]; simp only [Bool.and_false, Bool.false_and, cond_false])
    exact decGood (k := 4) (by rw [b20_243]; simp only [len0, len1, len2, len3, ge2, ge3, ge4, at1, at2, at3, must, optK, cond_true, cond_false, decide_eq_false h0a, decide_eq_false h0b, decide_eq_false h1a, decide_eq_false h1b, decide_eq_false h2a, decide_eq_false h2b]; rfl) (by rw [hu, decide_eq_true (p := 128 ≤ c.toNat) (by omega), decide_eq_true (p := c.toNat ≤ 191) (by omega), contT (c := d) h1a h1b, contT (c := e) h2a h2b]; first | done | rfl) (by omega)

theorem d20_244 : ∀ (l : List UInt8), DecR (244 :: l)
  | [] => by
    refine decBad ?_ rfl
    rw [b20_244]
    rfl
  | [c] => decBad (by rw [b20_244]; rfl) rfl
  | [c, d] => decBad (by rw [b20_244]; rfl) rfl
  | c :: d :: e :: l => by
    have hu : Sp.uni (244 :: c :: d :: e :: l) = (bif decide (128 ≤ c.toNat) && decide (c.toNat ≤ 143) && Sp.cont d && Sp.cont e then 4 else 0) := rfl
    by_cases h0a : (c.toNat : Int) < 128
    · exact decBad (by rw [b20_244]; simp only [len0, len1, len2, len3, ge2, ge3, ge4, at1, at2, at3, must, optK, cond_true, cond_false, decide_eq_true h0a]) (by rw [hu, decide_eq_false (p := 128 ≤ c.toNat) (by omega)]; simp only [Bool.false_and, cond_false])
    by_cases h0b : (143 : Int) < (c.toNat : Int)
    · exact decBad (by rw [b20_244]; simp only [len0, len1, len2, len3, ge2, ge3, ge4, at1, at2, at3, must, optK, cond_true, cond_false, decide_eq_false h0a, decide_eq_true h0b]) (by rw [hu, decide_eq_false (p := c.toNat ≤ 143) (by omega)]; simp only [Bool.and_false, Bool.false_and, cond_false])
    by_cases h1a : (d.toNat : Int) < 128
    · exact decBad (by rw [b20_244]; simp only [len0, len1, len2, len3, ge2, ge3, ge4, at1, at2, at3, must, optK, cond_true, cond_false, decide_eq_false h0a, decide_eq_false h0b, decide_eq_true h1a]) (by rw [hu, contF (c := d) (.inl h1a)]; simp only [Bool.and_false, Bool.false_and, cond_false])
    by_cases h1b : (191 : Int) < (d.toNat : Int)
    · exact decBad (by rw [b20_244]; simp only [len0, len1, len2, len3, ge2, ge3, ge4, at1, at2, at3, must, optK, cond_true, cond_false, decide_eq_false h0a, decide_eq_false h0b, decide_eq_false h1a, decide_eq_true h1b]) (by rw [hu, contF (c := d) (.inr h1b)]; simp only [Bool.and_false, Bool.false_and, cond_false])
    by_cases h2a : (e.toNat : Int) < 128
    · exact decBad (by rw [b20_244]; simp only [len0, len1, len2, len3, ge2, ge3, ge4, at1, at2, at3, must, optK, cond_true, cond_false, decide_eq_false h0a, decide_eq_false h0b, decide_eq_false h1a, decide_eq_false h1b, decide_eq_true h2a]) (by rw [hu, contF (c := e) (.inl h2a)]; simp only [Bool.and_false, Bool.false_and, cond_false])
    by_cases h2b : (191 : Int) < (e.toNat : Int)
    · exact decBad (by rw [b20_244]; simp only [len0, len1, len2, len3, ge2, ge3, ge4, at1, at2, at3, must, optK, cond_true, cond_false, decide_eq_false h0a, decide_eq_false h0b, decide_eq_false h1a, decide_eq_false h1b, decide_eq_false h2a, decide_eq_true h2b]) (by rw [hu, contF (c := e) (.inr h2b)]; simp only [Bool.and_false, Bool.false_and, cond_false])
    exact decGood (k := 4) (by rw [b20_244]; simp only [len0, len1, len2, len3, ge2, ge3, ge4, at1, at2, at3, must, optK, cond_true, cond_false, decide_eq_false h0a, decide_eq_false h0b, decide_eq_false h1a, decide_eq_false h1b, decide_eq_false h2a, decide_eq_false h2b]; rfl) (by rw [hu, decide_eq_true (p := 128 ≤ c.toNat) (by omega), decide_eq_true (p := c.toNat ≤ 143) (by omega), contT (c := d) h1a h1b, contT (c := e) h2a h2b]; first | done | rfl) (by omega)

theorem d20_245 (l : List UInt8) : DecR (245 :: l) := by
  refine decBad ?_ rfl
  rw [b20_245, len0]
  rfl

theorem d20_246 (l : List UInt8) : DecR (246 :: l) := by
  refine decBad ?_ rfl
  rw [b20_246, len0]
  rfl

theorem d20_247 (l : List UInt8) : DecR (247 :: l) := by
  refine decBad ?_ rfl
  rw [b20_247, len0]
  rfl

theorem d20_248 (l : List UInt8) : DecR (248 :: l) := by
  refine decBad ?_ rfl
  rw [b20_248, len0]
  rfl

theorem d20_249 (l : List UInt8) : DecR (249 :: l) := by
  refine decBad ?_ rfl
  rw [b20_249, len0]
  rfl

theorem d20_250 (l : List UInt8) : DecR (250 :: l) := by
  refine decBad ?_ rfl
  rw [b20_250, len0]
  rfl

theorem d20_251 (l : List UInt8) : DecR (251 :: l) := by
  refine decBad ?_ rfl
  rw [b20_251, len0]
  rfl

theorem d20_252 (l : List UInt8) : DecR (252 :: l) := by
  refine decBad ?_ rfl
  rw [b20_252, len0]
  rfl

theorem d20_253 (l : List UInt8) : DecR (253 :: l) := by
  refine decBad ?_ rfl
  rw [b20_253, len0]
  rfl

theorem d20_254 (l : List UInt8) : DecR (254 :: l) := by
  refine decBad ?_ rfl
  rw [b20_254, len0]
  rfl

theorem d20_255 (l : List UInt8) : DecR (255 :: l) := by
  refine decBad ?_ rfl
  rw [b20_255, len0]
  rfl

end Go.Vai
end

section
namespace Go.Vai
open Go.Proofs

theorem d20g0 (b : UInt8) (l : List UInt8) (h1 : 128 ≤ b.toNat) (h2 : b.toNat < 144) : DecR (b :: l) := by
  have hb : b = UInt8.ofNat b.toNat := by simp
  generalize b.toNat = k at *
  obtain ⟨i, rfl⟩ : ∃ i, k = 128 + i := ⟨k - 128, by omega⟩
  subst hb
  match i, h2 with
  | 0, _ => exact d20_128 l
  | 1, _ => exact d20_129 l
  | 2, _ => exact d20_130 l
  | 3, _ => exact d20_131 l
  | 4, _ => exact d20_132 l
  | 5, _ => exact d20_133 l
  | 6, _ => exact d20_134 l
  | 7, _ => exact d20_135 l
  | 8, _ => exact d20_136 l
  | 9, _ => exact d20_137 l
  | 10, _ => exact d20_138 l
  | 11, _ => exact d20_139 l
  | 12, _ => exact d20_140 l
  | 13, _ => exact d20_141 l
  | 14, _ => exact d20_142 l
  | 15, _ => exact d20_143 l
  | i + 16, h2 => omega

theorem d20g1 (b : UInt8) (l : List UInt8) (h1 : 144 ≤ b.toNat) (h2 : b.toNat < 160) : DecR (b :: l) := by
  have hb : b = UInt8.ofNat b.toNat := by simp
  generalize b.toNat = k at *
  obtain ⟨i, rfl⟩ : ∃ i, k = 144 + i := ⟨k - 144, by omega⟩
  subst hb
  match i, h2 with
  | 0, _ => exact d20_144 l
  | 1, _ => exact d20_145 l
  | 2, _ => exact d20_146 l
  | 3, _ => exact d20_147 l
  | 4, _ => exact d20_148 l
  | 5, _ => exact d20_149 l
  | 6, _ => exact d20_150 l
  | 7, _ => exact d20_151 l
  | 8, _ => exact d20_152 l
  | 9, _ => exact d20_153 l
  | 10, _ => exact d20_154 l
  | 11, _ => exact d20_155 l
  | 12, _ => exact d20_156 l
  | 13, _ => exact d20_157 l
  | 14, _ => exact d20_158 l
  | 15, _ => exact d20_159 l
  | i + 16, h2 => omega

theorem d20g2 (b : UInt8) (l : List UInt8) (h1 : 160 ≤ b.toNat) (h2 : b.toNat < 176) : DecR (b :: l) := by
  have hb : b = UInt8.ofNat b.toNat := by simp
  generalize b.toNat = k at *
  obtain ⟨i, rfl⟩ : ∃ i, k = 160 + i := ⟨k - 160, by omega⟩
  subst hb
  match i, h2 with
  | 0, _ => exact d20_160 l
  | 1, _ => exact d20_161 l
  | 2, _ => exact d20_162 l
  | 3, _ => exact d20_163 l
  | 4, _ => exact d20_164 l
  | 5, _ => exact d20_165 l
  | 6, _ => exact d20_166 l
  | 7, _ => exact d20_167 l
  | 8, _ => exact d20_168 l
  | 9, _ => exact d20_169 l
  | 10, _ => exact d20_170 l
  | 11, _ => exact d20_171 l
  | 12, _ => exact d20_172 l
  | 13, _ => exact d20_173 l
  | 14, _ => exact d20_174 l
  | 15, _ => exact d20_175 l
  | i + 16, h2 => omega

theorem d20g3 (b : UInt8) (l : List UInt8) (h1 : 176 ≤ b.toNat) (h2 : b.toNat < 192) : DecR (b :: l) := by
  have hb : b = UInt8.ofNat b.toNat := by simp
  generalize b.toNat = k at *
  obtain ⟨i, rfl⟩ : ∃ i, k = 176 + i := ⟨k - 176, by omega⟩
  subst hb
  match i, h2 with
  | 0, _ => exact d20_176 l
  | 1, _ => exact d20_177 l
  | 2, _ => exact d20_178 l
  | 3, _ => exact d20_179 l
  | 4, _ => exact d20_180 l
  | 5, _ => exact d20_181 l
  | 6, _ => exact d20_182 l
  | 7, _ => exact d20_183 l
  | 8, _ => exact d20_184 l
  | 9, _ => exact d20_185 l
  | 10, _ => exact d20_186 l
  | 11, _ => exact d20_187 l
  | 12, _ => exact d20_188 l
  | 13, _ => exact d20_189 l
  | 14, _ => exact d20_190 l
  | 15, _ => exact d20_191 l
  | i + 16, h2 => omega

theorem d20g4 (b : UInt8) (l : List UInt8) (h1 : 192 ≤ b.toNat) (h2 : b.toNat < 208) : DecR (b :: l) := by
  have hb : b = UInt8.ofNat b.toNat := by simp
  generalize b.toNat = k at *
  obtain ⟨i, rfl⟩ : ∃ i, k = 192 + i := ⟨k - 192, by omega⟩
  subst hb
  match i, h2 with
  | 0, _ => exact d20_192 l
  | 1, _ => exact d20_193 l
  | 2, _ => exact d20_194 l
  | 3, _ => exact d20_195 l
  | 4, _ => exact d20_196 l
  | 5, _ => exact d20_197 l
  | 6, _ => exact d20_198 l
  | 7, _ => exact d20_199 l
  | 8, _ => exact d20_200 l
  | 9, _ => exact d20_201 l
  | 10, _ => exact d20_202 l
  | 11, _ => exact d20_203 l
  | 12, _ => exact d20_204 l
  | 13, _ => exact d20_205 l
  | 14, _ => exact d20_206 l
  | 15, _ => exact d20_207 l
  | i + 16, h2 => omega

theorem d20g5 (b : UInt8) (l : List UInt8) (h1 : 208 ≤ b.toNat) (h2 : b.toNat < 224) : DecR (b :: l) := by
  have hb : b = UInt8.ofNat b.toNat := by simp
  generalize b.toNat = k at *
  obtain ⟨i, rfl⟩ : ∃ i, k = 208 + i := ⟨k - 208, by omega⟩
  subst hb
  match i, h2 with
  | 0, _ => exact d20_208 l
  | 1, _ => exact d20_209 l
  | 2, _ => exact d20_210 l
  | 3, _ => exact d20_211 l
  | 4, _ => exact d20_212 l
  | 5, _ => exact d20_213 l
  | 6, _ => exact d20_214 l
  | 7, _ => exact d20_215 l
  | 8, _ => exact d20_216 l
  | 9, _ => exact d20_217 l
  | 10, _ => exact d20_218 l
  | 11, _ => exact d20_219 l
  | 12, _ => exact d20_220 l
  | 13, _ => exact d20_221 l
  | 14, _ => exact d20_222 l
  | 15, _ => exact d20_223 l
  | i + 16, h2 => omega

theorem d20g6 (b : UInt8) (l : List UInt8) (h1 : 224 ≤ b.toNat) (h2 : b.toNat < 240) : DecR (b :: l) := by
  have hb : b = UInt8.ofNat b.toNat := by simp
  generalize b.toNat = k at *
  obtain ⟨i, rfl⟩ : ∃ i, k = 224 + i := ⟨k - 224, by omega⟩
  subst hb
  match i, h2 with
  | 0, _ => exact d20_224 l
  | 1, _ => exact d20_225 l
  | 2, _ => exact d20_226 l
  | 3, _ => exact d20_227 l
  | 4, _ => exact d20_228 l
  | 5, _ => exact d20_229 l
  | 6, _ => exact d20_230 l
  | 7, _ => exact d20_231 l
  | 8, _ => exact d20_232 l
  | 9, _ => exact d20_233 l
  | 10, _ => exact d20_234 l
  | 11, _ => exact d20_235 l
  | 12, _ => exact d20_236 l
  | 13, _ => exact d20_237 l
  | 14, _ => exact d20_238 l
  | 15, _ => exact d20_239 l
  | i + 16, h2 => omega

theorem d20g7 (b : UInt8) (l : List UInt8) (h1 : 240 ≤ b.toNat) (h2 : b.toNat < 256) : DecR (b :: l) := by
  have hb : b = UInt8.ofNat b.toNat := by simp
  generalize b.toNat = k at *
  obtain ⟨i, rfl⟩ : ∃ i, k = 240 + i := ⟨k - 240, by omega⟩
  subst hb
  match i, h2 with
  | 0, _ => exact d20_240 l
  | 1, _ => exact d20_241 l
  | 2, _ => exact d20_242 l
  | 3, _ => exact d20_243 l
  | 4, _ => exact d20_244 l
  | 5, _ => exact d20_245 l
  | 6, _ => exact d20_246 l
  | 7, _ => exact d20_247 l
  | 8, _ => exact d20_248 l
  | 9, _ => exact d20_249 l
  | 10, _ => exact d20_250 l
  | 11, _ => exact d20_251 l
  | 12, _ => exact d20_252 l
  | 13, _ => exact d20_253 l
  | 14, _ => exact d20_254 l
  | 15, _ => exact d20_255 l
  | i + 16, h2 => omega

theorem d20 (b : UInt8) (l : List UInt8) (h : 128 ≤ b.toNat) : DecR (b :: l) := by
  have h2 : b.toNat < 256 := b.toNat_lt
  by_cases g0 : b.toNat < 144
  · exact d20g0 b l (by omega) g0
  by_cases g1 : b.toNat < 160
  · exact d20g1 b l (by omega) g1
  by_cases g2 : b.toNat < 176
  · exact d20g2 b l (by omega) g2
  by_cases g3 : b.toNat < 192
  · exact d20g3 b l (by omega) g3
  by_cases g4 : b.toNat < 208
  · exact d20g4 b l (by omega) g4
  by_cases g5 : b.toNat < 224
  · exact d20g5 b l (by omega) g5
  by_cases g6 : b.toNat < 240
  · exact d20g6 b l (by omega) g6
  exact d20g7 b l (by omega) (by omega)

end Go.Vai
end

section
namespace Go.Vai
open Go.Proofs

noncomputable def Sp.slow (s : List UInt8) : Int × Int := match evLim cx 58 [.d (.str s)] [] with | some (.ret (.tup [.d (.int _ r), .d (.int _ n)]), _) => (r, n) | _ => (0, 0)
noncomputable def slowF : List V → Option Out | [.d (.str (b :: r))] => some (.ret (.tup [.d (.int .i32 (Sp.slow (b :: r)).1), .d (.int .i64 (Sp.slow (b :: r)).2)])) | _ => none
noncomputable def S12 : Caller := also 58 slowF none1

theorem b12 (n : Nat) (b : UInt8) (r : List UInt8) :
    evBody cx S12 n 29 [.d (.str (b :: r))] [] =
  must (decide ((0 : Int) < (↑(b :: r).length : Int)))
    (bif decide ((↑b.toNat : Int) < (128 : Int)) then
      must (decide ((0 : Int) < (↑(b :: r).length : Int)))
        (some
          (Out.ret
              (V.tup
                [V.d (D.int IntKind.i32 (IntKind.i32.wrap (↑b.toNat : Int))), V.d (D.int IntKind.i64 (1 : Int))]),
            []))
    else
      must (decide (128 ≤ b.toNat))
        (some
          (Out.ret
              (V.tup [V.d (D.int IntKind.i32 (Sp.slow (b :: r)).fst), V.d (D.int IntKind.i64 (Sp.slow (b :: r)).snd)]),
            []))) := by kernel_rfl

theorem slow_some {args : List V} {o : Out} (h : slowF args = some o) : ∃ b r, args = [.d (.str (b :: r))] ∧ o = .ret (.tup [.d (.int .i32 (Sp.slow (b :: r)).1), .d (.int .i64 (Sp.slow (b :: r)).2)]) := by
  unfold slowF at h
  split at h
  · cases h; exact ⟨_, _, rfl, rfl⟩
  · cases h

theorem slow_ok {b : UInt8} {r : List UInt8} (h : 128 ≤ b.toNat) : evLim cx 58 [.d (.str (b :: r))] [] = some (.ret (.tup [.d (.int .i32 (Sp.slow (b :: r)).1), .d (.int .i64 (Sp.slow (b :: r)).2)]), []) ∧
    (Sp.uni (b :: r) = 0 → (Sp.slow (b :: r)).1 = 65533 ∧ (Sp.slow (b :: r)).2 < 2) ∧ (Sp.uni (b :: r) ≠ 0 → (Sp.slow (b :: r)).2 = Sp.uni (b :: r) ∧ ((Sp.slow (b :: r)).2 < 2 → (Sp.slow (b :: r)).1 ≠ 65533)) := by
  obtain ⟨x, n, h1, h2, h3⟩ := d20 b r h
  have e : Sp.slow (b :: r) = (x, n) := by unfold Sp.slow; rw [h1]
  rw [e]
  exact ⟨h1, h2, h3⟩

theorem S12_knows : knows cx S12 (evLim cx) := also_knows (none1_knows cx) fun args o hd h => by
  obtain ⟨b, r, rfl, rfl⟩ := slow_some h
  exact (slow_ok (of_decide_eq_true hd)).1

theorem lim12c (b : UInt8) (r : List UInt8) : ∃ x n : Int, evLim cx 29 [.d (.str (b :: r))] [] = some (.ret (.tup [.d (.int .i32 x), .d (.int .i64 n)]), []) ∧
    (Sp.uni (b :: r) = 0 → x = 65533 ∧ n < 2) ∧ (Sp.uni (b :: r) ≠ 0 → n = Sp.uni (b :: r) ∧ (n < 2 → x ≠ 65533)) := by
  by_cases h : b.toNat < 128
  · have hu : Sp.uni (b :: r) = 1 := by simp only [Sp.uni, decide_eq_true h, cond_true]
    refine ⟨IntKind.i32.wrap b.toNat, 1, lim_body (N := 0) S12_knows ?_, fun h0 => by omega, fun _ => ⟨by rw [hu]; rfl, fun _ he => ?_⟩⟩
    · rw [b12, len0, decide_eq_true (p := (b.toNat : Int) < 128) (by omega)]
      rfl
    · have : IntKind.i32.wrap (b.toNat : Int) = b.toNat := by rw [IntKind.wrap_i32]; omega
      omega
  · obtain ⟨h1, h2, h3⟩ := slow_ok (r := r) (Nat.le_of_not_lt h)
    refine ⟨_, _, lim_body (N := 0) S12_knows ?_, h2, h3⟩
    rw [b12, len0, decide_eq_false (p := (b.toNat : Int) < 128) (by omega), decide_eq_true (p := 128 ≤ b.toNat) (by omega)]
    rfl

end Go.Vai
end

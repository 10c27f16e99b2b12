/-
  Show: the program's looks at trees: plain, formula, equation.
  Show: the program's looks at trees: elem, right.
  Show: the reference's looks at trees.
  Show: the printer: what it holds; put.
  Show: put.
  Show: put prints its texts; what else the printer calls.
  Show: the texts of trees; the functions that print, and what they see.
  Show: the printer's functions, called.
-/
import Derived.Test.YtdgdfglbhndjnaaDoorShoPart2

set_option linter.all false
set_option linter.unusedSimpArgs false
set_option linter.unusedVariables false

section
namespace Go.Vai
open Go.Proofs

theorem any_not {l : List (List UInt8)} : (!l.any fun s => !Sp.named s) = l.all Sp.named := by rw [List.not_any_eq_all_not]; simp
theorem ok_inv {k : Int} {nm : List UInt8} {kids : List T} {nms : List (List UInt8)} {pl : Int} (h : (T.mk k nm kids nms pl).ok = true) : shrt nm = true ∧ shrt kids = true ∧ shrt nms = true ∧ nms.all shrt = true ∧ T.oks kids = true := by
  simp only [T.ok, Bool.and_eq_true] at h
  exact ⟨h.1.1.1.1, h.1.1.1.2, h.1.1.2, h.1.2, h.2⟩
theorem depth_inv {k : Int} {nm : List UInt8} {kids : List T} {nms : List (List UInt8)} {pl : Int} {m : Nat} (h : (T.mk k nm kids nms pl).depth ≤ m + 1) : T.depths kids ≤ m := by
  simp only [T.depth] at h; omega
/-- A kid is one that is known. -/
theorem kid_toT {t : T} {l : List T} {m : Nat} (hd : T.depths l ≤ m) (ho : T.oks l = true) (h : t ∈ l) : Sp.toT m t.d = some t :=
  toT_d (Nat.le_trans (depth_mem h) hd) (oks_mem ho h)
theorem kid_toC {t : T} {l : List T} (ho : T.oks l = true) (h : t ∈ l) : Sp.toC t.d = some t := toC_d (oks_mem ho h)
theorem g26 : Nat.beq (cx.P.cellsOf 26) 5 = true := by kernel_rfl

theorem g84 (n : Nat) (l : List (List UInt8)) : evBody cx K2 n 84 [.d (.sl 1 (l.map .str)), .func 85 []] [] = optK (Sp.ns (D.sl 1 (List.map D.str l))) fun b => some (Out.ret (V.d (D.bool (decide ((0 : Int) ≤ Sp.idx (fun s => !Sp.named s) b)))), []) := by kernel_rfl

theorem g61 (n : Nat) (k : Int) (nm : List UInt8) (kids : List T) (nms : List (List UInt8)) (pl a b : Int) (w : Bool) : evBody cx K3 n 61 [.d (.agg [.int .i64 k, .str nm, .sl 5 (T.ds kids), .sl 1 (nms.map .str), .int .i64 pl]), .d (.int .i64 a), .d (.int .i64 b), .d (.bool w)] [] = bif !decide ((↑(T.ds kids).length : Int) = a) then some (Out.ret (V.d (D.bool false)), []) else bif !decide ((↑(List.map D.str nms).length : Int) = b) then some (Out.ret (V.d (D.bool false)), []) else bif !w then bif !decide (nm = []) then some (Out.ret (V.d (D.bool false)), []) else optK (Sp.ns (D.sl 1 (List.map D.str nms))) fun b => some (Out.ret (V.d (D.bool !b.any fun s => !Sp.named s)), []) else optK (Sp.ns (D.sl 1 (List.map D.str nms))) fun b => some (Out.ret (V.d (D.bool !b.any fun s => !Sp.named s)), []) := by kernel_rfl

theorem lim84 (l : List (List UInt8)) (h1 : shrt l = true) (h2 : l.all shrt = true) : evLim cx 84 [.d (.sl 1 (l.map .str)), .func 85 []] [] = some (.ret (mkB (l.any fun s => !Sp.named s)), []) := by
  refine lim_bodyK K2_knows (N := 0) ?_
  rw [g84, ns_of h1 h2, ← idx_any]
  rfl
theorem K3_knows : knows cx K3.S (evLim cx) := pureK_knows K2_knows fun a q b hd h hb => by
  obtain rfl := decDF_some h
  obtain ⟨rfl, h1, h2⟩ := ns_some hb
  exact lim84 b h1 h2

theorem lim61 (t : T) (a b : Int) (w : Bool) (h : t.ok = true) : evLim cx 61 [.d t.d, .d (.int .i64 a), .d (.int .i64 b), .d (.bool w)] [] = some (.ret (mkB (Sp.plain (t, a, b, w))), []) := by
  obtain ⟨k, nm, kids, nms, pl⟩ := t
  obtain ⟨h1, h2, h3, h4, h5⟩ := ok_inv h
  refine lim_bodyK K3_knows (N := 0) ?_
  refine (g61 0 k nm kids nms pl a b w).trans ?_
  rw [ns_of h3 h4, ds_len, List.length_map]
  simp only [optK, any_not, Sp.plain, mkB]
  cases decide ((kids.length : Int) = a) <;> cases decide ((nms.length : Int) = b) <;> cases w <;> cases decide (nm = []) <;> rfl
theorem K4_knows : knows cx K4.S (evLim cx) := pureK_knows K3_knows fun a q b hd h hb => by
  obtain rfl := decPl_some h
  obtain ⟨t, ht, hb⟩ := optK_some hb
  cases hb
  obtain ⟨he, h1⟩ := toC_some ht
  rw [he]
  exact lim61 t _ _ _ h1

theorem g88 (n : Nat) (k : Int) (nm : List UInt8) (kids : List T) (nms : List (List UInt8)) (pl : Int) : evBody cx K4 n 88 [.d (.agg [.int .i64 k, .str nm, .sl 5 (T.ds kids), .sl 1 (nms.map .str), .int .i64 pl])] [] = bif decide (k = (13 : Int)) then bif decide ((↑(T.ds kids).length : Int) = (0 : Int)) then must (decide (nm.length ≤ big)) (bif Sp.named nm then bif decide ((↑(List.map D.str nms).length : Int) = (1 : Int)) then must (decide ((0 : Int) < (↑(List.map D.str nms).length : Int))) (nthD (List.map D.str nms) (0 : Int).toNat fun y => nthD y.cells 0 fun c => match c with
 | D.str s => bif decide (s = [48]) then some (Out.ret (V.d (D.bool true)), []) else must (decide ((0 : Int) < (↑(List.map D.str nms).length : Int))) (nthD (List.map D.str nms) (0 : Int).toNat fun y => nthD y.cells 0 fun c => match c with
  | D.str s => some (Out.ret (V.d (D.bool (decide (s = [49])))), [])
  | x => none)
 | x => none) else some (Out.ret (V.d (D.bool false)), []) else some (Out.ret (V.d (D.bool false)), [])) else some (Out.ret (V.d (D.bool false)), []) else some (Out.ret (V.d (D.bool false)), []) := by kernel_rfl


theorem g62 (n m : Nat) (k : Int) (nm : List UInt8) (kids : List T) (nms : List (List UInt8)) (pl : Int) : evBody cx (pureK 62 decD (Sp.toT m) (fun t => mkB (Sp.form t)) K4) n 62 [.d (.agg [.int .i64 k, .str nm, .sl 5 (T.ds kids), .sl 1 (nms.map .str), .int .i64 pl])] [] = bif decide (k = (1 : Int)) then optK (optK (Sp.toC (D.agg [D.int IntKind.i64 k, D.str nm, D.sl 5 (T.ds kids), D.sl 1 (List.map D.str nms), D.int IntKind.i64 pl], (0 : Int), (0 : Int), true).fst) fun t => some (t, (0 : Int), (0 : Int), true)) fun b => bif Sp.plain b then must (decide (nm.length ≤ big)) (some (Out.ret (V.d (D.bool (Sp.named nm))), [])) else some (Out.ret (V.d (D.bool false)), []) else bif decide (k = (17 : Int)) then optK (optK (Sp.toC (D.agg [D.int IntKind.i64 k, D.str nm, D.sl 5 (T.ds kids), D.sl 1 (List.map D.str nms), D.int IntKind.i64 pl], (0 : Int), (0 : Int), true).fst) fun t => some (t, (0 : Int), (0 : Int), true)) fun b => bif Sp.plain b then bif decide (nm = [48]) then some (Out.ret (V.d (D.bool true)), []) else some (Out.ret (V.d (D.bool (decide (nm = [49])))), []) else some (Out.ret (V.d (D.bool false)), []) else bif decide (k = (16 : Int)) then optK (optK (Sp.toC (D.agg [D.int IntKind.i64 k, D.str nm, D.sl 5 (T.ds kids), D.sl 1 (List.map D.str nms), D.int IntKind.i64 pl], (1 : Int), (0 : Int), false).fst) fun t => some (t, (1 : Int), (0 : Int), false)) fun b => bif Sp.plain b then must (decide ((0 : Int) < (↑(T.ds kids).length : Int))) (nthD (T.ds kids) (0 : Int).toNat fun y => nthD y.cells 0 fun c => nthD y.cells 1 fun c_1 => nthD y.cells 2 fun c_2 => nthD y.cells 3 fun c_3 => nthD y.cells 4 fun c_4 => optK (Sp.toT m (D.agg [c, c_1, c_2, c_3, c_4])) fun b => some (Out.ret (V.d (D.bool (Sp.form b))), [])) else some (Out.ret (V.d (D.bool false)), []) else bif decide (k = (15 : Int)) then bif decide (k = (15 : Int)) then optK (optK (Sp.toC (D.agg [D.int IntKind.i64 k, D.str nm, D.sl 5 (T.ds kids), D.sl 1 (List.map D.str nms), D.int IntKind.i64 pl], (2 : Int), (0 : Int), false).fst) fun t => some (t, (2 : Int), (0 : Int), false)) fun b => bif Sp.plain b then must (decide ((0 : Int) < (↑(T.ds kids).length : Int))) (nthD (T.ds kids) (0 : Int).toNat fun y => nthD y.cells 0 fun c => nthD y.cells 1 fun c_1 => nthD y.cells 2 fun c_2 => nthD y.cells 3 fun c_3 => nthD y.cells 4 fun c_4 => optK (Sp.toT m (D.agg [c, c_1, c_2, c_3, c_4])) fun b => bif Sp.form b then must (decide ((1 : Int) < (↑(T.ds kids).length : Int))) (nthD (T.ds kids) (1 : Int).toNat fun y => nthD y.cells 0 fun c => nthD y.cells 1 fun c_5 => nthD y.cells 2 fun c_6 => nthD y.cells 3 fun c_7 => nthD y.cells 4 fun c_8 => optK (Sp.toT m (D.agg [c, c_5, c_6, c_7, c_8])) fun b => some (Out.ret (V.d (D.bool (Sp.form b))), [])) else some (Out.ret (V.d (D.bool false)), [])) else some (Out.ret (V.d (D.bool false)), []) else some (Out.ret (V.d (D.bool false)), []) else bif decide (k = (14 : Int)) then optK (optK (Sp.toC (D.agg [D.int IntKind.i64 k, D.str nm, D.sl 5 (T.ds kids), D.sl 1 (List.map D.str nms), D.int IntKind.i64 pl], (2 : Int), (0 : Int), false).fst) fun t => some (t, (2 : Int), (0 : Int), false)) fun b => bif Sp.plain b then must (decide ((0 : Int) < (↑(T.ds kids).length : Int))) (nthD (T.ds kids) (0 : Int).toNat fun y => nthD y.cells 0 fun c => nthD y.cells 1 fun c_1 => nthD y.cells 2 fun c_2 => nthD y.cells 3 fun c_3 => nthD y.cells 4 fun c_4 => optK (Sp.toT m (D.agg [c, c_1, c_2, c_3, c_4])) fun b => bif Sp.form b then must (decide ((1 : Int) < (↑(T.ds kids).length : Int))) (nthD (T.ds kids) (1 : Int).toNat fun y => nthD y.cells 0 fun c => nthD y.cells 1 fun c_5 => nthD y.cells 2 fun c_6 => nthD y.cells 3 fun c_7 => nthD y.cells 4 fun c_8 => optK (Sp.toT m (D.agg [c, c_5, c_6, c_7, c_8])) fun b => some (Out.ret (V.d (D.bool (Sp.form b))), [])) else some (Out.ret (V.d (D.bool false)), [])) else some (Out.ret (V.d (D.bool false)), []) else some (Out.ret (V.d (D.bool false)), []) := by kernel_rfl

theorem lenI {α : Type} (l : List α) (n : Nat) : decide ((l.length : Int) = (n : Int)) = decide (l.length = n) := by
  by_cases h : l.length = n
  · rw [decide_eq_true h, decide_eq_true (by omega)]
  · rw [decide_eq_false h, decide_eq_false (by omega)]
theorem lenZ {α : Type} (l : List α) : decide ((l.length : Int) = 0) = decide (l.length = 0) := lenI l 0
theorem lenO {α : Type} (l : List α) : decide ((l.length : Int) = 1) = decide (l.length = 1) := lenI l 1
theorem lenT {α : Type} (l : List α) : decide ((l.length : Int) = 2) = decide (l.length = 2) := lenI l 2
theorem lenP {α : Type} (l : List α) : decide ((0 : Int) < (l.length : Int)) = decide (0 < l.length) := by
  by_cases h : 0 < l.length
  · rw [decide_eq_true h, decide_eq_true (by omega)]
  · rw [decide_eq_false h, decide_eq_false (by omega)]
theorem lenP1 {α : Type} (l : List α) : decide ((1 : Int) < (l.length : Int)) = decide (1 < l.length) := by
  by_cases h : 1 < l.length
  · rw [decide_eq_true h, decide_eq_true (by omega)]
  · rw [decide_eq_false h, decide_eq_false (by omega)]

theorem cond_and {c x : Bool} {σ : St} : (bif c then some (Out.ret (V.d (D.bool x)), σ) else some (Out.ret (V.d (D.bool false)), σ)) = some (Out.ret (V.d (D.bool (c && x))), σ) := by cases c <;> rfl
theorem cond_or {c x : Bool} {σ : St} : (bif c then some (Out.ret (V.d (D.bool true)), σ) else some (Out.ret (V.d (D.bool x)), σ)) = some (Out.ret (V.d (D.bool (c || x))), σ) := by cases c <;> rfl

theorem lim88 (t : T) (h : t.ok = true) : evLim cx 88 [.d t.d] [] = some (.ret (mkB (Sp.eqn t)), []) := by
  obtain ⟨k, nm, kids, nms, pl⟩ := t
  obtain ⟨h1, h2, h3, h4, h5⟩ := ok_inv h
  refine lim_bodyK K4_knows (N := 0) ?_
  refine (g88 0 k nm kids nms pl).trans ?_
  simp only [ds_len, List.length_map, shrt_big h1, lenZ, lenO, lenP, nthD_strs]
  have hk : k = 13 ∨ k ≠ 13 := by omega
  rcases hk with rfl | hk <;> rcases kids with _ | ⟨a, kids⟩ <;> rcases nms with _ | ⟨x, _ | ⟨y, nms⟩⟩ <;> simp [Sp.eqn, mkB, must, optK, Sp.bit, cond_and, cond_or, *]
  show (bif Sp.named nm then (bif decide (x = [48]) then _ else some (Out.ret (V.d (D.bool (decide (x = [49])))), [])) else _) = _
  simp only [cond_or, cond_and]

theorem lim62 : ∀ (m : Nat) (t : T), t.depth ≤ m → t.ok = true → evLim cx 62 [.d t.d] [] = some (.ret (mkB (Sp.form t)), [])
  | 0, .mk .., h, _ => by simp [T.depth] at h
  | m + 1, .mk k nm kids nms pl, hd, ho => by
    have hK : knows cx (pureK 62 decD (Sp.toT m) (fun t => mkB (Sp.form t)) K4).S (evLim cx) := pureK_knows K4_knows fun a q b _ h hb => by
      obtain rfl := decD_some h
      obtain ⟨rfl, h1, h2⟩ := toT_some hb
      exact lim62 m b h1 h2
    obtain ⟨h1, h2, h3, h4, h5⟩ := ok_inv ho
    have hkd := depth_inv hd
    refine lim_bodyK hK (N := 0) ?_
    refine (g62 0 m k nm kids nms pl).trans ?_
    have hC : Sp.toC (D.agg [D.int IntKind.i64 k, D.str nm, D.sl 5 (T.ds kids), D.sl 1 (List.map D.str nms), D.int IntKind.i64 pl]) = some (.mk k nm kids nms pl) := toC_d ho
    have hT : ∀ t ∈ kids, Sp.toT m t.d = some t := fun t h => kid_toT hkd h5 h
    simp only [hC, optK, ds_len, shrt_big h1, must, cond_true, nthD_ds, cells_d, nth0, nth1, nth2, nth3, nth4, agg_d, Sp.plain, lenZ, lenO, lenT, lenP, lenP1]
    clear hC hK ho hd
    have hk : k = 1 ∨ k = 17 ∨ k = 16 ∨ k = 15 ∨ k = 14 ∨ (k ≠ 1 ∧ k ≠ 17 ∧ k ≠ 16 ∧ k ≠ 15 ∧ k ≠ 14) := by omega
    rcases hk with rfl | rfl | rfl | rfl | rfl | ⟨q1, q2, q3, q4, q5⟩ <;> rcases kids with _ | ⟨a, _ | ⟨b, _ | ⟨c, l⟩⟩⟩ <;> rcases nms with _ | ⟨x, nms⟩ <;> simp [Sp.form, mkB, Sp.bit, hT, cond_and, cond_or, Bool.and_assoc, *]
noncomputable def K5 : CK R1 := pureK 62 decD Sp.toC (fun t => mkB (Sp.form t)) (pureK 88 decD Sp.toC (fun t => mkB (Sp.eqn t)) K4)
theorem K5_knows : knows cx K5.S (evLim cx) := by
  have h88 := pureK_knows (f := 88) (dec := decD) (sp := Sp.toC) (mk := fun t => mkB (Sp.eqn t)) K4_knows fun a q b hd h hb => by
    obtain rfl := decD_some h
    obtain ⟨rfl, h1⟩ := toC_some hb
    exact lim88 b h1
  exact pureK_knows h88 fun a q b hd h hb => by
    obtain rfl := decD_some h
    obtain ⟨rfl, h1⟩ := toC_some hb
    exact lim62 b.depth b (Nat.le_refl _) h1
theorem g87 (n : Nat) (t : T) : evBody cx K5 n 87 [.d t.d] [] = optK (Sp.toC t.d) fun b => some (Out.ret (V.d (D.bool !Sp.eqn b)), []) := by
  cases t; kernel_rfl
noncomputable def K6 : CK R1 := pureK 87 decD Sp.toC (fun t => mkB (!Sp.eqn t)) K5
theorem K6_knows : knows cx K6.S (evLim cx) := pureK_knows K5_knows fun a q b hd h hb => by
  obtain rfl := decD_some h
  obtain ⟨rfl, h1⟩ := toC_some hb
  refine lim_bodyK K5_knows (N := 0) ?_
  rw [g87, toC_d h1]
  rfl
end Go.Vai
end

section
namespace Go.Vai
open Go.Proofs

theorem g86 (n : Nat) (l : List T) (S : CK R1) (g : Nat) : evBody cx S n 86 [.d (.sl 5 (T.ds l)), .func g []] [] = LP cx S n 86 0 2 n [(0, V.d (D.sl 5 (T.ds l))), (1, V.func g []), (7, V.d (D.int IntKind.i64 (↑(T.ds l).length : Int))), (8, V.d (D.int IntKind.i64 (0 : Int)))] [] (AK cx S n 86 0 2 (EK cx 86 0)) := by kernel_rfl

theorem l86a (n k : Nat) (l : List T) (i : Int) (f : D → Option T) (p : T → Bool) (S : CK R1) : LP cx (pureK 87 decD f (fun t => mkB (p t)) S) n 86 0 2 (k + 1) [(0, V.d (D.sl 5 (T.ds l))), (1, V.func 87 []), (7, V.d (D.int IntKind.i64 (l.length : Int))), (8, V.d (D.int IntKind.i64 i))] [] (AK cx (pureK 87 decD f (fun t => mkB (p t)) S) n 86 0 2 (EK cx 86 0)) = bif decide (i < (↑l.length : Int)) then must (decide (0 ≤ i) && decide (i < (↑(T.ds l).length : Int))) (nthD (T.ds l) i.toNat fun y => nthD y.cells 0 fun c => nthD y.cells 1 fun c_1 => nthD y.cells 2 fun c_2 => nthD y.cells 3 fun c_3 => nthD y.cells 4 fun c_4 => optK (f (D.agg [c, c_1, c_2, c_3, c_4])) fun b => bif p b then some (Out.ret (V.d (D.int IntKind.i64 i)), []) else LP cx (pureK 87 decD f (fun t => mkB (p t)) S) n 86 0 2 k [(0, V.d (D.sl 5 (T.ds l))), (1, V.func 87 []), (7, V.d (D.int IntKind.i64 (↑l.length : Int))), (8, V.d (D.int IntKind.i64 (IntKind.i64.wrap (i + (1 : Int)))))] [] (AK cx (pureK 87 decD f (fun t => mkB (p t)) S) n 86 0 2 (EK cx 86 0))) else some (Out.ret (V.d (D.int IntKind.i64 (Int.negSucc 0))), []) := by kernel_rfl

theorem l86b (n k : Nat) (l : List T) (i : Int) (f : D → Option T) (p : T → Bool) (S : CK R1) : LP cx (pureK 64 decD f (fun t => mkB (p t)) S) n 86 0 2 (k + 1) [(0, V.d (D.sl 5 (T.ds l))), (1, V.func 64 []), (7, V.d (D.int IntKind.i64 (l.length : Int))), (8, V.d (D.int IntKind.i64 i))] [] (AK cx (pureK 64 decD f (fun t => mkB (p t)) S) n 86 0 2 (EK cx 86 0)) = bif decide (i < (↑l.length : Int)) then must (decide (0 ≤ i) && decide (i < (↑(T.ds l).length : Int))) (nthD (T.ds l) i.toNat fun y => nthD y.cells 0 fun c => nthD y.cells 1 fun c_1 => nthD y.cells 2 fun c_2 => nthD y.cells 3 fun c_3 => nthD y.cells 4 fun c_4 => optK (f (D.agg [c, c_1, c_2, c_3, c_4])) fun b => bif p b then some (Out.ret (V.d (D.int IntKind.i64 i)), []) else LP cx (pureK 64 decD f (fun t => mkB (p t)) S) n 86 0 2 k [(0, V.d (D.sl 5 (T.ds l))), (1, V.func 64 []), (7, V.d (D.int IntKind.i64 (↑l.length : Int))), (8, V.d (D.int IntKind.i64 (IntKind.i64.wrap (i + (1 : Int)))))] [] (AK cx (pureK 64 decD f (fun t => mkB (p t)) S) n 86 0 2 (EK cx 86 0))) else some (Out.ret (V.d (D.int IntKind.i64 (Int.negSucc 0))), []) := by kernel_rfl

theorem g63a (n : Nat) (l : List D) (f : D → Option (List T)) (p : T → Bool) (S : CK R1) : evBody cx (pureK 86 (decDF 87) f (fun t => mkI (Sp.idx p t)) S) n 63 [.d (.sl 5 l), .func 87 []] [] = optK (f (D.sl 5 l)) fun b => some (Out.ret (V.d (D.bool (decide ((0 : Int) ≤ Sp.idx p b)))), []) := by kernel_rfl

theorem g63b (n : Nat) (l : List D) (f : D → Option (List T)) (p : T → Bool) (S : CK R1) : evBody cx (pureK 86 (decDF 64) f (fun t => mkI (Sp.idx p t)) S) n 63 [.d (.sl 5 l), .func 64 []] [] = optK (f (D.sl 5 l)) fun b => some (Out.ret (V.d (D.bool (decide ((0 : Int) ≤ Sp.idx p b)))), []) := by kernel_rfl

theorem lim86a {f : D → Option T} {p : T → Bool} {S : CK R1} (hK : knows cx (pureK 87 decD f (fun t => mkB (p t)) S).S (evLim cx)) (l : List T) (hl : shrt l = true) (hf : ∀ t ∈ l, f t.d = some t) :
    evLim cx 86 [.d (.sl 5 (T.ds l)), .func 87 []] [] = some (.ret (mkI (Sp.idx p l)), []) := by
  refine lim_bodyK hK (N := l.length + 1) ?_
  rw [g86]
  have h := find_loop (fun k i => LP cx (pureK 87 decD f (fun t => mkB (p t)) S) (l.length + 1) 86 0 2 k [(0, V.d (D.sl 5 (T.ds l))), (1, V.func 87 []), (7, V.d (D.int IntKind.i64 (l.length : Int))), (8, V.d (D.int IntKind.i64 i))] [] (AK cx (pureK 87 decD f (fun t => mkB (p t)) S) (l.length + 1) 86 0 2 (EK cx 86 0)))
    l p (fun j => some (Out.ret (V.d (D.int IntKind.i64 j)), [])) (some (Out.ret (V.d (D.int IntKind.i64 (Int.negSucc 0))), [])) (shrt_lt hl)
    (fun k j x hj hx => by
      rw [l86a, ds_len, lt_nat hj, nn_nat, nthD_ds, Int.toNat_natCast, hx]
      simp only [cond_true, must, optK, Bool.and_self, cells_d, nth0, nth1, nth2, nth3, nth4, agg_d, hf x (List.mem_of_getElem? hx)]) (fun k => by rw [l86a, ge_nat, cond_false]) l 0 (l.length + 1) rfl (Nat.zero_le _) (by omega)
  rw [ds_len]
  refine h.trans ?_
  unfold Sp.idx
  cases Sp.findN p l 0 <;> rfl
theorem lim86b {f : D → Option T} {p : T → Bool} {S : CK R1} (hK : knows cx (pureK 64 decD f (fun t => mkB (p t)) S).S (evLim cx)) (l : List T) (hl : shrt l = true) (hf : ∀ t ∈ l, f t.d = some t) :
    evLim cx 86 [.d (.sl 5 (T.ds l)), .func 64 []] [] = some (.ret (mkI (Sp.idx p l)), []) := by
  refine lim_bodyK hK (N := l.length + 1) ?_
  rw [g86]
  have h := find_loop (fun k i => LP cx (pureK 64 decD f (fun t => mkB (p t)) S) (l.length + 1) 86 0 2 k [(0, V.d (D.sl 5 (T.ds l))), (1, V.func 64 []), (7, V.d (D.int IntKind.i64 (l.length : Int))), (8, V.d (D.int IntKind.i64 i))] [] (AK cx (pureK 64 decD f (fun t => mkB (p t)) S) (l.length + 1) 86 0 2 (EK cx 86 0)))
    l p (fun j => some (Out.ret (V.d (D.int IntKind.i64 j)), [])) (some (Out.ret (V.d (D.int IntKind.i64 (Int.negSucc 0))), [])) (shrt_lt hl)
    (fun k j x hj hx => by
      rw [l86b, ds_len, lt_nat hj, nn_nat, nthD_ds, Int.toNat_natCast, hx]
      simp only [cond_true, must, optK, Bool.and_self, cells_d, nth0, nth1, nth2, nth3, nth4, agg_d, hf x (List.mem_of_getElem? hx)]) (fun k => by rw [l86b, ge_nat, cond_false]) l 0 (l.length + 1) rfl (Nat.zero_le _) (by omega)
  rw [ds_len]
  refine h.trans ?_
  unfold Sp.idx
  cases Sp.findN p l 0 <;> rfl
theorem lim63a {f : D → Option T} (hf0 : ∀ x t, f x = some t → x = t.d) {p : T → Bool} {S : CK R1} (hS : knows cx S.S (evLim cx)) (hK : knows cx (pureK 87 decD f (fun t => mkB (p t)) S).S (evLim cx)) (l : List T) (hl : shrt l = true) (hf : ∀ t ∈ l, f t.d = some t) :
    evLim cx 63 [.d (.sl 5 (T.ds l)), .func 87 []] [] = some (.ret (mkB (l.any p)), []) := by
  have h86 : knows cx (pureK 86 (decDF 87) (Sp.ts f) (fun t => mkI (Sp.idx p t)) S).S (evLim cx) := pureK_knows hS fun a q b hd h hb => by
    obtain rfl := decDF_some h
    obtain ⟨l, rfl, h1, h2⟩ := ts_some hb
    obtain ⟨rfl, h3⟩ := toL_ds hf0 h1
    exact lim86a hK b h2 h3
  refine lim_bodyK h86 (N := 0) ?_
  rw [g63a, ts_of hf hl, ← idx_any]
  rfl
theorem lim63b {f : D → Option T} (hf0 : ∀ x t, f x = some t → x = t.d) {p : T → Bool} {S : CK R1} (hS : knows cx S.S (evLim cx)) (hK : knows cx (pureK 64 decD f (fun t => mkB (p t)) S).S (evLim cx)) (l : List T) (hl : shrt l = true) (hf : ∀ t ∈ l, f t.d = some t) :
    evLim cx 63 [.d (.sl 5 (T.ds l)), .func 64 []] [] = some (.ret (mkB (l.any p)), []) := by
  have h86 : knows cx (pureK 86 (decDF 64) (Sp.ts f) (fun t => mkI (Sp.idx p t)) S).S (evLim cx) := pureK_knows hS fun a q b hd h hb => by
    obtain rfl := decDF_some h
    obtain ⟨l, rfl, h1, h2⟩ := ts_some hb
    obtain ⟨rfl, h3⟩ := toL_ds hf0 h1
    exact lim86b hK b h2 h3
  refine lim_bodyK h86 (N := 0) ?_
  rw [g63b, ts_of hf hl, ← idx_any]
  rfl

theorem g65 (n m : Nat) (k : Int) (nm : List UInt8) (kids : List T) (nms : List (List UInt8)) (pl : Int) (S : CK R1) : evBody cx (pureK 63 (decDF 87) (Sp.ts Sp.toC) (fun l => mkB (l.any (fun t => !Sp.eqn t))) (pureK 37 decD (Sp.toT m) (fun t => mkB (Sp.right t)) S)) n 65 [.d (.agg [.int .i64 k, .str nm, .sl 5 (T.ds kids), .sl 1 (nms.map .str), .int .i64 pl])] [] = bif !decide (k = (11 : Int)) then some (Out.ret (V.d (D.bool false)), []) else bif decide ((↑(T.ds kids).length : Int) < (1 : Int)) then some (Out.ret (V.d (D.bool false)), []) else bif decide ((2 : Int) < (↑(T.ds kids).length : Int)) then some (Out.ret (V.d (D.bool false)), []) else bif decide ((0 : Int) < (↑(List.map D.str nms).length : Int)) then some (Out.ret (V.d (D.bool false)), []) else bif !decide (nm = []) then some (Out.ret (V.d (D.bool false)), []) else must (decide ((0 : Int) < (↑(T.ds kids).length : Int))) (nthD (T.ds kids) (0 : Int).toNat fun y => nthD y.cells 0 fun c => nthD y.cells 1 fun c_1 => nthD y.cells 2 fun c_2 => nthD y.cells 3 fun c_3 => nthD y.cells 4 fun c_4 => match c with
 | D.int k' n => bif decide (k' = IntKind.i64) then bif !decide (n = (12 : Int)) then some (Out.ret (V.d (D.bool false)), []) else match c_3 with
  | D.sl s l => bif s.beq (cx.P.cellsOf 9) || l.isEmpty then bif decide ((0 : Int) < (↑l.length : Int)) then some (Out.ret (V.d (D.bool false)), []) else match c_1 with
   | D.str s => bif !decide (s = []) then some (Out.ret (V.d (D.bool false)), []) else match c_2 with
    | D.sl s l => bif s.beq (cx.P.cellsOf 26) || l.isEmpty then optK (Sp.ts Sp.toC (D.sl 5 l)) fun b => bif b.any fun t => !Sp.eqn t then some (Out.ret (V.d (D.bool false)), []) else bif decide ((↑(T.ds kids).length : Int) = (1 : Int)) then some (Out.ret (V.d (D.bool true)), []) else must (decide ((1 : Int) < (↑(T.ds kids).length : Int))) (nthD (T.ds kids) (1 : Int).toNat fun y => nthD y.cells 0 fun c => nthD y.cells 1 fun c_5 => nthD y.cells 2 fun c_6 => nthD y.cells 3 fun c_7 => nthD y.cells 4 fun c_8 => optK (Sp.toT m (D.agg [c, c_5, c_6, c_7, c_8])) fun b => some (Out.ret (V.d (D.bool (Sp.right b))), [])) else none
    | x => none
   | x => none else none
  | x => none else none
 | x => none) := by kernel_rfl

theorem g64 (n : Nat) (k : Int) (nm : List UInt8) (kids : List T) (nms : List (List UInt8)) (pl : Int) (f : D → Option T) (S : CK R1) : evBody cx (pureK 65 decD f (fun t => mkB (Sp.elem t)) S) n 64 [.d (.agg [.int .i64 k, .str nm, .sl 5 (T.ds kids), .sl 1 (nms.map .str), .int .i64 pl])] [] = optK (f (D.agg [D.int IntKind.i64 k, D.str nm, D.sl 5 (T.ds kids), D.sl 1 (List.map D.str nms), D.int IntKind.i64 pl])) fun b => some (Out.ret (V.d (D.bool !Sp.elem b)), []) := by kernel_rfl

theorem g37 (n m : Nat) (k : Int) (nm : List UInt8) (kids : List T) (nms : List (List UInt8)) (pl : Int) : evBody cx (pureK 63 (decDF 64) (Sp.ts (Sp.toT m)) (fun l => mkB (l.any (fun t => !Sp.elem t))) (pureK 37 decD (Sp.toT m) (fun t => mkB (Sp.right t)) K5)) n 37 [.d (.agg [.int .i64 k, .str nm, .sl 5 (T.ds kids), .sl 1 (nms.map .str), .int .i64 pl])] [] = bif decide (k = (1 : Int)) then optK (optK (Sp.toC (D.agg [D.int IntKind.i64 k, D.str nm, D.sl 5 (T.ds kids), D.sl 1 (List.map D.str nms), D.int IntKind.i64 pl], (0 : Int), (0 : Int), true).fst) fun t => some (t, (0 : Int), (0 : Int), true)) fun b => bif Sp.plain b then must (decide (nm.length ≤ big)) (some (Out.ret (V.d (D.bool (Sp.named nm))), [])) else some (Out.ret (V.d (D.bool false)), []) else bif decide (k = (2 : Int)) then bif decide (k = (2 : Int)) then bif decide ((0 : Int) < (↑(List.map D.str nms).length : Int)) then optK (optK (Sp.toC (D.agg [D.int IntKind.i64 k, D.str nm, D.sl 5 (T.ds kids), D.sl 1 (List.map D.str nms), D.int IntKind.i64 pl], (1 : Int), (↑(List.map D.str nms).length : Int), false).fst) fun t => some (t, (1 : Int), (↑(List.map D.str nms).length : Int), false)) fun b => bif Sp.plain b then must (decide ((0 : Int) < (↑(T.ds kids).length : Int))) (nthD (T.ds kids) (0 : Int).toNat fun y => nthD y.cells 0 fun c => nthD y.cells 1 fun c_1 => nthD y.cells 2 fun c_2 => nthD y.cells 3 fun c_3 => nthD y.cells 4 fun c_4 => optK (Sp.toT m (D.agg [c, c_1, c_2, c_3, c_4])) fun b => some (Out.ret (V.d (D.bool (Sp.right b))), [])) else some (Out.ret (V.d (D.bool false)), []) else some (Out.ret (V.d (D.bool false)), []) else bif decide (k = (4 : Int)) then bif decide (k = (4 : Int)) then bif decide ((↑(List.map D.str nms).length : Int) < (2 : Int)) then optK (optK (Sp.toC (D.agg [D.int IntKind.i64 k, D.str nm, D.sl 5 (T.ds kids), D.sl 1 (List.map D.str nms), D.int IntKind.i64 pl], (2 : Int), (↑(List.map D.str nms).length : Int), false).fst) fun t => some (t, (2 : Int), (↑(List.map D.str nms).length : Int), false)) fun b => bif Sp.plain b then must (decide ((0 : Int) < (↑(T.ds kids).length : Int))) (nthD (T.ds kids) (0 : Int).toNat fun y => nthD y.cells 0 fun c => nthD y.cells 1 fun c_1 => nthD y.cells 2 fun c_2 => nthD y.cells 3 fun c_3 => nthD y.cells 4 fun c_4 => optK (Sp.toT m (D.agg [c, c_1, c_2, c_3, c_4])) fun b => bif Sp.right b then must (decide ((1 : Int) < (↑(T.ds kids).length : Int))) (nthD (T.ds kids) (1 : Int).toNat fun y => nthD y.cells 0 fun c => nthD y.cells 1 fun c_5 => nthD y.cells 2 fun c_6 => nthD y.cells 3 fun c_7 => nthD y.cells 4 fun c_8 => optK (Sp.toT m (D.agg [c, c_5, c_6, c_7, c_8])) fun b => some (Out.ret (V.d (D.bool (Sp.right b))), [])) else some (Out.ret (V.d (D.bool false)), [])) else some (Out.ret (V.d (D.bool false)), []) else some (Out.ret (V.d (D.bool false)), []) else bif decide (k = (6 : Int)) then bif decide (k = (6 : Int)) then optK (optK (Sp.toC (D.agg [D.int IntKind.i64 k, D.str nm, D.sl 5 (T.ds kids), D.sl 1 (List.map D.str nms), D.int IntKind.i64 pl], (2 : Int), (0 : Int), false).fst) fun t => some (t, (2 : Int), (0 : Int), false)) fun b => bif Sp.plain b then must (decide ((0 : Int) < (↑(T.ds kids).length : Int))) (nthD (T.ds kids) (0 : Int).toNat fun y => nthD y.cells 0 fun c => nthD y.cells 1 fun c_1 => nthD y.cells 2 fun c_2 => nthD y.cells 3 fun c_3 => nthD y.cells 4 fun c_4 => optK (Sp.toT m (D.agg [c, c_1, c_2, c_3, c_4])) fun b => bif Sp.right b then must (decide ((1 : Int) < (↑(T.ds kids).length : Int))) (nthD (T.ds kids) (1 : Int).toNat fun y => nthD y.cells 0 fun c => nthD y.cells 1 fun c_5 => nthD y.cells 2 fun c_6 => nthD y.cells 3 fun c_7 => nthD y.cells 4 fun c_8 => optK (Sp.toT m (D.agg [c, c_5, c_6, c_7, c_8])) fun b => some (Out.ret (V.d (D.bool (Sp.right b))), [])) else some (Out.ret (V.d (D.bool false)), [])) else some (Out.ret (V.d (D.bool false)), []) else bif decide (k = (7 : Int)) then optK (optK (Sp.toC (D.agg [D.int IntKind.i64 k, D.str nm, D.sl 5 (T.ds kids), D.sl 1 (List.map D.str nms), D.int IntKind.i64 pl], (2 : Int), (0 : Int), false).fst) fun t => some (t, (2 : Int), (0 : Int), false)) fun b => bif Sp.plain b then must (decide ((0 : Int) < (↑(T.ds kids).length : Int))) (nthD (T.ds kids) (0 : Int).toNat fun y => nthD y.cells 0 fun c => nthD y.cells 1 fun c_1 => nthD y.cells 2 fun c_2 => nthD y.cells 3 fun c_3 => nthD y.cells 4 fun c_4 => optK (Sp.toT m (D.agg [c, c_1, c_2, c_3, c_4])) fun b => bif Sp.right b then must (decide ((1 : Int) < (↑(T.ds kids).length : Int))) (nthD (T.ds kids) (1 : Int).toNat fun y => nthD y.cells 0 fun c => nthD y.cells 1 fun c_5 => nthD y.cells 2 fun c_6 => nthD y.cells 3 fun c_7 => nthD y.cells 4 fun c_8 => optK (Sp.toC (D.agg [c, c_5, c_6, c_7, c_8])) fun b => some (Out.ret (V.d (D.bool (Sp.form b))), [])) else some (Out.ret (V.d (D.bool false)), [])) else some (Out.ret (V.d (D.bool false)), []) else bif decide (k = (10 : Int)) then bif decide ((↑(List.map D.str nms).length : Int) = (0 : Int)) then bif decide (nm = []) then optK (Sp.ts (Sp.toT m) (D.sl 5 (T.ds kids))) fun b => some (Out.ret (V.d (D.bool !b.any fun t => !Sp.elem t)), []) else some (Out.ret (V.d (D.bool false)), []) else some (Out.ret (V.d (D.bool false)), []) else some (Out.ret (V.d (D.bool false)), []) else bif decide (k = (8 : Int)) then bif decide (k = (8 : Int)) then optK (optK (Sp.toC (D.agg [D.int IntKind.i64 k, D.str nm, D.sl 5 (T.ds kids), D.sl 1 (List.map D.str nms), D.int IntKind.i64 pl], (2 : Int), (0 : Int), false).fst) fun t => some (t, (2 : Int), (0 : Int), false)) fun b => bif Sp.plain b then must (decide ((0 : Int) < (↑(T.ds kids).length : Int))) (nthD (T.ds kids) (0 : Int).toNat fun y => nthD y.cells 0 fun c => nthD y.cells 1 fun c_1 => nthD y.cells 2 fun c_2 => nthD y.cells 3 fun c_3 => nthD y.cells 4 fun c_4 => optK (Sp.toT m (D.agg [c, c_1, c_2, c_3, c_4])) fun b => bif Sp.right b then must (decide ((1 : Int) < (↑(T.ds kids).length : Int))) (nthD (T.ds kids) (1 : Int).toNat fun y => nthD y.cells 0 fun c => nthD y.cells 1 fun c_5 => nthD y.cells 2 fun c_6 => nthD y.cells 3 fun c_7 => nthD y.cells 4 fun c_8 => optK (Sp.toT m (D.agg [c, c_5, c_6, c_7, c_8])) fun b => some (Out.ret (V.d (D.bool (Sp.right b))), [])) else some (Out.ret (V.d (D.bool false)), [])) else some (Out.ret (V.d (D.bool false)), []) else bif decide (k = (7 : Int)) then optK (optK (Sp.toC (D.agg [D.int IntKind.i64 k, D.str nm, D.sl 5 (T.ds kids), D.sl 1 (List.map D.str nms), D.int IntKind.i64 pl], (2 : Int), (0 : Int), false).fst) fun t => some (t, (2 : Int), (0 : Int), false)) fun b => bif Sp.plain b then must (decide ((0 : Int) < (↑(T.ds kids).length : Int))) (nthD (T.ds kids) (0 : Int).toNat fun y => nthD y.cells 0 fun c => nthD y.cells 1 fun c_1 => nthD y.cells 2 fun c_2 => nthD y.cells 3 fun c_3 => nthD y.cells 4 fun c_4 => optK (Sp.toT m (D.agg [c, c_1, c_2, c_3, c_4])) fun b => bif Sp.right b then must (decide ((1 : Int) < (↑(T.ds kids).length : Int))) (nthD (T.ds kids) (1 : Int).toNat fun y => nthD y.cells 0 fun c => nthD y.cells 1 fun c_5 => nthD y.cells 2 fun c_6 => nthD y.cells 3 fun c_7 => nthD y.cells 4 fun c_8 => optK (Sp.toC (D.agg [c, c_5, c_6, c_7, c_8])) fun b => some (Out.ret (V.d (D.bool (Sp.form b))), [])) else some (Out.ret (V.d (D.bool false)), [])) else some (Out.ret (V.d (D.bool false)), []) else bif decide (k = (10 : Int)) then bif decide ((↑(List.map D.str nms).length : Int) = (0 : Int)) then bif decide (nm = []) then optK (Sp.ts (Sp.toT m) (D.sl 5 (T.ds kids))) fun b => some (Out.ret (V.d (D.bool !b.any fun t => !Sp.elem t)), []) else some (Out.ret (V.d (D.bool false)), []) else some (Out.ret (V.d (D.bool false)), []) else some (Out.ret (V.d (D.bool false)), []) else bif decide (k = (9 : Int)) then optK (optK (Sp.toC (D.agg [D.int IntKind.i64 k, D.str nm, D.sl 5 (T.ds kids), D.sl 1 (List.map D.str nms), D.int IntKind.i64 pl], (2 : Int), (0 : Int), false).fst) fun t => some (t, (2 : Int), (0 : Int), false)) fun b => bif Sp.plain b then must (decide ((0 : Int) < (↑(T.ds kids).length : Int))) (nthD (T.ds kids) (0 : Int).toNat fun y => nthD y.cells 0 fun c => nthD y.cells 1 fun c_1 => nthD y.cells 2 fun c_2 => nthD y.cells 3 fun c_3 => nthD y.cells 4 fun c_4 => optK (Sp.toT m (D.agg [c, c_1, c_2, c_3, c_4])) fun b => bif Sp.right b then must (decide ((1 : Int) < (↑(T.ds kids).length : Int))) (nthD (T.ds kids) (1 : Int).toNat fun y => nthD y.cells 0 fun c => nthD y.cells 1 fun c_5 => nthD y.cells 2 fun c_6 => nthD y.cells 3 fun c_7 => nthD y.cells 4 fun c_8 => optK (Sp.toT m (D.agg [c, c_5, c_6, c_7, c_8])) fun b => some (Out.ret (V.d (D.bool (Sp.right b))), [])) else some (Out.ret (V.d (D.bool false)), [])) else some (Out.ret (V.d (D.bool false)), []) else bif decide (k = (7 : Int)) then optK (optK (Sp.toC (D.agg [D.int IntKind.i64 k, D.str nm, D.sl 5 (T.ds kids), D.sl 1 (List.map D.str nms), D.int IntKind.i64 pl], (2 : Int), (0 : Int), false).fst) fun t => some (t, (2 : Int), (0 : Int), false)) fun b => bif Sp.plain b then must (decide ((0 : Int) < (↑(T.ds kids).length : Int))) (nthD (T.ds kids) (0 : Int).toNat fun y => nthD y.cells 0 fun c => nthD y.cells 1 fun c_1 => nthD y.cells 2 fun c_2 => nthD y.cells 3 fun c_3 => nthD y.cells 4 fun c_4 => optK (Sp.toT m (D.agg [c, c_1, c_2, c_3, c_4])) fun b => bif Sp.right b then must (decide ((1 : Int) < (↑(T.ds kids).length : Int))) (nthD (T.ds kids) (1 : Int).toNat fun y => nthD y.cells 0 fun c => nthD y.cells 1 fun c_5 => nthD y.cells 2 fun c_6 => nthD y.cells 3 fun c_7 => nthD y.cells 4 fun c_8 => optK (Sp.toC (D.agg [c, c_5, c_6, c_7, c_8])) fun b => some (Out.ret (V.d (D.bool (Sp.form b))), [])) else some (Out.ret (V.d (D.bool false)), [])) else some (Out.ret (V.d (D.bool false)), []) else bif decide (k = (10 : Int)) then bif decide ((↑(List.map D.str nms).length : Int) = (0 : Int)) then bif decide (nm = []) then optK (Sp.ts (Sp.toT m) (D.sl 5 (T.ds kids))) fun b => some (Out.ret (V.d (D.bool !b.any fun t => !Sp.elem t)), []) else some (Out.ret (V.d (D.bool false)), []) else some (Out.ret (V.d (D.bool false)), []) else some (Out.ret (V.d (D.bool false)), []) else bif decide (k = (5 : Int)) then bif decide ((↑(List.map D.str nms).length : Int) < (2 : Int)) then optK (optK (Sp.toC (D.agg [D.int IntKind.i64 k, D.str nm, D.sl 5 (T.ds kids), D.sl 1 (List.map D.str nms), D.int IntKind.i64 pl], (2 : Int), (↑(List.map D.str nms).length : Int), false).fst) fun t => some (t, (2 : Int), (↑(List.map D.str nms).length : Int), false)) fun b => bif Sp.plain b then must (decide ((0 : Int) < (↑(T.ds kids).length : Int))) (nthD (T.ds kids) (0 : Int).toNat fun y => nthD y.cells 0 fun c => nthD y.cells 1 fun c_1 => nthD y.cells 2 fun c_2 => nthD y.cells 3 fun c_3 => nthD y.cells 4 fun c_4 => optK (Sp.toT m (D.agg [c, c_1, c_2, c_3, c_4])) fun b => bif Sp.right b then must (decide ((1 : Int) < (↑(T.ds kids).length : Int))) (nthD (T.ds kids) (1 : Int).toNat fun y => nthD y.cells 0 fun c => nthD y.cells 1 fun c_5 => nthD y.cells 2 fun c_6 => nthD y.cells 3 fun c_7 => nthD y.cells 4 fun c_8 => optK (Sp.toT m (D.agg [c, c_5, c_6, c_7, c_8])) fun b => some (Out.ret (V.d (D.bool (Sp.right b))), [])) else some (Out.ret (V.d (D.bool false)), [])) else some (Out.ret (V.d (D.bool false)), []) else some (Out.ret (V.d (D.bool false)), []) else bif decide (k = (6 : Int)) then bif decide (k = (6 : Int)) then optK (optK (Sp.toC (D.agg [D.int IntKind.i64 k, D.str nm, D.sl 5 (T.ds kids), D.sl 1 (List.map D.str nms), D.int IntKind.i64 pl], (2 : Int), (0 : Int), false).fst) fun t => some (t, (2 : Int), (0 : Int), false)) fun b => bif Sp.plain b then must (decide ((0 : Int) < (↑(T.ds kids).length : Int))) (nthD (T.ds kids) (0 : Int).toNat fun y => nthD y.cells 0 fun c => nthD y.cells 1 fun c_1 => nthD y.cells 2 fun c_2 => nthD y.cells 3 fun c_3 => nthD y.cells 4 fun c_4 => optK (Sp.toT m (D.agg [c, c_1, c_2, c_3, c_4])) fun b => bif Sp.right b then must (decide ((1 : Int) < (↑(T.ds kids).length : Int))) (nthD (T.ds kids) (1 : Int).toNat fun y => nthD y.cells 0 fun c => nthD y.cells 1 fun c_5 => nthD y.cells 2 fun c_6 => nthD y.cells 3 fun c_7 => nthD y.cells 4 fun c_8 => optK (Sp.toT m (D.agg [c, c_5, c_6, c_7, c_8])) fun b => some (Out.ret (V.d (D.bool (Sp.right b))), [])) else some (Out.ret (V.d (D.bool false)), [])) else some (Out.ret (V.d (D.bool false)), []) else bif decide (k = (7 : Int)) then optK (optK (Sp.toC (D.agg [D.int IntKind.i64 k, D.str nm, D.sl 5 (T.ds kids), D.sl 1 (List.map D.str nms), D.int IntKind.i64 pl], (2 : Int), (0 : Int), false).fst) fun t => some (t, (2 : Int), (0 : Int), false)) fun b => bif Sp.plain b then must (decide ((0 : Int) < (↑(T.ds kids).length : Int))) (nthD (T.ds kids) (0 : Int).toNat fun y => nthD y.cells 0 fun c => nthD y.cells 1 fun c_1 => nthD y.cells 2 fun c_2 => nthD y.cells 3 fun c_3 => nthD y.cells 4 fun c_4 => optK (Sp.toT m (D.agg [c, c_1, c_2, c_3, c_4])) fun b => bif Sp.right b then must (decide ((1 : Int) < (↑(T.ds kids).length : Int))) (nthD (T.ds kids) (1 : Int).toNat fun y => nthD y.cells 0 fun c => nthD y.cells 1 fun c_5 => nthD y.cells 2 fun c_6 => nthD y.cells 3 fun c_7 => nthD y.cells 4 fun c_8 => optK (Sp.toC (D.agg [c, c_5, c_6, c_7, c_8])) fun b => some (Out.ret (V.d (D.bool (Sp.form b))), [])) else some (Out.ret (V.d (D.bool false)), [])) else some (Out.ret (V.d (D.bool false)), []) else bif decide (k = (10 : Int)) then bif decide ((↑(List.map D.str nms).length : Int) = (0 : Int)) then bif decide (nm = []) then optK (Sp.ts (Sp.toT m) (D.sl 5 (T.ds kids))) fun b => some (Out.ret (V.d (D.bool !b.any fun t => !Sp.elem t)), []) else some (Out.ret (V.d (D.bool false)), []) else some (Out.ret (V.d (D.bool false)), []) else some (Out.ret (V.d (D.bool false)), []) else bif decide (k = (8 : Int)) then bif decide (k = (8 : Int)) then optK (optK (Sp.toC (D.agg [D.int IntKind.i64 k, D.str nm, D.sl 5 (T.ds kids), D.sl 1 (List.map D.str nms), D.int IntKind.i64 pl], (2 : Int), (0 : Int), false).fst) fun t => some (t, (2 : Int), (0 : Int), false)) fun b => bif Sp.plain b then must (decide ((0 : Int) < (↑(T.ds kids).length : Int))) (nthD (T.ds kids) (0 : Int).toNat fun y => nthD y.cells 0 fun c => nthD y.cells 1 fun c_1 => nthD y.cells 2 fun c_2 => nthD y.cells 3 fun c_3 => nthD y.cells 4 fun c_4 => optK (Sp.toT m (D.agg [c, c_1, c_2, c_3, c_4])) fun b => bif Sp.right b then must (decide ((1 : Int) < (↑(T.ds kids).length : Int))) (nthD (T.ds kids) (1 : Int).toNat fun y => nthD y.cells 0 fun c => nthD y.cells 1 fun c_5 => nthD y.cells 2 fun c_6 => nthD y.cells 3 fun c_7 => nthD y.cells 4 fun c_8 => optK (Sp.toT m (D.agg [c, c_5, c_6, c_7, c_8])) fun b => some (Out.ret (V.d (D.bool (Sp.right b))), [])) else some (Out.ret (V.d (D.bool false)), [])) else some (Out.ret (V.d (D.bool false)), []) else bif decide (k = (7 : Int)) then optK (optK (Sp.toC (D.agg [D.int IntKind.i64 k, D.str nm, D.sl 5 (T.ds kids), D.sl 1 (List.map D.str nms), D.int IntKind.i64 pl], (2 : Int), (0 : Int), false).fst) fun t => some (t, (2 : Int), (0 : Int), false)) fun b => bif Sp.plain b then must (decide ((0 : Int) < (↑(T.ds kids).length : Int))) (nthD (T.ds kids) (0 : Int).toNat fun y => nthD y.cells 0 fun c => nthD y.cells 1 fun c_1 => nthD y.cells 2 fun c_2 => nthD y.cells 3 fun c_3 => nthD y.cells 4 fun c_4 => optK (Sp.toT m (D.agg [c, c_1, c_2, c_3, c_4])) fun b => bif Sp.right b then must (decide ((1 : Int) < (↑(T.ds kids).length : Int))) (nthD (T.ds kids) (1 : Int).toNat fun y => nthD y.cells 0 fun c => nthD y.cells 1 fun c_5 => nthD y.cells 2 fun c_6 => nthD y.cells 3 fun c_7 => nthD y.cells 4 fun c_8 => optK (Sp.toC (D.agg [c, c_5, c_6, c_7, c_8])) fun b => some (Out.ret (V.d (D.bool (Sp.form b))), [])) else some (Out.ret (V.d (D.bool false)), [])) else some (Out.ret (V.d (D.bool false)), []) else bif decide (k = (10 : Int)) then bif decide ((↑(List.map D.str nms).length : Int) = (0 : Int)) then bif decide (nm = []) then optK (Sp.ts (Sp.toT m) (D.sl 5 (T.ds kids))) fun b => some (Out.ret (V.d (D.bool !b.any fun t => !Sp.elem t)), []) else some (Out.ret (V.d (D.bool false)), []) else some (Out.ret (V.d (D.bool false)), []) else some (Out.ret (V.d (D.bool false)), []) else bif decide (k = (9 : Int)) then optK (optK (Sp.toC (D.agg [D.int IntKind.i64 k, D.str nm, D.sl 5 (T.ds kids), D.sl 1 (List.map D.str nms), D.int IntKind.i64 pl], (2 : Int), (0 : Int), false).fst) fun t => some (t, (2 : Int), (0 : Int), false)) fun b => bif Sp.plain b then must (decide ((0 : Int) < (↑(T.ds kids).length : Int))) (nthD (T.ds kids) (0 : Int).toNat fun y => nthD y.cells 0 fun c => nthD y.cells 1 fun c_1 => nthD y.cells 2 fun c_2 => nthD y.cells 3 fun c_3 => nthD y.cells 4 fun c_4 => optK (Sp.toT m (D.agg [c, c_1, c_2, c_3, c_4])) fun b => bif Sp.right b then must (decide ((1 : Int) < (↑(T.ds kids).length : Int))) (nthD (T.ds kids) (1 : Int).toNat fun y => nthD y.cells 0 fun c => nthD y.cells 1 fun c_5 => nthD y.cells 2 fun c_6 => nthD y.cells 3 fun c_7 => nthD y.cells 4 fun c_8 => optK (Sp.toT m (D.agg [c, c_5, c_6, c_7, c_8])) fun b => some (Out.ret (V.d (D.bool (Sp.right b))), [])) else some (Out.ret (V.d (D.bool false)), [])) else some (Out.ret (V.d (D.bool false)), []) else bif decide (k = (7 : Int)) then optK (optK (Sp.toC (D.agg [D.int IntKind.i64 k, D.str nm, D.sl 5 (T.ds kids), D.sl 1 (List.map D.str nms), D.int IntKind.i64 pl], (2 : Int), (0 : Int), false).fst) fun t => some (t, (2 : Int), (0 : Int), false)) fun b => bif Sp.plain b then must (decide ((0 : Int) < (↑(T.ds kids).length : Int))) (nthD (T.ds kids) (0 : Int).toNat fun y => nthD y.cells 0 fun c => nthD y.cells 1 fun c_1 => nthD y.cells 2 fun c_2 => nthD y.cells 3 fun c_3 => nthD y.cells 4 fun c_4 => optK (Sp.toT m (D.agg [c, c_1, c_2, c_3, c_4])) fun b => bif Sp.right b then must (decide ((1 : Int) < (↑(T.ds kids).length : Int))) (nthD (T.ds kids) (1 : Int).toNat fun y => nthD y.cells 0 fun c => nthD y.cells 1 fun c_5 => nthD y.cells 2 fun c_6 => nthD y.cells 3 fun c_7 => nthD y.cells 4 fun c_8 => optK (Sp.toC (D.agg [c, c_5, c_6, c_7, c_8])) fun b => some (Out.ret (V.d (D.bool (Sp.form b))), [])) else some (Out.ret (V.d (D.bool false)), [])) else some (Out.ret (V.d (D.bool false)), []) else bif decide (k = (10 : Int)) then bif decide ((↑(List.map D.str nms).length : Int) = (0 : Int)) then bif decide (nm = []) then optK (Sp.ts (Sp.toT m) (D.sl 5 (T.ds kids))) fun b => some (Out.ret (V.d (D.bool !b.any fun t => !Sp.elem t)), []) else some (Out.ret (V.d (D.bool false)), []) else some (Out.ret (V.d (D.bool false)), []) else some (Out.ret (V.d (D.bool false)), []) else bif decide (k = (3 : Int)) then bif decide ((0 : Int) < (↑(List.map D.str nms).length : Int)) then optK (optK (Sp.toC (D.agg [D.int IntKind.i64 k, D.str nm, D.sl 5 (T.ds kids), D.sl 1 (List.map D.str nms), D.int IntKind.i64 pl], (1 : Int), (↑(List.map D.str nms).length : Int), false).fst) fun t => some (t, (1 : Int), (↑(List.map D.str nms).length : Int), false)) fun b => bif Sp.plain b then must (decide ((0 : Int) < (↑(T.ds kids).length : Int))) (nthD (T.ds kids) (0 : Int).toNat fun y => nthD y.cells 0 fun c => nthD y.cells 1 fun c_1 => nthD y.cells 2 fun c_2 => nthD y.cells 3 fun c_3 => nthD y.cells 4 fun c_4 => optK (Sp.toT m (D.agg [c, c_1, c_2, c_3, c_4])) fun b => some (Out.ret (V.d (D.bool (Sp.right b))), [])) else some (Out.ret (V.d (D.bool false)), []) else some (Out.ret (V.d (D.bool false)), []) else bif decide (k = (4 : Int)) then bif decide (k = (4 : Int)) then bif decide ((↑(List.map D.str nms).length : Int) < (2 : Int)) then optK (optK (Sp.toC (D.agg [D.int IntKind.i64 k, D.str nm, D.sl 5 (T.ds kids), D.sl 1 (List.map D.str nms), D.int IntKind.i64 pl], (2 : Int), (↑(List.map D.str nms).length : Int), false).fst) fun t => some (t, (2 : Int), (↑(List.map D.str nms).length : Int), false)) fun b => bif Sp.plain b then must (decide ((0 : Int) < (↑(T.ds kids).length : Int))) (nthD (T.ds kids) (0 : Int).toNat fun y => nthD y.cells 0 fun c => nthD y.cells 1 fun c_1 => nthD y.cells 2 fun c_2 => nthD y.cells 3 fun c_3 => nthD y.cells 4 fun c_4 => optK (Sp.toT m (D.agg [c, c_1, c_2, c_3, c_4])) fun b => bif Sp.right b then must (decide ((1 : Int) < (↑(T.ds kids).length : Int))) (nthD (T.ds kids) (1 : Int).toNat fun y => nthD y.cells 0 fun c => nthD y.cells 1 fun c_5 => nthD y.cells 2 fun c_6 => nthD y.cells 3 fun c_7 => nthD y.cells 4 fun c_8 => optK (Sp.toT m (D.agg [c, c_5, c_6, c_7, c_8])) fun b => some (Out.ret (V.d (D.bool (Sp.right b))), [])) else some (Out.ret (V.d (D.bool false)), [])) else some (Out.ret (V.d (D.bool false)), []) else some (Out.ret (V.d (D.bool false)), []) else bif decide (k = (6 : Int)) then bif decide (k = (6 : Int)) then optK (optK (Sp.toC (D.agg [D.int IntKind.i64 k, D.str nm, D.sl 5 (T.ds kids), D.sl 1 (List.map D.str nms), D.int IntKind.i64 pl], (2 : Int), (0 : Int), false).fst) fun t => some (t, (2 : Int), (0 : Int), false)) fun b => bif Sp.plain b then must (decide ((0 : Int) < (↑(T.ds kids).length : Int))) (nthD (T.ds kids) (0 : Int).toNat fun y => nthD y.cells 0 fun c => nthD y.cells 1 fun c_1 => nthD y.cells 2 fun c_2 => nthD y.cells 3 fun c_3 => nthD y.cells 4 fun c_4 => optK (Sp.toT m (D.agg [c, c_1, c_2, c_3, c_4])) fun b => bif Sp.right b then must (decide ((1 : Int) < (↑(T.ds kids).length : Int))) (nthD (T.ds kids) (1 : Int).toNat fun y => nthD y.cells 0 fun c => nthD y.cells 1 fun c_5 => nthD y.cells 2 fun c_6 => nthD y.cells 3 fun c_7 => nthD y.cells 4 fun c_8 => optK (Sp.toT m (D.agg [c, c_5, c_6, c_7, c_8])) fun b => some (Out.ret (V.d (D.bool (Sp.right b))), [])) else some (Out.ret (V.d (D.bool false)), [])) else some (Out.ret (V.d (D.bool false)), []) else bif decide (k = (7 : Int)) then optK (optK (Sp.toC (D.agg [D.int IntKind.i64 k, D.str nm, D.sl 5 (T.ds kids), D.sl 1 (List.map D.str nms), D.int IntKind.i64 pl], (2 : Int), (0 : Int), false).fst) fun t => some (t, (2 : Int), (0 : Int), false)) fun b => bif Sp.plain b then must (decide ((0 : Int) < (↑(T.ds kids).length : Int))) (nthD (T.ds kids) (0 : Int).toNat fun y => nthD y.cells 0 fun c => nthD y.cells 1 fun c_1 => nthD y.cells 2 fun c_2 => nthD y.cells 3 fun c_3 => nthD y.cells 4 fun c_4 => optK (Sp.toT m (D.agg [c, c_1, c_2, c_3, c_4])) fun b => bif Sp.right b then must (decide ((1 : Int) < (↑(T.ds kids).length : Int))) (nthD (T.ds kids) (1 : Int).toNat fun y => nthD y.cells 0 fun c => nthD y.cells 1 fun c_5 => nthD y.cells 2 fun c_6 => nthD y.cells 3 fun c_7 => nthD y.cells 4 fun c_8 => optK (Sp.toC (D.agg [c, c_5, c_6, c_7, c_8])) fun b => some (Out.ret (V.d (D.bool (Sp.form b))), [])) else some (Out.ret (V.d (D.bool false)), [])) else some (Out.ret (V.d (D.bool false)), []) else bif decide (k = (10 : Int)) then bif decide ((↑(List.map D.str nms).length : Int) = (0 : Int)) then bif decide (nm = []) then optK (Sp.ts (Sp.toT m) (D.sl 5 (T.ds kids))) fun b => some (Out.ret (V.d (D.bool !b.any fun t => !Sp.elem t)), []) else some (Out.ret (V.d (D.bool false)), []) else some (Out.ret (V.d (D.bool false)), []) else some (Out.ret (V.d (D.bool false)), []) else bif decide (k = (8 : Int)) then bif decide (k = (8 : Int)) then optK (optK (Sp.toC (D.agg [D.int IntKind.i64 k, D.str nm, D.sl 5 (T.ds kids), D.sl 1 (List.map D.str nms), D.int IntKind.i64 pl], (2 : Int), (0 : Int), false).fst) fun t => some (t, (2 : Int), (0 : Int), false)) fun b => bif Sp.plain b then must (decide ((0 : Int) < (↑(T.ds kids).length : Int))) (nthD (T.ds kids) (0 : Int).toNat fun y => nthD y.cells 0 fun c => nthD y.cells 1 fun c_1 => nthD y.cells 2 fun c_2 => nthD y.cells 3 fun c_3 => nthD y.cells 4 fun c_4 => optK (Sp.toT m (D.agg [c, c_1, c_2, c_3, c_4])) fun b => bif Sp.right b then must (decide ((1 : Int) < (↑(T.ds kids).length : Int))) (nthD (T.ds kids) (1 : Int).toNat fun y => nthD y.cells 0 fun c => nthD y.cells 1 fun c_5 => nthD y.cells 2 fun c_6 => nthD y.cells 3 fun c_7 => nthD y.cells 4 fun c_8 => optK (Sp.toT m (D.agg [c, c_5, c_6, c_7, c_8])) fun b => some (Out.ret (V.d (D.bool (Sp.right b))), [])) else some (Out.ret (V.d (D.bool false)), [])) else some (Out.ret (V.d (D.bool false)), []) else bif decide (k = (7 : Int)) then optK (optK (Sp.toC (D.agg [D.int IntKind.i64 k, D.str nm, D.sl 5 (T.ds kids), D.sl 1 (List.map D.str nms), D.int IntKind.i64 pl], (2 : Int), (0 : Int), false).fst) fun t => some (t, (2 : Int), (0 : Int), false)) fun b => bif Sp.plain b then must (decide ((0 : Int) < (↑(T.ds kids).length : Int))) (nthD (T.ds kids) (0 : Int).toNat fun y => nthD y.cells 0 fun c => nthD y.cells 1 fun c_1 => nthD y.cells 2 fun c_2 => nthD y.cells 3 fun c_3 => nthD y.cells 4 fun c_4 => optK (Sp.toT m (D.agg [c, c_1, c_2, c_3, c_4])) fun b => bif Sp.right b then must (decide ((1 : Int) < (↑(T.ds kids).length : Int))) (nthD (T.ds kids) (1 : Int).toNat fun y => nthD y.cells 0 fun c => nthD y.cells 1 fun c_5 => nthD y.cells 2 fun c_6 => nthD y.cells 3 fun c_7 => nthD y.cells 4 fun c_8 => optK (Sp.toC (D.agg [c, c_5, c_6, c_7, c_8])) fun b => some (Out.ret (V.d (D.bool (Sp.form b))), [])) else some (Out.ret (V.d (D.bool false)), [])) else some (Out.ret (V.d (D.bool false)), []) else bif decide (k = (10 : Int)) then bif decide ((↑(List.map D.str nms).length : Int) = (0 : Int)) then bif decide (nm = []) then optK (Sp.ts (Sp.toT m) (D.sl 5 (T.ds kids))) fun b => some (Out.ret (V.d (D.bool !b.any fun t => !Sp.elem t)), []) else some (Out.ret (V.d (D.bool false)), []) else some (Out.ret (V.d (D.bool false)), []) else some (Out.ret (V.d (D.bool false)), []) else bif decide (k = (9 : Int)) then optK (optK (Sp.toC (D.agg [D.int IntKind.i64 k, D.str nm, D.sl 5 (T.ds kids), D.sl 1 (List.map D.str nms), D.int IntKind.i64 pl], (2 : Int), (0 : Int), false).fst) fun t => some (t, (2 : Int), (0 : Int), false)) fun b => bif Sp.plain b then must (decide ((0 : Int) < (↑(T.ds kids).length : Int))) (nthD (T.ds kids) (0 : Int).toNat fun y => nthD y.cells 0 fun c => nthD y.cells 1 fun c_1 => nthD y.cells 2 fun c_2 => nthD y.cells 3 fun c_3 => nthD y.cells 4 fun c_4 => optK (Sp.toT m (D.agg [c, c_1, c_2, c_3, c_4])) fun b => bif Sp.right b then must (decide ((1 : Int) < (↑(T.ds kids).length : Int))) (nthD (T.ds kids) (1 : Int).toNat fun y => nthD y.cells 0 fun c => nthD y.cells 1 fun c_5 => nthD y.cells 2 fun c_6 => nthD y.cells 3 fun c_7 => nthD y.cells 4 fun c_8 => optK (Sp.toT m (D.agg [c, c_5, c_6, c_7, c_8])) fun b => some (Out.ret (V.d (D.bool (Sp.right b))), [])) else some (Out.ret (V.d (D.bool false)), [])) else some (Out.ret (V.d (D.bool false)), []) else bif decide (k = (7 : Int)) then optK (optK (Sp.toC (D.agg [D.int IntKind.i64 k, D.str nm, D.sl 5 (T.ds kids), D.sl 1 (List.map D.str nms), D.int IntKind.i64 pl], (2 : Int), (0 : Int), false).fst) fun t => some (t, (2 : Int), (0 : Int), false)) fun b => bif Sp.plain b then must (decide ((0 : Int) < (↑(T.ds kids).length : Int))) (nthD (T.ds kids) (0 : Int).toNat fun y => nthD y.cells 0 fun c => nthD y.cells 1 fun c_1 => nthD y.cells 2 fun c_2 => nthD y.cells 3 fun c_3 => nthD y.cells 4 fun c_4 => optK (Sp.toT m (D.agg [c, c_1, c_2, c_3, c_4])) fun b => bif Sp.right b then must (decide ((1 : Int) < (↑(T.ds kids).length : Int))) (nthD (T.ds kids) (1 : Int).toNat fun y => nthD y.cells 0 fun c => nthD y.cells 1 fun c_5 => nthD y.cells 2 fun c_6 => nthD y.cells 3 fun c_7 => nthD y.cells 4 fun c_8 => optK (Sp.toC (D.agg [c, c_5, c_6, c_7, c_8])) fun b => some (Out.ret (V.d (D.bool (Sp.form b))), [])) else some (Out.ret (V.d (D.bool false)), [])) else some (Out.ret (V.d (D.bool false)), []) else bif decide (k = (10 : Int)) then bif decide ((↑(List.map D.str nms).length : Int) = (0 : Int)) then bif decide (nm = []) then optK (Sp.ts (Sp.toT m) (D.sl 5 (T.ds kids))) fun b => some (Out.ret (V.d (D.bool !b.any fun t => !Sp.elem t)), []) else some (Out.ret (V.d (D.bool false)), []) else some (Out.ret (V.d (D.bool false)), []) else some (Out.ret (V.d (D.bool false)), []) else bif decide (k = (5 : Int)) then bif decide ((↑(List.map D.str nms).length : Int) < (2 : Int)) then optK (optK (Sp.toC (D.agg [D.int IntKind.i64 k, D.str nm, D.sl 5 (T.ds kids), D.sl 1 (List.map D.str nms), D.int IntKind.i64 pl], (2 : Int), (↑(List.map D.str nms).length : Int), false).fst) fun t => some (t, (2 : Int), (↑(List.map D.str nms).length : Int), false)) fun b => bif Sp.plain b then must (decide ((0 : Int) < (↑(T.ds kids).length : Int))) (nthD (T.ds kids) (0 : Int).toNat fun y => nthD y.cells 0 fun c => nthD y.cells 1 fun c_1 => nthD y.cells 2 fun c_2 => nthD y.cells 3 fun c_3 => nthD y.cells 4 fun c_4 => optK (Sp.toT m (D.agg [c, c_1, c_2, c_3, c_4])) fun b => bif Sp.right b then must (decide ((1 : Int) < (↑(T.ds kids).length : Int))) (nthD (T.ds kids) (1 : Int).toNat fun y => nthD y.cells 0 fun c => nthD y.cells 1 fun c_5 => nthD y.cells 2 fun c_6 => nthD y.cells 3 fun c_7 => nthD y.cells 4 fun c_8 => optK (Sp.toT m (D.agg [c, c_5, c_6, c_7, c_8])) fun b => some (Out.ret (V.d (D.bool (Sp.right b))), [])) else some (Out.ret (V.d (D.bool false)), [])) else some (Out.ret (V.d (D.bool false)), []) else some (Out.ret (V.d (D.bool false)), []) else bif decide (k = (6 : Int)) then bif decide (k = (6 : Int)) then optK (optK (Sp.toC (D.agg [D.int IntKind.i64 k, D.str nm, D.sl 5 (T.ds kids), D.sl 1 (List.map D.str nms), D.int IntKind.i64 pl], (2 : Int), (0 : Int), false).fst) fun t => some (t, (2 : Int), (0 : Int), false)) fun b => bif Sp.plain b then must (decide ((0 : Int) < (↑(T.ds kids).length : Int))) (nthD (T.ds kids) (0 : Int).toNat fun y => nthD y.cells 0 fun c => nthD y.cells 1 fun c_1 => nthD y.cells 2 fun c_2 => nthD y.cells 3 fun c_3 => nthD y.cells 4 fun c_4 => optK (Sp.toT m (D.agg [c, c_1, c_2, c_3, c_4])) fun b => bif Sp.right b then must (decide ((1 : Int) < (↑(T.ds kids).length : Int))) (nthD (T.ds kids) (1 : Int).toNat fun y => nthD y.cells 0 fun c => nthD y.cells 1 fun c_5 => nthD y.cells 2 fun c_6 => nthD y.cells 3 fun c_7 => nthD y.cells 4 fun c_8 => optK (Sp.toT m (D.agg [c, c_5, c_6, c_7, c_8])) fun b => some (Out.ret (V.d (D.bool (Sp.right b))), [])) else some (Out.ret (V.d (D.bool false)), [])) else some (Out.ret (V.d (D.bool false)), []) else bif decide (k = (7 : Int)) then optK (optK (Sp.toC (D.agg [D.int IntKind.i64 k, D.str nm, D.sl 5 (T.ds kids), D.sl 1 (List.map D.str nms), D.int IntKind.i64 pl], (2 : Int), (0 : Int), false).fst) fun t => some (t, (2 : Int), (0 : Int), false)) fun b => bif Sp.plain b then must (decide ((0 : Int) < (↑(T.ds kids).length : Int))) (nthD (T.ds kids) (0 : Int).toNat fun y => nthD y.cells 0 fun c => nthD y.cells 1 fun c_1 => nthD y.cells 2 fun c_2 => nthD y.cells 3 fun c_3 => nthD y.cells 4 fun c_4 => optK (Sp.toT m (D.agg [c, c_1, c_2, c_3, c_4])) fun b => bif Sp.right b then must (decide ((1 : Int) < (↑(T.ds kids).length : Int))) (nthD (T.ds kids) (1 : Int).toNat fun y => nthD y.cells 0 fun c => nthD y.cells 1 fun c_5 => nthD y.cells 2 fun c_6 => nthD y.cells 3 fun c_7 => nthD y.cells 4 fun c_8 => optK (Sp.toC (D.agg [c, c_5, c_6, c_7, c_8])) fun b => some (Out.ret (V.d (D.bool (Sp.form b))), [])) else some (Out.ret (V.d (D.bool false)), [])) else some (Out.ret (V.d (D.bool false)), []) else bif decide (k = (10 : Int)) then bif decide ((↑(List.map D.str nms).length : Int) = (0 : Int)) then bif decide (nm = []) then optK (Sp.ts (Sp.toT m) (D.sl 5 (T.ds kids))) fun b => some (Out.ret (V.d (D.bool !b.any fun t => !Sp.elem t)), []) else some (Out.ret (V.d (D.bool false)), []) else some (Out.ret (V.d (D.bool false)), []) else some (Out.ret (V.d (D.bool false)), []) else bif decide (k = (8 : Int)) then bif decide (k = (8 : Int)) then optK (optK (Sp.toC (D.agg [D.int IntKind.i64 k, D.str nm, D.sl 5 (T.ds kids), D.sl 1 (List.map D.str nms), D.int IntKind.i64 pl], (2 : Int), (0 : Int), false).fst) fun t => some (t, (2 : Int), (0 : Int), false)) fun b => bif Sp.plain b then must (decide ((0 : Int) < (↑(T.ds kids).length : Int))) (nthD (T.ds kids) (0 : Int).toNat fun y => nthD y.cells 0 fun c => nthD y.cells 1 fun c_1 => nthD y.cells 2 fun c_2 => nthD y.cells 3 fun c_3 => nthD y.cells 4 fun c_4 => optK (Sp.toT m (D.agg [c, c_1, c_2, c_3, c_4])) fun b => bif Sp.right b then must (decide ((1 : Int) < (↑(T.ds kids).length : Int))) (nthD (T.ds kids) (1 : Int).toNat fun y => nthD y.cells 0 fun c => nthD y.cells 1 fun c_5 => nthD y.cells 2 fun c_6 => nthD y.cells 3 fun c_7 => nthD y.cells 4 fun c_8 => optK (Sp.toT m (D.agg [c, c_5, c_6, c_7, c_8])) fun b => some (Out.ret (V.d (D.bool (Sp.right b))), [])) else some (Out.ret (V.d (D.bool false)), [])) else some (Out.ret (V.d (D.bool false)), []) else bif decide (k = (7 : Int)) then optK (optK (Sp.toC (D.agg [D.int IntKind.i64 k, D.str nm, D.sl 5 (T.ds kids), D.sl 1 (List.map D.str nms), D.int IntKind.i64 pl], (2 : Int), (0 : Int), false).fst) fun t => some (t, (2 : Int), (0 : Int), false)) fun b => bif Sp.plain b then must (decide ((0 : Int) < (↑(T.ds kids).length : Int))) (nthD (T.ds kids) (0 : Int).toNat fun y => nthD y.cells 0 fun c => nthD y.cells 1 fun c_1 => nthD y.cells 2 fun c_2 => nthD y.cells 3 fun c_3 => nthD y.cells 4 fun c_4 => optK (Sp.toT m (D.agg [c, c_1, c_2, c_3, c_4])) fun b => bif Sp.right b then must (decide ((1 : Int) < (↑(T.ds kids).length : Int))) (nthD (T.ds kids) (1 : Int).toNat fun y => nthD y.cells 0 fun c => nthD y.cells 1 fun c_5 => nthD y.cells 2 fun c_6 => nthD y.cells 3 fun c_7 => nthD y.cells 4 fun c_8 => optK (Sp.toC (D.agg [c, c_5, c_6, c_7, c_8])) fun b => some (Out.ret (V.d (D.bool (Sp.form b))), [])) else some (Out.ret (V.d (D.bool false)), [])) else some (Out.ret (V.d (D.bool false)), []) else bif decide (k = (10 : Int)) then bif decide ((↑(List.map D.str nms).length : Int) = (0 : Int)) then bif decide (nm = []) then optK (Sp.ts (Sp.toT m) (D.sl 5 (T.ds kids))) fun b => some (Out.ret (V.d (D.bool !b.any fun t => !Sp.elem t)), []) else some (Out.ret (V.d (D.bool false)), []) else some (Out.ret (V.d (D.bool false)), []) else some (Out.ret (V.d (D.bool false)), []) else bif decide (k = (9 : Int)) then optK (optK (Sp.toC (D.agg [D.int IntKind.i64 k, D.str nm, D.sl 5 (T.ds kids), D.sl 1 (List.map D.str nms), D.int IntKind.i64 pl], (2 : Int), (0 : Int), false).fst) fun t => some (t, (2 : Int), (0 : Int), false)) fun b => bif Sp.plain b then must (decide ((0 : Int) < (↑(T.ds kids).length : Int))) (nthD (T.ds kids) (0 : Int).toNat fun y => nthD y.cells 0 fun c => nthD y.cells 1 fun c_1 => nthD y.cells 2 fun c_2 => nthD y.cells 3 fun c_3 => nthD y.cells 4 fun c_4 => optK (Sp.toT m (D.agg [c, c_1, c_2, c_3, c_4])) fun b => bif Sp.right b then must (decide ((1 : Int) < (↑(T.ds kids).length : Int))) (nthD (T.ds kids) (1 : Int).toNat fun y => nthD y.cells 0 fun c => nthD y.cells 1 fun c_5 => nthD y.cells 2 fun c_6 => nthD y.cells 3 fun c_7 => nthD y.cells 4 fun c_8 => optK (Sp.toT m (D.agg [c, c_5, c_6, c_7, c_8])) fun b => some (Out.ret (V.d (D.bool (Sp.right b))), [])) else some (Out.ret (V.d (D.bool false)), [])) else some (Out.ret (V.d (D.bool false)), []) else bif decide (k = (7 : Int)) then optK (optK (Sp.toC (D.agg [D.int IntKind.i64 k, D.str nm, D.sl 5 (T.ds kids), D.sl 1 (List.map D.str nms), D.int IntKind.i64 pl], (2 : Int), (0 : Int), false).fst) fun t => some (t, (2 : Int), (0 : Int), false)) fun b => bif Sp.plain b then must (decide ((0 : Int) < (↑(T.ds kids).length : Int))) (nthD (T.ds kids) (0 : Int).toNat fun y => nthD y.cells 0 fun c => nthD y.cells 1 fun c_1 => nthD y.cells 2 fun c_2 => nthD y.cells 3 fun c_3 => nthD y.cells 4 fun c_4 => optK (Sp.toT m (D.agg [c, c_1, c_2, c_3, c_4])) fun b => bif Sp.right b then must (decide ((1 : Int) < (↑(T.ds kids).length : Int))) (nthD (T.ds kids) (1 : Int).toNat fun y => nthD y.cells 0 fun c => nthD y.cells 1 fun c_5 => nthD y.cells 2 fun c_6 => nthD y.cells 3 fun c_7 => nthD y.cells 4 fun c_8 => optK (Sp.toC (D.agg [c, c_5, c_6, c_7, c_8])) fun b => some (Out.ret (V.d (D.bool (Sp.form b))), [])) else some (Out.ret (V.d (D.bool false)), [])) else some (Out.ret (V.d (D.bool false)), []) else bif decide (k = (10 : Int)) then bif decide ((↑(List.map D.str nms).length : Int) = (0 : Int)) then bif decide (nm = []) then optK (Sp.ts (Sp.toT m) (D.sl 5 (T.ds kids))) fun b => some (Out.ret (V.d (D.bool !b.any fun t => !Sp.elem t)), []) else some (Out.ret (V.d (D.bool false)), []) else some (Out.ret (V.d (D.bool false)), []) else some (Out.ret (V.d (D.bool false)), []) := by kernel_rfl

theorem cond_nand {c x : Bool} {σ : St} : (bif c then some (Out.ret (V.d (D.bool false)), σ) else some (Out.ret (V.d (D.bool x)), σ)) = some (Out.ret (V.d (D.bool (!c && x))), σ) := by cases c <;> rfl

theorem lim65 {m : Nat} (hm : ∀ t : T, t.depth ≤ m → t.ok = true → evLim cx 37 [.d t.d] [] = some (.ret (mkB (Sp.right t)), [])) (t : T) (hd : t.depth ≤ m) (ho : t.ok = true) :
    evLim cx 65 [.d t.d] [] = some (.ret (mkB (Sp.elem t)), []) := by
  have hA : knows cx (pureK 37 decD (Sp.toT m) (fun t => mkB (Sp.right t)) K5).S (evLim cx) := pureK_knows K5_knows fun a q b _ h hb => by
    obtain rfl := decD_some h
    obtain ⟨rfl, h1, h2⟩ := toT_some hb
    exact hm b h1 h2
  have hE : knows cx (pureK 63 (decDF 87) (Sp.ts Sp.toC) (fun l => mkB (l.any (fun t => !Sp.eqn t))) (pureK 37 decD (Sp.toT m) (fun t => mkB (Sp.right t)) K5)).S (evLim cx) := pureK_knows hA fun a q b hd h hb => by
    obtain rfl := decDF_some h
    obtain ⟨l, rfl, h1, h2⟩ := ts_some hb
    obtain ⟨rfl, h3⟩ := toL_ds (fun x t h => (toC_some h).1) h1
    exact lim63a (fun x t h => (toC_some h).1) K5_knows K6_knows b h2 h3
  obtain ⟨k, nm, kids, nms, pl⟩ := t
  obtain ⟨h1, h2, h3, h4, h5⟩ := ok_inv ho
  have hkd : T.depths kids ≤ m := by simp only [T.depth] at hd; omega
  refine lim_bodyK hE (N := 0) ?_
  refine (g65 0 m k nm kids nms pl K5).trans ?_
  have hT : ∀ t ∈ kids, Sp.toT m t.d = some t := fun t h => kid_toT hkd h5 h
  have hC : ∀ t ∈ kids, Sp.ts Sp.toC (.sl 5 (T.ds t.kids)) = some t.kids := fun t h => by
    obtain ⟨k', nm', kids', nms', pl'⟩ := t
    obtain ⟨_, q2, _, _, q5⟩ := ok_inv (oks_mem h5 h)
    exact ts_of (fun u hu => kid_toC q5 hu) q2
  have e9 : Nat.beq 1 (cx.P.cellsOf 9) = true := by kernel_rfl
  have e26 : Nat.beq 5 (cx.P.cellsOf 26) = true := by kernel_rfl
  simp only [optK, ds_len, List.length_map, must, cond_true, nthD_ds, cells_d, nth0, nth1, nth2, nth3, nth4, agg_d, lenZ, lenO, lenT, lenP, lenP1, decide_true, e9, e26, Bool.true_or]
  have hk : k = 11 ∨ k ≠ 11 := by omega
  rcases hk with rfl | hk <;> rcases kids with _ | ⟨a, _ | ⟨b, _ | ⟨c, l⟩⟩⟩ <;> rcases nms with _ | ⟨x, nms⟩ <;> simp [Sp.elem, mkB, hT, hC, cond_and, cond_or, *]
  · obtain ⟨k, nm', kids', nms', pl'⟩ := a
    rcases nms' with _ | ⟨x, nms'⟩ <;> simp [Sp.faceB, k_mk, nm_mk, nms_mk, kids_mk, cond_and, cond_nand, Bool.and_assoc, List.not_any_eq_all_not]; rfl
  · obtain ⟨k, nm', kids', nms', pl'⟩ := a
    rcases nms' with _ | ⟨x, nms'⟩ <;> simp [Sp.faceB, k_mk, nm_mk, nms_mk, kids_mk, cond_and, cond_nand, Bool.and_assoc, List.not_any_eq_all_not]; rfl
  · rw [decide_eq_false (by omega), decide_eq_true (by omega)]
    rfl

theorem lim64 {m : Nat} (hm : ∀ t : T, t.depth ≤ m → t.ok = true → evLim cx 37 [.d t.d] [] = some (.ret (mkB (Sp.right t)), [])) :
    knows cx (pureK 64 decD (Sp.toT m) (fun t => mkB (!Sp.elem t)) K5).S (evLim cx) := pureK_knows K5_knows fun a q b _ h hb => by
  obtain rfl := decD_some h
  obtain ⟨rfl, h1, h2⟩ := toT_some hb
  have h65 : knows cx (pureK 65 decD (Sp.toT m) (fun t => mkB (Sp.elem t)) K5).S (evLim cx) := pureK_knows K5_knows fun a q b _ h hb => by
    obtain rfl := decD_some h
    obtain ⟨rfl, h1, h2⟩ := toT_some hb
    exact lim65 hm b h1 h2
  refine lim_bodyK h65 (N := 0) ?_
  obtain ⟨k, nm, kids, nms, pl⟩ := b
  refine (g64 0 k nm kids nms pl (Sp.toT m) K5).trans ?_
  have := toT_d h1 h2
  simp only [T.d] at this
  rw [this]
  rfl

theorem lim37 : ∀ (m : Nat) (t : T), t.depth ≤ m → t.ok = true → evLim cx 37 [.d t.d] [] = some (.ret (mkB (Sp.right t)), [])
  | 0, .mk .., h, _ => by simp [T.depth] at h
  | m + 1, .mk k nm kids nms pl, hd, ho => by
    have hm : ∀ t : T, t.depth ≤ m → t.ok = true → evLim cx 37 [.d t.d] [] = some (.ret (mkB (Sp.right t)), []) := fun t h1 h2 => lim37 m t h1 h2
    have hA : knows cx (pureK 37 decD (Sp.toT m) (fun t => mkB (Sp.right t)) K5).S (evLim cx) := pureK_knows K5_knows fun a q b _ h hb => by
      obtain rfl := decD_some h
      obtain ⟨rfl, h1, h2⟩ := toT_some hb
      exact hm b h1 h2
    have hR : knows cx (pureK 63 (decDF 64) (Sp.ts (Sp.toT m)) (fun l => mkB (l.any (fun t => !Sp.elem t))) (pureK 37 decD (Sp.toT m) (fun t => mkB (Sp.right t)) K5)).S (evLim cx) := pureK_knows hA fun a q b hd h hb => by
      obtain rfl := decDF_some h
      obtain ⟨l, rfl, h1, h2⟩ := ts_some hb
      obtain ⟨rfl, h3⟩ := toL_ds (fun x t h => (toT_some h).1) h1
      exact lim63b (fun x t h => (toT_some h).1) K5_knows (lim64 hm) b h2 h3
    obtain ⟨h1, h2, h3, h4, h5⟩ := ok_inv ho
    have hkd := depth_inv hd
    refine lim_bodyK hR (N := 0) ?_
    refine (g37 0 m k nm kids nms pl).trans ?_
    have hC : Sp.toC (D.agg [D.int IntKind.i64 k, D.str nm, D.sl 5 (T.ds kids), D.sl 1 (List.map D.str nms), D.int IntKind.i64 pl]) = some (.mk k nm kids nms pl) := toC_d ho
    have hT : ∀ t ∈ kids, Sp.toT m t.d = some t := fun t h => kid_toT hkd h5 h
    have hTC : ∀ t ∈ kids, Sp.toC t.d = some t := fun t h => kid_toC h5 h
    have hts : Sp.ts (Sp.toT m) (.sl 5 (T.ds kids)) = some kids := ts_of hT h2
    simp only [hC, hts, optK, ds_len, List.length_map, shrt_big h1, must, cond_true, nthD_ds, cells_d, nth0, nth1, nth2, nth3, nth4, agg_d, Sp.plain, lenZ, lenO, lenT, lenP, lenP1, decide_true, Bool.and_true]
    clear hC hR hA ho hd hm hts
    have hk : k = 1 ∨ k = 2 ∨ k = 3 ∨ k = 4 ∨ k = 5 ∨ k = 6 ∨ k = 7 ∨ k = 8 ∨ k = 9 ∨ k = 10 ∨ (k ≠ 1 ∧ k ≠ 2 ∧ k ≠ 3 ∧ k ≠ 4 ∧ k ≠ 5 ∧ k ≠ 6 ∧ k ≠ 7 ∧ k ≠ 8 ∧ k ≠ 9 ∧ k ≠ 10) := by omega
    rcases hk with rfl | rfl | rfl | rfl | rfl | rfl | rfl | rfl | rfl | rfl | ⟨q1, q2, q3, q4, q5, q6, q7, q8, q9, q10⟩
    all_goals simp only [*, Int.reduceEq, decide_true, decide_false, cond_true, cond_false]
    all_goals rcases kids with _ | ⟨a, _ | ⟨b, _ | ⟨c, l⟩⟩⟩
    all_goals rcases nms with _ | ⟨x, _ | ⟨y, nms⟩⟩
    all_goals simp [Sp.right, mkB, hT, hTC, cond_and, cond_or, Bool.and_assoc, List.not_any_eq_all_not, elems_all]
    all_goals first | (simp [*]; done) | (rw [decide_eq_false (p := ((nms.length : Int) + 1 + 1 < 2)) (by omega), decide_eq_false (p := nms.length + 1 + 1 < 2) (by omega)]; simp)
noncomputable def K8 : CK R1 := pureK 74 decD Sp.toC (fun t => mkB (Sp.form t)) (pureK 76 decD Sp.toC (fun t => mkB (Sp.faceB t)) (pureK 75 decD Sp.ns (fun l => mkB (l.all Sp.named)) K1))
noncomputable def KQ (m : Nat) : CK R1 := pureK 42 decD (Sp.toT m) (fun t => mkB (Sp.right t)) K8
end Go.Vai
end

section
namespace Go.Vai
open Go.Proofs

theorem g74 (n m : Nat) (k : Int) (nm : List UInt8) (kids : List T) (nms : List (List UInt8)) (pl : Int) : evBody cx (pureK 74 decD (Sp.toT m) (fun t => mkB (Sp.form t)) K1) n 74 [.d (.agg [.int .i64 k, .str nm, .sl 5 (T.ds kids), .sl 1 (nms.map .str), .int .i64 pl])] [] = bif decide ((0 : Int) < (↑(List.map D.str nms).length : Int)) then some (Out.ret (V.d (D.bool false)), []) else bif decide (k = (1 : Int)) then bif decide ((↑(T.ds kids).length : Int) = (0 : Int)) then must (decide (nm.length ≤ big)) (some (Out.ret (V.d (D.bool (Sp.named nm))), [])) else some (Out.ret (V.d (D.bool false)), []) else bif decide (k = (17 : Int)) then bif decide ((↑(T.ds kids).length : Int) = (0 : Int)) then bif decide (nm = [48]) then some (Out.ret (V.d (D.bool true)), []) else some (Out.ret (V.d (D.bool (decide (nm = [49])))), []) else some (Out.ret (V.d (D.bool false)), []) else bif decide (k = (16 : Int)) then bif decide (nm = []) then bif decide ((↑(T.ds kids).length : Int) = (1 : Int)) then must (decide ((0 : Int) < (↑(T.ds kids).length : Int))) (nthD (T.ds kids) (0 : Int).toNat fun y => nthD y.cells 0 fun c => nthD y.cells 1 fun c_1 => nthD y.cells 2 fun c_2 => nthD y.cells 3 fun c_3 => nthD y.cells 4 fun c_4 => optK (Sp.toT m (D.agg [c, c_1, c_2, c_3, c_4])) fun b => some (Out.ret (V.d (D.bool (Sp.form b))), [])) else some (Out.ret (V.d (D.bool false)), []) else some (Out.ret (V.d (D.bool false)), []) else bif decide (k = (14 : Int)) then bif decide (k = (14 : Int)) then bif decide (nm = []) then bif decide ((↑(T.ds kids).length : Int) = (2 : Int)) then must (decide ((0 : Int) < (↑(T.ds kids).length : Int))) (nthD (T.ds kids) (0 : Int).toNat fun y => nthD y.cells 0 fun c => nthD y.cells 1 fun c_1 => nthD y.cells 2 fun c_2 => nthD y.cells 3 fun c_3 => nthD y.cells 4 fun c_4 => optK (Sp.toT m (D.agg [c, c_1, c_2, c_3, c_4])) fun b => bif Sp.form b then must (decide ((1 : Int) < (↑(T.ds kids).length : Int))) (nthD (T.ds kids) (1 : Int).toNat fun y => nthD y.cells 0 fun c => nthD y.cells 1 fun c_5 => nthD y.cells 2 fun c_6 => nthD y.cells 3 fun c_7 => nthD y.cells 4 fun c_8 => optK (Sp.toT m (D.agg [c, c_5, c_6, c_7, c_8])) fun b => some (Out.ret (V.d (D.bool (Sp.form b))), [])) else some (Out.ret (V.d (D.bool false)), [])) else some (Out.ret (V.d (D.bool false)), []) else some (Out.ret (V.d (D.bool false)), []) else some (Out.ret (V.d (D.bool false)), []) else bif decide (k = (15 : Int)) then bif decide (nm = []) then bif decide ((↑(T.ds kids).length : Int) = (2 : Int)) then must (decide ((0 : Int) < (↑(T.ds kids).length : Int))) (nthD (T.ds kids) (0 : Int).toNat fun y => nthD y.cells 0 fun c => nthD y.cells 1 fun c_1 => nthD y.cells 2 fun c_2 => nthD y.cells 3 fun c_3 => nthD y.cells 4 fun c_4 => optK (Sp.toT m (D.agg [c, c_1, c_2, c_3, c_4])) fun b => bif Sp.form b then must (decide ((1 : Int) < (↑(T.ds kids).length : Int))) (nthD (T.ds kids) (1 : Int).toNat fun y => nthD y.cells 0 fun c => nthD y.cells 1 fun c_5 => nthD y.cells 2 fun c_6 => nthD y.cells 3 fun c_7 => nthD y.cells 4 fun c_8 => optK (Sp.toT m (D.agg [c, c_5, c_6, c_7, c_8])) fun b => some (Out.ret (V.d (D.bool (Sp.form b))), [])) else some (Out.ret (V.d (D.bool false)), [])) else some (Out.ret (V.d (D.bool false)), []) else some (Out.ret (V.d (D.bool false)), []) else some (Out.ret (V.d (D.bool false)), []) := by kernel_rfl

theorem g76 (n : Nat) (k : Int) (nm : List UInt8) (kids : List T) (nms : List (List UInt8)) (pl : Int) : evBody cx K1 n 76 [.d (.agg [.int .i64 k, .str nm, .sl 5 (T.ds kids), .sl 1 (nms.map .str), .int .i64 pl])] [] = bif !decide (k = (12 : Int)) then some (Out.ret (V.d (D.bool false)), []) else bif !decide (nm = []) then some (Out.ret (V.d (D.bool false)), []) else bif decide ((0 : Int) < (↑(List.map D.str nms).length : Int)) then some (Out.ret (V.d (D.bool false)), []) else LP cx K1 n 76 0 4 n [(1, V.ptr 1 0), (3, V.d (D.int IntKind.i64 (0 : Int)))] [(1, Ob.val 5 (V.d (D.agg [D.int IntKind.i64 k, D.str nm, D.sl 5 (T.ds kids), D.sl 1 (List.map D.str nms), D.int IntKind.i64 pl])))] (AK cx K1 n 76 0 4 (EK cx 76 0)) := by kernel_rfl

theorem l76 (n r : Nat) (k : Int) (nm : List UInt8) (kids : List T) (nms : List (List UInt8)) (pl i : Int) : LP cx K1 n 76 0 4 (r + 1) [(1, V.ptr 1 0), (3, V.d (D.int IntKind.i64 i))] [(1, Ob.val 5 (V.d (D.agg [D.int IntKind.i64 k, D.str nm, D.sl 5 (T.ds kids), D.sl 1 (List.map D.str nms), D.int IntKind.i64 pl])))] (AK cx K1 n 76 0 4 (EK cx 76 0)) = bif decide (i < (↑(T.ds kids).length : Int)) then must (decide (0 ≤ i) && decide (i < (↑(T.ds kids).length : Int))) (nthD (T.ds kids) i.toNat fun y => nthD y.cells 0 fun c => nthD y.cells 1 fun c_1 => nthD y.cells 2 fun c_2 => nthD y.cells 3 fun c_3 => nthD y.cells 4 fun c_4 => match c with
 | D.int k' n_1 => bif decide (k' = IntKind.i64) then bif !decide (n_1 = (13 : Int)) then some (Out.ret (V.d (D.bool false)), []) else match c_2 with
  | D.sl s l => bif s.beq (cx.P.cellsOf 26) || l.isEmpty then bif decide ((0 : Int) < (↑l.length : Int)) then some (Out.ret (V.d (D.bool false)), []) else match c_1 with
   | D.str s => must (decide (s.length ≤ big)) (bif !Sp.named s then some (Out.ret (V.d (D.bool false)), []) else match c_3 with
    | D.sl s l => bif s.beq (cx.P.cellsOf 9) || l.isEmpty then bif !decide ((↑l.length : Int) = (1 : Int)) then some (Out.ret (V.d (D.bool false)), []) else match c_3 with
     | D.sl s l => bif s.beq (cx.P.cellsOf 9) || l.isEmpty then must (decide ((0 : Int) < (↑l.length : Int))) (nthD l (0 : Int).toNat fun y => nthD y.cells 0 fun c => match c with
      | D.str s => bif !decide (s = [48]) then match c_3 with
       | D.sl s l => bif s.beq (cx.P.cellsOf 9) || l.isEmpty then must (decide ((0 : Int) < (↑l.length : Int))) (nthD l (0 : Int).toNat fun y => nthD y.cells 0 fun c => match c with
        | D.str s => bif !decide (s = [49]) then some (Out.ret (V.d (D.bool false)), []) else LP cx K1 n 76 0 4 r [(1, V.ptr 1 0), (3, V.d (D.int IntKind.i64 (IntKind.i64.wrap (i + (1 : Int)))))] [(1, Ob.val 5 (V.d (D.agg [D.int IntKind.i64 k, D.str nm, D.sl 5 (T.ds kids), D.sl 1 (List.map D.str nms), D.int IntKind.i64 pl])))] (AK cx K1 n 76 0 4 (EK cx 76 0))
        | x => none) else none
       | x => none else LP cx K1 n 76 0 4 r [(1, V.ptr 1 0), (3, V.d (D.int IntKind.i64 (IntKind.i64.wrap (i + (1 : Int)))))] [(1, Ob.val 5 (V.d (D.agg [D.int IntKind.i64 k, D.str nm, D.sl 5 (T.ds kids), D.sl 1 (List.map D.str nms), D.int IntKind.i64 pl])))] (AK cx K1 n 76 0 4 (EK cx 76 0))
      | x => none) else none
     | x => none else none
    | x => none)
   | x => none else none
  | x => none else none
 | x => none) else some (Out.ret (V.d (D.bool true)), []) := by kernel_rfl

theorem g42 (n m : Nat) (k : Int) (nm : List UInt8) (kids : List T) (nms : List (List UInt8)) (pl : Int) : evBody cx (KQ m) n 42 [.d (.agg [.int .i64 k, .str nm, .sl 5 (T.ds kids), .sl 1 (nms.map .str), .int .i64 pl])] [] = bif decide (k = (1 : Int)) then optK (Sp.toC (D.agg [D.int IntKind.i64 k, D.str nm, D.sl 5 (T.ds kids), D.sl 1 (List.map D.str nms), D.int IntKind.i64 pl])) fun b => some (Out.ret (V.d (D.bool (Sp.form b))), []) else bif !decide (nm = []) then some (Out.ret (V.d (D.bool false)), []) else optK (Sp.ns (D.sl 1 (List.map D.str nms))) fun b => bif !b.all Sp.named then some (Out.ret (V.d (D.bool false)), []) else bif decide (k = (2 : Int)) then bif decide (k = (2 : Int)) then bif decide ((0 : Int) < (↑(List.map D.str nms).length : Int)) then bif decide ((↑(T.ds kids).length : Int) = (1 : Int)) then must (decide ((0 : Int) < (↑(T.ds kids).length : Int))) (nthD (T.ds kids) (0 : Int).toNat fun y => nthD y.cells 0 fun c => nthD y.cells 1 fun c_1 => nthD y.cells 2 fun c_2 => nthD y.cells 3 fun c_3 => nthD y.cells 4 fun c_4 => optK (Sp.toT m (D.agg [c, c_1, c_2, c_3, c_4])) fun b => some (Out.ret (V.d (D.bool (Sp.right b))), [])) else some (Out.ret (V.d (D.bool false)), []) else some (Out.ret (V.d (D.bool false)), []) else bif decide (k = (4 : Int)) then bif decide (k = (4 : Int)) then bif decide ((↑(List.map D.str nms).length : Int) < (2 : Int)) then bif decide ((↑(T.ds kids).length : Int) = (2 : Int)) then must (decide ((0 : Int) < (↑(T.ds kids).length : Int))) (nthD (T.ds kids) (0 : Int).toNat fun y => nthD y.cells 0 fun c => nthD y.cells 1 fun c_1 => nthD y.cells 2 fun c_2 => nthD y.cells 3 fun c_3 => nthD y.cells 4 fun c_4 => optK (Sp.toT m (D.agg [c, c_1, c_2, c_3, c_4])) fun b => bif Sp.right b then must (decide ((1 : Int) < (↑(T.ds kids).length : Int))) (nthD (T.ds kids) (1 : Int).toNat fun y => nthD y.cells 0 fun c => nthD y.cells 1 fun c_5 => nthD y.cells 2 fun c_6 => nthD y.cells 3 fun c_7 => nthD y.cells 4 fun c_8 => optK (Sp.toT m (D.agg [c, c_5, c_6, c_7, c_8])) fun b => some (Out.ret (V.d (D.bool (Sp.right b))), [])) else some (Out.ret (V.d (D.bool false)), [])) else some (Out.ret (V.d (D.bool false)), []) else some (Out.ret (V.d (D.bool false)), []) else bif decide (k = (6 : Int)) then bif decide (k = (6 : Int)) then bif decide ((↑(List.map D.str nms).length : Int) = (0 : Int)) then bif decide ((↑(T.ds kids).length : Int) = (2 : Int)) then must (decide ((0 : Int) < (↑(T.ds kids).length : Int))) (nthD (T.ds kids) (0 : Int).toNat fun y => nthD y.cells 0 fun c => nthD y.cells 1 fun c_1 => nthD y.cells 2 fun c_2 => nthD y.cells 3 fun c_3 => nthD y.cells 4 fun c_4 => optK (Sp.toT m (D.agg [c, c_1, c_2, c_3, c_4])) fun b => bif Sp.right b then must (decide ((1 : Int) < (↑(T.ds kids).length : Int))) (nthD (T.ds kids) (1 : Int).toNat fun y => nthD y.cells 0 fun c => nthD y.cells 1 fun c_5 => nthD y.cells 2 fun c_6 => nthD y.cells 3 fun c_7 => nthD y.cells 4 fun c_8 => optK (Sp.toT m (D.agg [c, c_5, c_6, c_7, c_8])) fun b => some (Out.ret (V.d (D.bool (Sp.right b))), [])) else some (Out.ret (V.d (D.bool false)), [])) else some (Out.ret (V.d (D.bool false)), []) else some (Out.ret (V.d (D.bool false)), []) else bif decide (k = (7 : Int)) then bif decide ((↑(List.map D.str nms).length : Int) = (0 : Int)) then bif decide ((↑(T.ds kids).length : Int) = (2 : Int)) then must (decide ((0 : Int) < (↑(T.ds kids).length : Int))) (nthD (T.ds kids) (0 : Int).toNat fun y => nthD y.cells 0 fun c => nthD y.cells 1 fun c_1 => nthD y.cells 2 fun c_2 => nthD y.cells 3 fun c_3 => nthD y.cells 4 fun c_4 => optK (Sp.toT m (D.agg [c, c_1, c_2, c_3, c_4])) fun b => bif Sp.right b then must (decide ((1 : Int) < (↑(T.ds kids).length : Int))) (nthD (T.ds kids) (1 : Int).toNat fun y => nthD y.cells 0 fun c => nthD y.cells 1 fun c_5 => nthD y.cells 2 fun c_6 => nthD y.cells 3 fun c_7 => nthD y.cells 4 fun c_8 => optK (Sp.toC (D.agg [c, c_5, c_6, c_7, c_8])) fun b => some (Out.ret (V.d (D.bool (Sp.form b))), [])) else some (Out.ret (V.d (D.bool false)), [])) else some (Out.ret (V.d (D.bool false)), []) else some (Out.ret (V.d (D.bool false)), []) else bif decide (k = (10 : Int)) then LP cx (KQ m) n 42 0 22 n [(1, V.ptr 1 0), (3, V.d (D.int IntKind.i64 (↑(List.map D.str nms).length : Int))), (4, V.d (D.int IntKind.i64 (↑(T.ds kids).length : Int))), (5, V.d (D.int IntKind.i64 (0 : Int)))] [(1, Ob.val 5 (V.d (D.agg [D.int IntKind.i64 k, D.str nm, D.sl 5 (T.ds kids), D.sl 1 (List.map D.str nms), D.int IntKind.i64 pl])))] (AK cx (KQ m) n 42 0 22 (EK cx 42 0)) else some (Out.ret (V.d (D.bool false)), []) else bif decide (k = (8 : Int)) then bif decide (k = (8 : Int)) then bif decide ((↑(List.map D.str nms).length : Int) = (0 : Int)) then bif decide ((↑(T.ds kids).length : Int) = (2 : Int)) then must (decide ((0 : Int) < (↑(T.ds kids).length : Int))) (nthD (T.ds kids) (0 : Int).toNat fun y => nthD y.cells 0 fun c => nthD y.cells 1 fun c_1 => nthD y.cells 2 fun c_2 => nthD y.cells 3 fun c_3 => nthD y.cells 4 fun c_4 => optK (Sp.toT m (D.agg [c, c_1, c_2, c_3, c_4])) fun b => bif Sp.right b then must (decide ((1 : Int) < (↑(T.ds kids).length : Int))) (nthD (T.ds kids) (1 : Int).toNat fun y => nthD y.cells 0 fun c => nthD y.cells 1 fun c_5 => nthD y.cells 2 fun c_6 => nthD y.cells 3 fun c_7 => nthD y.cells 4 fun c_8 => optK (Sp.toT m (D.agg [c, c_5, c_6, c_7, c_8])) fun b => some (Out.ret (V.d (D.bool (Sp.right b))), [])) else some (Out.ret (V.d (D.bool false)), [])) else some (Out.ret (V.d (D.bool false)), []) else some (Out.ret (V.d (D.bool false)), []) else bif decide (k = (7 : Int)) then bif decide ((↑(List.map D.str nms).length : Int) = (0 : Int)) then bif decide ((↑(T.ds kids).length : Int) = (2 : Int)) then must (decide ((0 : Int) < (↑(T.ds kids).length : Int))) (nthD (T.ds kids) (0 : Int).toNat fun y => nthD y.cells 0 fun c => nthD y.cells 1 fun c_1 => nthD y.cells 2 fun c_2 => nthD y.cells 3 fun c_3 => nthD y.cells 4 fun c_4 => optK (Sp.toT m (D.agg [c, c_1, c_2, c_3, c_4])) fun b => bif Sp.right b then must (decide ((1 : Int) < (↑(T.ds kids).length : Int))) (nthD (T.ds kids) (1 : Int).toNat fun y => nthD y.cells 0 fun c => nthD y.cells 1 fun c_5 => nthD y.cells 2 fun c_6 => nthD y.cells 3 fun c_7 => nthD y.cells 4 fun c_8 => optK (Sp.toC (D.agg [c, c_5, c_6, c_7, c_8])) fun b => some (Out.ret (V.d (D.bool (Sp.form b))), [])) else some (Out.ret (V.d (D.bool false)), [])) else some (Out.ret (V.d (D.bool false)), []) else some (Out.ret (V.d (D.bool false)), []) else bif decide (k = (10 : Int)) then LP cx (KQ m) n 42 0 22 n [(1, V.ptr 1 0), (3, V.d (D.int IntKind.i64 (↑(List.map D.str nms).length : Int))), (4, V.d (D.int IntKind.i64 (↑(T.ds kids).length : Int))), (5, V.d (D.int IntKind.i64 (0 : Int)))] [(1, Ob.val 5 (V.d (D.agg [D.int IntKind.i64 k, D.str nm, D.sl 5 (T.ds kids), D.sl 1 (List.map D.str nms), D.int IntKind.i64 pl])))] (AK cx (KQ m) n 42 0 22 (EK cx 42 0)) else some (Out.ret (V.d (D.bool false)), []) else bif decide (k = (9 : Int)) then bif decide ((↑(List.map D.str nms).length : Int) = (0 : Int)) then bif decide ((↑(T.ds kids).length : Int) = (2 : Int)) then must (decide ((0 : Int) < (↑(T.ds kids).length : Int))) (nthD (T.ds kids) (0 : Int).toNat fun y => nthD y.cells 0 fun c => nthD y.cells 1 fun c_1 => nthD y.cells 2 fun c_2 => nthD y.cells 3 fun c_3 => nthD y.cells 4 fun c_4 => optK (Sp.toT m (D.agg [c, c_1, c_2, c_3, c_4])) fun b => bif Sp.right b then must (decide ((1 : Int) < (↑(T.ds kids).length : Int))) (nthD (T.ds kids) (1 : Int).toNat fun y => nthD y.cells 0 fun c => nthD y.cells 1 fun c_5 => nthD y.cells 2 fun c_6 => nthD y.cells 3 fun c_7 => nthD y.cells 4 fun c_8 => optK (Sp.toT m (D.agg [c, c_5, c_6, c_7, c_8])) fun b => some (Out.ret (V.d (D.bool (Sp.right b))), [])) else some (Out.ret (V.d (D.bool false)), [])) else some (Out.ret (V.d (D.bool false)), []) else some (Out.ret (V.d (D.bool false)), []) else bif decide (k = (7 : Int)) then bif decide ((↑(List.map D.str nms).length : Int) = (0 : Int)) then bif decide ((↑(T.ds kids).length : Int) = (2 : Int)) then must (decide ((0 : Int) < (↑(T.ds kids).length : Int))) (nthD (T.ds kids) (0 : Int).toNat fun y => nthD y.cells 0 fun c => nthD y.cells 1 fun c_1 => nthD y.cells 2 fun c_2 => nthD y.cells 3 fun c_3 => nthD y.cells 4 fun c_4 => optK (Sp.toT m (D.agg [c, c_1, c_2, c_3, c_4])) fun b => bif Sp.right b then must (decide ((1 : Int) < (↑(T.ds kids).length : Int))) (nthD (T.ds kids) (1 : Int).toNat fun y => nthD y.cells 0 fun c => nthD y.cells 1 fun c_5 => nthD y.cells 2 fun c_6 => nthD y.cells 3 fun c_7 => nthD y.cells 4 fun c_8 => optK (Sp.toC (D.agg [c, c_5, c_6, c_7, c_8])) fun b => some (Out.ret (V.d (D.bool (Sp.form b))), [])) else some (Out.ret (V.d (D.bool false)), [])) else some (Out.ret (V.d (D.bool false)), []) else some (Out.ret (V.d (D.bool false)), []) else bif decide (k = (10 : Int)) then LP cx (KQ m) n 42 0 22 n [(1, V.ptr 1 0), (3, V.d (D.int IntKind.i64 (↑(List.map D.str nms).length : Int))), (4, V.d (D.int IntKind.i64 (↑(T.ds kids).length : Int))), (5, V.d (D.int IntKind.i64 (0 : Int)))] [(1, Ob.val 5 (V.d (D.agg [D.int IntKind.i64 k, D.str nm, D.sl 5 (T.ds kids), D.sl 1 (List.map D.str nms), D.int IntKind.i64 pl])))] (AK cx (KQ m) n 42 0 22 (EK cx 42 0)) else some (Out.ret (V.d (D.bool false)), []) else bif decide (k = (5 : Int)) then bif decide ((↑(List.map D.str nms).length : Int) < (2 : Int)) then bif decide ((↑(T.ds kids).length : Int) = (2 : Int)) then must (decide ((0 : Int) < (↑(T.ds kids).length : Int))) (nthD (T.ds kids) (0 : Int).toNat fun y => nthD y.cells 0 fun c => nthD y.cells 1 fun c_1 => nthD y.cells 2 fun c_2 => nthD y.cells 3 fun c_3 => nthD y.cells 4 fun c_4 => optK (Sp.toT m (D.agg [c, c_1, c_2, c_3, c_4])) fun b => bif Sp.right b then must (decide ((1 : Int) < (↑(T.ds kids).length : Int))) (nthD (T.ds kids) (1 : Int).toNat fun y => nthD y.cells 0 fun c => nthD y.cells 1 fun c_5 => nthD y.cells 2 fun c_6 => nthD y.cells 3 fun c_7 => nthD y.cells 4 fun c_8 => optK (Sp.toT m (D.agg [c, c_5, c_6, c_7, c_8])) fun b => some (Out.ret (V.d (D.bool (Sp.right b))), [])) else some (Out.ret (V.d (D.bool false)), [])) else some (Out.ret (V.d (D.bool false)), []) else some (Out.ret (V.d (D.bool false)), []) else bif decide (k = (6 : Int)) then bif decide (k = (6 : Int)) then bif decide ((↑(List.map D.str nms).length : Int) = (0 : Int)) then bif decide ((↑(T.ds kids).length : Int) = (2 : Int)) then must (decide ((0 : Int) < (↑(T.ds kids).length : Int))) (nthD (T.ds kids) (0 : Int).toNat fun y => nthD y.cells 0 fun c => nthD y.cells 1 fun c_1 => nthD y.cells 2 fun c_2 => nthD y.cells 3 fun c_3 => nthD y.cells 4 fun c_4 => optK (Sp.toT m (D.agg [c, c_1, c_2, c_3, c_4])) fun b => bif Sp.right b then must (decide ((1 : Int) < (↑(T.ds kids).length : Int))) (nthD (T.ds kids) (1 : Int).toNat fun y => nthD y.cells 0 fun c => nthD y.cells 1 fun c_5 => nthD y.cells 2 fun c_6 => nthD y.cells 3 fun c_7 => nthD y.cells 4 fun c_8 => optK (Sp.toT m (D.agg [c, c_5, c_6, c_7, c_8])) fun b => some (Out.ret (V.d (D.bool (Sp.right b))), [])) else some (Out.ret (V.d (D.bool false)), [])) else some (Out.ret (V.d (D.bool false)), []) else some (Out.ret (V.d (D.bool false)), []) else bif decide (k = (7 : Int)) then bif decide ((↑(List.map D.str nms).length : Int) = (0 : Int)) then bif decide ((↑(T.ds kids).length : Int) = (2 : Int)) then must (decide ((0 : Int) < (↑(T.ds kids).length : Int))) (nthD (T.ds kids) (0 : Int).toNat fun y => nthD y.cells 0 fun c => nthD y.cells 1 fun c_1 => nthD y.cells 2 fun c_2 => nthD y.cells 3 fun c_3 => nthD y.cells 4 fun c_4 => optK (Sp.toT m (D.agg [c, c_1, c_2, c_3, c_4])) fun b => bif Sp.right b then must (decide ((1 : Int) < (↑(T.ds kids).length : Int))) (nthD (T.ds kids) (1 : Int).toNat fun y => nthD y.cells 0 fun c => nthD y.cells 1 fun c_5 => nthD y.cells 2 fun c_6 => nthD y.cells 3 fun c_7 => nthD y.cells 4 fun c_8 => optK (Sp.toC (D.agg [c, c_5, c_6, c_7, c_8])) fun b => some (Out.ret (V.d (D.bool (Sp.form b))), [])) else some (Out.ret (V.d (D.bool false)), [])) else some (Out.ret (V.d (D.bool false)), []) else some (Out.ret (V.d (D.bool false)), []) else bif decide (k = (10 : Int)) then LP cx (KQ m) n 42 0 22 n [(1, V.ptr 1 0), (3, V.d (D.int IntKind.i64 (↑(List.map D.str nms).length : Int))), (4, V.d (D.int IntKind.i64 (↑(T.ds kids).length : Int))), (5, V.d (D.int IntKind.i64 (0 : Int)))] [(1, Ob.val 5 (V.d (D.agg [D.int IntKind.i64 k, D.str nm, D.sl 5 (T.ds kids), D.sl 1 (List.map D.str nms), D.int IntKind.i64 pl])))] (AK cx (KQ m) n 42 0 22 (EK cx 42 0)) else some (Out.ret (V.d (D.bool false)), []) else bif decide (k = (8 : Int)) then bif decide (k = (8 : Int)) then bif decide ((↑(List.map D.str nms).length : Int) = (0 : Int)) then bif decide ((↑(T.ds kids).length : Int) = (2 : Int)) then must (decide ((0 : Int) < (↑(T.ds kids).length : Int))) (nthD (T.ds kids) (0 : Int).toNat fun y => nthD y.cells 0 fun c => nthD y.cells 1 fun c_1 => nthD y.cells 2 fun c_2 => nthD y.cells 3 fun c_3 => nthD y.cells 4 fun c_4 => optK (Sp.toT m (D.agg [c, c_1, c_2, c_3, c_4])) fun b => bif Sp.right b then must (decide ((1 : Int) < (↑(T.ds kids).length : Int))) (nthD (T.ds kids) (1 : Int).toNat fun y => nthD y.cells 0 fun c => nthD y.cells 1 fun c_5 => nthD y.cells 2 fun c_6 => nthD y.cells 3 fun c_7 => nthD y.cells 4 fun c_8 => optK (Sp.toT m (D.agg [c, c_5, c_6, c_7, c_8])) fun b => some (Out.ret (V.d (D.bool (Sp.right b))), [])) else some (Out.ret (V.d (D.bool false)), [])) else some (Out.ret (V.d (D.bool false)), []) else some (Out.ret (V.d (D.bool false)), []) else bif decide (k = (7 : Int)) then bif decide ((↑(List.map D.str nms).length : Int) = (0 : Int)) then bif decide ((↑(T.ds kids).length : Int) = (2 : Int)) then must (decide ((0 : Int) < (↑(T.ds kids).length : Int))) (nthD (T.ds kids) (0 : Int).toNat fun y => nthD y.cells 0 fun c => nthD y.cells 1 fun c_1 => nthD y.cells 2 fun c_2 => nthD y.cells 3 fun c_3 => nthD y.cells 4 fun c_4 => optK (Sp.toT m (D.agg [c, c_1, c_2, c_3, c_4])) fun b => bif Sp.right b then must (decide ((1 : Int) < (↑(T.ds kids).length : Int))) (nthD (T.ds kids) (1 : Int).toNat fun y => nthD y.cells 0 fun c => nthD y.cells 1 fun c_5 => nthD y.cells 2 fun c_6 => nthD y.cells 3 fun c_7 => nthD y.cells 4 fun c_8 => optK (Sp.toC (D.agg [c, c_5, c_6, c_7, c_8])) fun b => some (Out.ret (V.d (D.bool (Sp.form b))), [])) else some (Out.ret (V.d (D.bool false)), [])) else some (Out.ret (V.d (D.bool false)), []) else some (Out.ret (V.d (D.bool false)), []) else bif decide (k = (10 : Int)) then LP cx (KQ m) n 42 0 22 n [(1, V.ptr 1 0), (3, V.d (D.int IntKind.i64 (↑(List.map D.str nms).length : Int))), (4, V.d (D.int IntKind.i64 (↑(T.ds kids).length : Int))), (5, V.d (D.int IntKind.i64 (0 : Int)))] [(1, Ob.val 5 (V.d (D.agg [D.int IntKind.i64 k, D.str nm, D.sl 5 (T.ds kids), D.sl 1 (List.map D.str nms), D.int IntKind.i64 pl])))] (AK cx (KQ m) n 42 0 22 (EK cx 42 0)) else some (Out.ret (V.d (D.bool false)), []) else bif decide (k = (9 : Int)) then bif decide ((↑(List.map D.str nms).length : Int) = (0 : Int)) then bif decide ((↑(T.ds kids).length : Int) = (2 : Int)) then must (decide ((0 : Int) < (↑(T.ds kids).length : Int))) (nthD (T.ds kids) (0 : Int).toNat fun y => nthD y.cells 0 fun c => nthD y.cells 1 fun c_1 => nthD y.cells 2 fun c_2 => nthD y.cells 3 fun c_3 => nthD y.cells 4 fun c_4 => optK (Sp.toT m (D.agg [c, c_1, c_2, c_3, c_4])) fun b => bif Sp.right b then must (decide ((1 : Int) < (↑(T.ds kids).length : Int))) (nthD (T.ds kids) (1 : Int).toNat fun y => nthD y.cells 0 fun c => nthD y.cells 1 fun c_5 => nthD y.cells 2 fun c_6 => nthD y.cells 3 fun c_7 => nthD y.cells 4 fun c_8 => optK (Sp.toT m (D.agg [c, c_5, c_6, c_7, c_8])) fun b => some (Out.ret (V.d (D.bool (Sp.right b))), [])) else some (Out.ret (V.d (D.bool false)), [])) else some (Out.ret (V.d (D.bool false)), []) else some (Out.ret (V.d (D.bool false)), []) else bif decide (k = (7 : Int)) then bif decide ((↑(List.map D.str nms).length : Int) = (0 : Int)) then bif decide ((↑(T.ds kids).length : Int) = (2 : Int)) then must (decide ((0 : Int) < (↑(T.ds kids).length : Int))) (nthD (T.ds kids) (0 : Int).toNat fun y => nthD y.cells 0 fun c => nthD y.cells 1 fun c_1 => nthD y.cells 2 fun c_2 => nthD y.cells 3 fun c_3 => nthD y.cells 4 fun c_4 => optK (Sp.toT m (D.agg [c, c_1, c_2, c_3, c_4])) fun b => bif Sp.right b then must (decide ((1 : Int) < (↑(T.ds kids).length : Int))) (nthD (T.ds kids) (1 : Int).toNat fun y => nthD y.cells 0 fun c => nthD y.cells 1 fun c_5 => nthD y.cells 2 fun c_6 => nthD y.cells 3 fun c_7 => nthD y.cells 4 fun c_8 => optK (Sp.toC (D.agg [c, c_5, c_6, c_7, c_8])) fun b => some (Out.ret (V.d (D.bool (Sp.form b))), [])) else some (Out.ret (V.d (D.bool false)), [])) else some (Out.ret (V.d (D.bool false)), []) else some (Out.ret (V.d (D.bool false)), []) else bif decide (k = (10 : Int)) then LP cx (KQ m) n 42 0 22 n [(1, V.ptr 1 0), (3, V.d (D.int IntKind.i64 (↑(List.map D.str nms).length : Int))), (4, V.d (D.int IntKind.i64 (↑(T.ds kids).length : Int))), (5, V.d (D.int IntKind.i64 (0 : Int)))] [(1, Ob.val 5 (V.d (D.agg [D.int IntKind.i64 k, D.str nm, D.sl 5 (T.ds kids), D.sl 1 (List.map D.str nms), D.int IntKind.i64 pl])))] (AK cx (KQ m) n 42 0 22 (EK cx 42 0)) else some (Out.ret (V.d (D.bool false)), []) else bif decide (k = (3 : Int)) then bif decide ((0 : Int) < (↑(List.map D.str nms).length : Int)) then bif decide ((↑(T.ds kids).length : Int) = (1 : Int)) then must (decide ((0 : Int) < (↑(T.ds kids).length : Int))) (nthD (T.ds kids) (0 : Int).toNat fun y => nthD y.cells 0 fun c => nthD y.cells 1 fun c_1 => nthD y.cells 2 fun c_2 => nthD y.cells 3 fun c_3 => nthD y.cells 4 fun c_4 => optK (Sp.toT m (D.agg [c, c_1, c_2, c_3, c_4])) fun b => some (Out.ret (V.d (D.bool (Sp.right b))), [])) else some (Out.ret (V.d (D.bool false)), []) else some (Out.ret (V.d (D.bool false)), []) else bif decide (k = (4 : Int)) then bif decide (k = (4 : Int)) then bif decide ((↑(List.map D.str nms).length : Int) < (2 : Int)) then bif decide ((↑(T.ds kids).length : Int) = (2 : Int)) then must (decide ((0 : Int) < (↑(T.ds kids).length : Int))) (nthD (T.ds kids) (0 : Int).toNat fun y => nthD y.cells 0 fun c => nthD y.cells 1 fun c_1 => nthD y.cells 2 fun c_2 => nthD y.cells 3 fun c_3 => nthD y.cells 4 fun c_4 => optK (Sp.toT m (D.agg [c, c_1, c_2, c_3, c_4])) fun b => bif Sp.right b then must (decide ((1 : Int) < (↑(T.ds kids).length : Int))) (nthD (T.ds kids) (1 : Int).toNat fun y => nthD y.cells 0 fun c => nthD y.cells 1 fun c_5 => nthD y.cells 2 fun c_6 => nthD y.cells 3 fun c_7 => nthD y.cells 4 fun c_8 => optK (Sp.toT m (D.agg [c, c_5, c_6, c_7, c_8])) fun b => some (Out.ret (V.d (D.bool (Sp.right b))), [])) else some (Out.ret (V.d (D.bool false)), [])) else some (Out.ret (V.d (D.bool false)), []) else some (Out.ret (V.d (D.bool false)), []) else bif decide (k = (6 : Int)) then bif decide (k = (6 : Int)) then bif decide ((↑(List.map D.str nms).length : Int) = (0 : Int)) then bif decide ((↑(T.ds kids).length : Int) = (2 : Int)) then must (decide ((0 : Int) < (↑(T.ds kids).length : Int))) (nthD (T.ds kids) (0 : Int).toNat fun y => nthD y.cells 0 fun c => nthD y.cells 1 fun c_1 => nthD y.cells 2 fun c_2 => nthD y.cells 3 fun c_3 => nthD y.cells 4 fun c_4 => optK (Sp.toT m (D.agg [c, c_1, c_2, c_3, c_4])) fun b => bif Sp.right b then must (decide ((1 : Int) < (↑(T.ds kids).length : Int))) (nthD (T.ds kids) (1 : Int).toNat fun y => nthD y.cells 0 fun c => nthD y.cells 1 fun c_5 => nthD y.cells 2 fun c_6 => nthD y.cells 3 fun c_7 => nthD y.cells 4 fun c_8 => optK (Sp.toT m (D.agg [c, c_5, c_6, c_7, c_8])) fun b => some (Out.ret (V.d (D.bool (Sp.right b))), [])) else some (Out.ret (V.d (D.bool false)), [])) else some (Out.ret (V.d (D.bool false)), []) else some (Out.ret (V.d (D.bool false)), []) else bif decide (k = (7 : Int)) then bif decide ((↑(List.map D.str nms).length : Int) = (0 : Int)) then bif decide ((↑(T.ds kids).length : Int) = (2 : Int)) then must (decide ((0 : Int) < (↑(T.ds kids).length : Int))) (nthD (T.ds kids) (0 : Int).toNat fun y => nthD y.cells 0 fun c => nthD y.cells 1 fun c_1 => nthD y.cells 2 fun c_2 => nthD y.cells 3 fun c_3 => nthD y.cells 4 fun c_4 => optK (Sp.toT m (D.agg [c, c_1, c_2, c_3, c_4])) fun b => bif Sp.right b then must (decide ((1 : Int) < (↑(T.ds kids).length : Int))) (nthD (T.ds kids) (1 : Int).toNat fun y => nthD y.cells 0 fun c => nthD y.cells 1 fun c_5 => nthD y.cells 2 fun c_6 => nthD y.cells 3 fun c_7 => nthD y.cells 4 fun c_8 => optK (Sp.toC (D.agg [c, c_5, c_6, c_7, c_8])) fun b => some (Out.ret (V.d (D.bool (Sp.form b))), [])) else some (Out.ret (V.d (D.bool false)), [])) else some (Out.ret (V.d (D.bool false)), []) else some (Out.ret (V.d (D.bool false)), []) else bif decide (k = (10 : Int)) then LP cx (KQ m) n 42 0 22 n [(1, V.ptr 1 0), (3, V.d (D.int IntKind.i64 (↑(List.map D.str nms).length : Int))), (4, V.d (D.int IntKind.i64 (↑(T.ds kids).length : Int))), (5, V.d (D.int IntKind.i64 (0 : Int)))] [(1, Ob.val 5 (V.d (D.agg [D.int IntKind.i64 k, D.str nm, D.sl 5 (T.ds kids), D.sl 1 (List.map D.str nms), D.int IntKind.i64 pl])))] (AK cx (KQ m) n 42 0 22 (EK cx 42 0)) else some (Out.ret (V.d (D.bool false)), []) else bif decide (k = (8 : Int)) then bif decide (k = (8 : Int)) then bif decide ((↑(List.map D.str nms).length : Int) = (0 : Int)) then bif decide ((↑(T.ds kids).length : Int) = (2 : Int)) then must (decide ((0 : Int) < (↑(T.ds kids).length : Int))) (nthD (T.ds kids) (0 : Int).toNat fun y => nthD y.cells 0 fun c => nthD y.cells 1 fun c_1 => nthD y.cells 2 fun c_2 => nthD y.cells 3 fun c_3 => nthD y.cells 4 fun c_4 => optK (Sp.toT m (D.agg [c, c_1, c_2, c_3, c_4])) fun b => bif Sp.right b then must (decide ((1 : Int) < (↑(T.ds kids).length : Int))) (nthD (T.ds kids) (1 : Int).toNat fun y => nthD y.cells 0 fun c => nthD y.cells 1 fun c_5 => nthD y.cells 2 fun c_6 => nthD y.cells 3 fun c_7 => nthD y.cells 4 fun c_8 => optK (Sp.toT m (D.agg [c, c_5, c_6, c_7, c_8])) fun b => some (Out.ret (V.d (D.bool (Sp.right b))), [])) else some (Out.ret (V.d (D.bool false)), [])) else some (Out.ret (V.d (D.bool false)), []) else some (Out.ret (V.d (D.bool false)), []) else bif decide (k = (7 : Int)) then bif decide ((↑(List.map D.str nms).length : Int) = (0 : Int)) then bif decide ((↑(T.ds kids).length : Int) = (2 : Int)) then must (decide ((0 : Int) < (↑(T.ds kids).length : Int))) (nthD (T.ds kids) (0 : Int).toNat fun y => nthD y.cells 0 fun c => nthD y.cells 1 fun c_1 => nthD y.cells 2 fun c_2 => nthD y.cells 3 fun c_3 => nthD y.cells 4 fun c_4 => optK (Sp.toT m (D.agg [c, c_1, c_2, c_3, c_4])) fun b => bif Sp.right b then must (decide ((1 : Int) < (↑(T.ds kids).length : Int))) (nthD (T.ds kids) (1 : Int).toNat fun y => nthD y.cells 0 fun c => nthD y.cells 1 fun c_5 => nthD y.cells 2 fun c_6 => nthD y.cells 3 fun c_7 => nthD y.cells 4 fun c_8 => optK (Sp.toC (D.agg [c, c_5, c_6, c_7, c_8])) fun b => some (Out.ret (V.d (D.bool (Sp.form b))), [])) else some (Out.ret (V.d (D.bool false)), [])) else some (Out.ret (V.d (D.bool false)), []) else some (Out.ret (V.d (D.bool false)), []) else bif decide (k = (10 : Int)) then LP cx (KQ m) n 42 0 22 n [(1, V.ptr 1 0), (3, V.d (D.int IntKind.i64 (↑(List.map D.str nms).length : Int))), (4, V.d (D.int IntKind.i64 (↑(T.ds kids).length : Int))), (5, V.d (D.int IntKind.i64 (0 : Int)))] [(1, Ob.val 5 (V.d (D.agg [D.int IntKind.i64 k, D.str nm, D.sl 5 (T.ds kids), D.sl 1 (List.map D.str nms), D.int IntKind.i64 pl])))] (AK cx (KQ m) n 42 0 22 (EK cx 42 0)) else some (Out.ret (V.d (D.bool false)), []) else bif decide (k = (9 : Int)) then bif decide ((↑(List.map D.str nms).length : Int) = (0 : Int)) then bif decide ((↑(T.ds kids).length : Int) = (2 : Int)) then must (decide ((0 : Int) < (↑(T.ds kids).length : Int))) (nthD (T.ds kids) (0 : Int).toNat fun y => nthD y.cells 0 fun c => nthD y.cells 1 fun c_1 => nthD y.cells 2 fun c_2 => nthD y.cells 3 fun c_3 => nthD y.cells 4 fun c_4 => optK (Sp.toT m (D.agg [c, c_1, c_2, c_3, c_4])) fun b => bif Sp.right b then must (decide ((1 : Int) < (↑(T.ds kids).length : Int))) (nthD (T.ds kids) (1 : Int).toNat fun y => nthD y.cells 0 fun c => nthD y.cells 1 fun c_5 => nthD y.cells 2 fun c_6 => nthD y.cells 3 fun c_7 => nthD y.cells 4 fun c_8 => optK (Sp.toT m (D.agg [c, c_5, c_6, c_7, c_8])) fun b => some (Out.ret (V.d (D.bool (Sp.right b))), [])) else some (Out.ret (V.d (D.bool false)), [])) else some (Out.ret (V.d (D.bool false)), []) else some (Out.ret (V.d (D.bool false)), []) else bif decide (k = (7 : Int)) then bif decide ((↑(List.map D.str nms).length : Int) = (0 : Int)) then bif decide ((↑(T.ds kids).length : Int) = (2 : Int)) then must (decide ((0 : Int) < (↑(T.ds kids).length : Int))) (nthD (T.ds kids) (0 : Int).toNat fun y => nthD y.cells 0 fun c => nthD y.cells 1 fun c_1 => nthD y.cells 2 fun c_2 => nthD y.cells 3 fun c_3 => nthD y.cells 4 fun c_4 => optK (Sp.toT m (D.agg [c, c_1, c_2, c_3, c_4])) fun b => bif Sp.right b then must (decide ((1 : Int) < (↑(T.ds kids).length : Int))) (nthD (T.ds kids) (1 : Int).toNat fun y => nthD y.cells 0 fun c => nthD y.cells 1 fun c_5 => nthD y.cells 2 fun c_6 => nthD y.cells 3 fun c_7 => nthD y.cells 4 fun c_8 => optK (Sp.toC (D.agg [c, c_5, c_6, c_7, c_8])) fun b => some (Out.ret (V.d (D.bool (Sp.form b))), [])) else some (Out.ret (V.d (D.bool false)), [])) else some (Out.ret (V.d (D.bool false)), []) else some (Out.ret (V.d (D.bool false)), []) else bif decide (k = (10 : Int)) then LP cx (KQ m) n 42 0 22 n [(1, V.ptr 1 0), (3, V.d (D.int IntKind.i64 (↑(List.map D.str nms).length : Int))), (4, V.d (D.int IntKind.i64 (↑(T.ds kids).length : Int))), (5, V.d (D.int IntKind.i64 (0 : Int)))] [(1, Ob.val 5 (V.d (D.agg [D.int IntKind.i64 k, D.str nm, D.sl 5 (T.ds kids), D.sl 1 (List.map D.str nms), D.int IntKind.i64 pl])))] (AK cx (KQ m) n 42 0 22 (EK cx 42 0)) else some (Out.ret (V.d (D.bool false)), []) else bif decide (k = (5 : Int)) then bif decide ((↑(List.map D.str nms).length : Int) < (2 : Int)) then bif decide ((↑(T.ds kids).length : Int) = (2 : Int)) then must (decide ((0 : Int) < (↑(T.ds kids).length : Int))) (nthD (T.ds kids) (0 : Int).toNat fun y => nthD y.cells 0 fun c => nthD y.cells 1 fun c_1 => nthD y.cells 2 fun c_2 => nthD y.cells 3 fun c_3 => nthD y.cells 4 fun c_4 => optK (Sp.toT m (D.agg [c, c_1, c_2, c_3, c_4])) fun b => bif Sp.right b then must (decide ((1 : Int) < (↑(T.ds kids).length : Int))) (nthD (T.ds kids) (1 : Int).toNat fun y => nthD y.cells 0 fun c => nthD y.cells 1 fun c_5 => nthD y.cells 2 fun c_6 => nthD y.cells 3 fun c_7 => nthD y.cells 4 fun c_8 => optK (Sp.toT m (D.agg [c, c_5, c_6, c_7, c_8])) fun b => some (Out.ret (V.d (D.bool (Sp.right b))), [])) else some (Out.ret (V.d (D.bool false)), [])) else some (Out.ret (V.d (D.bool false)), []) else some (Out.ret (V.d (D.bool false)), []) else bif decide (k = (6 : Int)) then bif decide (k = (6 : Int)) then bif decide ((↑(List.map D.str nms).length : Int) = (0 : Int)) then bif decide ((↑(T.ds kids).length : Int) = (2 : Int)) then must (decide ((0 : Int) < (↑(T.ds kids).length : Int))) (nthD (T.ds kids) (0 : Int).toNat fun y => nthD y.cells 0 fun c => nthD y.cells 1 fun c_1 => nthD y.cells 2 fun c_2 => nthD y.cells 3 fun c_3 => nthD y.cells 4 fun c_4 => optK (Sp.toT m (D.agg [c, c_1, c_2, c_3, c_4])) fun b => bif Sp.right b then must (decide ((1 : Int) < (↑(T.ds kids).length : Int))) (nthD (T.ds kids) (1 : Int).toNat fun y => nthD y.cells 0 fun c => nthD y.cells 1 fun c_5 => nthD y.cells 2 fun c_6 => nthD y.cells 3 fun c_7 => nthD y.cells 4 fun c_8 => optK (Sp.toT m (D.agg [c, c_5, c_6, c_7, c_8])) fun b => some (Out.ret (V.d (D.bool (Sp.right b))), [])) else some (Out.ret (V.d (D.bool false)), [])) else some (Out.ret (V.d (D.bool false)), []) else some (Out.ret (V.d (D.bool false)), []) else bif decide (k = (7 : Int)) then bif decide ((↑(List.map D.str nms).length : Int) = (0 : Int)) then bif decide ((↑(T.ds kids).length : Int) = (2 : Int)) then must (decide ((0 : Int) < (↑(T.ds kids).length : Int))) (nthD (T.ds kids) (0 : Int).toNat fun y => nthD y.cells 0 fun c => nthD y.cells 1 fun c_1 => nthD y.cells 2 fun c_2 => nthD y.cells 3 fun c_3 => nthD y.cells 4 fun c_4 => optK (Sp.toT m (D.agg [c, c_1, c_2, c_3, c_4])) fun b => bif Sp.right b then must (decide ((1 : Int) < (↑(T.ds kids).length : Int))) (nthD (T.ds kids) (1 : Int).toNat fun y => nthD y.cells 0 fun c => nthD y.cells 1 fun c_5 => nthD y.cells 2 fun c_6 => nthD y.cells 3 fun c_7 => nthD y.cells 4 fun c_8 => optK (Sp.toC (D.agg [c, c_5, c_6, c_7, c_8])) fun b => some (Out.ret (V.d (D.bool (Sp.form b))), [])) else some (Out.ret (V.d (D.bool false)), [])) else some (Out.ret (V.d (D.bool false)), []) else some (Out.ret (V.d (D.bool false)), []) else bif decide (k = (10 : Int)) then LP cx (KQ m) n 42 0 22 n [(1, V.ptr 1 0), (3, V.d (D.int IntKind.i64 (↑(List.map D.str nms).length : Int))), (4, V.d (D.int IntKind.i64 (↑(T.ds kids).length : Int))), (5, V.d (D.int IntKind.i64 (0 : Int)))] [(1, Ob.val 5 (V.d (D.agg [D.int IntKind.i64 k, D.str nm, D.sl 5 (T.ds kids), D.sl 1 (List.map D.str nms), D.int IntKind.i64 pl])))] (AK cx (KQ m) n 42 0 22 (EK cx 42 0)) else some (Out.ret (V.d (D.bool false)), []) else bif decide (k = (8 : Int)) then bif decide (k = (8 : Int)) then bif decide ((↑(List.map D.str nms).length : Int) = (0 : Int)) then bif decide ((↑(T.ds kids).length : Int) = (2 : Int)) then must (decide ((0 : Int) < (↑(T.ds kids).length : Int))) (nthD (T.ds kids) (0 : Int).toNat fun y => nthD y.cells 0 fun c => nthD y.cells 1 fun c_1 => nthD y.cells 2 fun c_2 => nthD y.cells 3 fun c_3 => nthD y.cells 4 fun c_4 => optK (Sp.toT m (D.agg [c, c_1, c_2, c_3, c_4])) fun b => bif Sp.right b then must (decide ((1 : Int) < (↑(T.ds kids).length : Int))) (nthD (T.ds kids) (1 : Int).toNat fun y => nthD y.cells 0 fun c => nthD y.cells 1 fun c_5 => nthD y.cells 2 fun c_6 => nthD y.cells 3 fun c_7 => nthD y.cells 4 fun c_8 => optK (Sp.toT m (D.agg [c, c_5, c_6, c_7, c_8])) fun b => some (Out.ret (V.d (D.bool (Sp.right b))), [])) else some (Out.ret (V.d (D.bool false)), [])) else some (Out.ret (V.d (D.bool false)), []) else some (Out.ret (V.d (D.bool false)), []) else bif decide (k = (7 : Int)) then bif decide ((↑(List.map D.str nms).length : Int) = (0 : Int)) then bif decide ((↑(T.ds kids).length : Int) = (2 : Int)) then must (decide ((0 : Int) < (↑(T.ds kids).length : Int))) (nthD (T.ds kids) (0 : Int).toNat fun y => nthD y.cells 0 fun c => nthD y.cells 1 fun c_1 => nthD y.cells 2 fun c_2 => nthD y.cells 3 fun c_3 => nthD y.cells 4 fun c_4 => optK (Sp.toT m (D.agg [c, c_1, c_2, c_3, c_4])) fun b => bif Sp.right b then must (decide ((1 : Int) < (↑(T.ds kids).length : Int))) (nthD (T.ds kids) (1 : Int).toNat fun y => nthD y.cells 0 fun c => nthD y.cells 1 fun c_5 => nthD y.cells 2 fun c_6 => nthD y.cells 3 fun c_7 => nthD y.cells 4 fun c_8 => optK (Sp.toC (D.agg [c, c_5, c_6, c_7, c_8])) fun b => some (Out.ret (V.d (D.bool (Sp.form b))), [])) else some (Out.ret (V.d (D.bool false)), [])) else some (Out.ret (V.d (D.bool false)), []) else some (Out.ret (V.d (D.bool false)), []) else bif decide (k = (10 : Int)) then LP cx (KQ m) n 42 0 22 n [(1, V.ptr 1 0), (3, V.d (D.int IntKind.i64 (↑(List.map D.str nms).length : Int))), (4, V.d (D.int IntKind.i64 (↑(T.ds kids).length : Int))), (5, V.d (D.int IntKind.i64 (0 : Int)))] [(1, Ob.val 5 (V.d (D.agg [D.int IntKind.i64 k, D.str nm, D.sl 5 (T.ds kids), D.sl 1 (List.map D.str nms), D.int IntKind.i64 pl])))] (AK cx (KQ m) n 42 0 22 (EK cx 42 0)) else some (Out.ret (V.d (D.bool false)), []) else bif decide (k = (9 : Int)) then bif decide ((↑(List.map D.str nms).length : Int) = (0 : Int)) then bif decide ((↑(T.ds kids).length : Int) = (2 : Int)) then must (decide ((0 : Int) < (↑(T.ds kids).length : Int))) (nthD (T.ds kids) (0 : Int).toNat fun y => nthD y.cells 0 fun c => nthD y.cells 1 fun c_1 => nthD y.cells 2 fun c_2 => nthD y.cells 3 fun c_3 => nthD y.cells 4 fun c_4 => optK (Sp.toT m (D.agg [c, c_1, c_2, c_3, c_4])) fun b => bif Sp.right b then must (decide ((1 : Int) < (↑(T.ds kids).length : Int))) (nthD (T.ds kids) (1 : Int).toNat fun y => nthD y.cells 0 fun c => nthD y.cells 1 fun c_5 => nthD y.cells 2 fun c_6 => nthD y.cells 3 fun c_7 => nthD y.cells 4 fun c_8 => optK (Sp.toT m (D.agg [c, c_5, c_6, c_7, c_8])) fun b => some (Out.ret (V.d (D.bool (Sp.right b))), [])) else some (Out.ret (V.d (D.bool false)), [])) else some (Out.ret (V.d (D.bool false)), []) else some (Out.ret (V.d (D.bool false)), []) else bif decide (k = (7 : Int)) then bif decide ((↑(List.map D.str nms).length : Int) = (0 : Int)) then bif decide ((↑(T.ds kids).length : Int) = (2 : Int)) then must (decide ((0 : Int) < (↑(T.ds kids).length : Int))) (nthD (T.ds kids) (0 : Int).toNat fun y => nthD y.cells 0 fun c => nthD y.cells 1 fun c_1 => nthD y.cells 2 fun c_2 => nthD y.cells 3 fun c_3 => nthD y.cells 4 fun c_4 => optK (Sp.toT m (D.agg [c, c_1, c_2, c_3, c_4])) fun b => bif Sp.right b then must (decide ((1 : Int) < (↑(T.ds kids).length : Int))) (nthD (T.ds kids) (1 : Int).toNat fun y => nthD y.cells 0 fun c => nthD y.cells 1 fun c_5 => nthD y.cells 2 fun c_6 => nthD y.cells 3 fun c_7 => nthD y.cells 4 fun c_8 => optK (Sp.toC (D.agg [c, c_5, c_6, c_7, c_8])) fun b => some (Out.ret (V.d (D.bool (Sp.form b))), [])) else some (Out.ret (V.d (D.bool false)), [])) else some (Out.ret (V.d (D.bool false)), []) else some (Out.ret (V.d (D.bool false)), []) else bif decide (k = (10 : Int)) then LP cx (KQ m) n 42 0 22 n [(1, V.ptr 1 0), (3, V.d (D.int IntKind.i64 (↑(List.map D.str nms).length : Int))), (4, V.d (D.int IntKind.i64 (↑(T.ds kids).length : Int))), (5, V.d (D.int IntKind.i64 (0 : Int)))] [(1, Ob.val 5 (V.d (D.agg [D.int IntKind.i64 k, D.str nm, D.sl 5 (T.ds kids), D.sl 1 (List.map D.str nms), D.int IntKind.i64 pl])))] (AK cx (KQ m) n 42 0 22 (EK cx 42 0)) else some (Out.ret (V.d (D.bool false)), []) := by kernel_rfl

theorem l42 (n m r : Nat) (k a : Int) (nm : List UInt8) (kids : List T) (nms : List (List UInt8)) (pl i : Int) : LP cx (KQ m) n 42 0 22 (r + 1) [(1, V.ptr 1 0), (3, V.d (D.int IntKind.i64 a)), (4, V.d (D.int IntKind.i64 (kids.length : Int))), (5, V.d (D.int IntKind.i64 i))] [(1, Ob.val 5 (V.d (D.agg [D.int IntKind.i64 k, D.str nm, D.sl 5 (T.ds kids), D.sl 1 (List.map D.str nms), D.int IntKind.i64 pl])))] (AK cx (KQ m) n 42 0 22 (EK cx 42 0)) = bif decide (i < (↑kids.length : Int)) then must (decide (0 ≤ i) && decide (i < (↑(T.ds kids).length : Int))) (nthD (T.ds kids) i.toNat fun y => nthD y.cells 0 fun c => nthD y.cells 1 fun c_1 => nthD y.cells 2 fun c_2 => nthD y.cells 3 fun c_3 => nthD y.cells 4 fun c_4 => match c with
 | D.int k' n_1 => bif decide (k' = IntKind.i64) then bif !decide (n_1 = (11 : Int)) then some (Out.ret (V.d (D.bool false)), []) else match c_1 with
  | D.str s => bif !decide (s = []) then some (Out.ret (V.d (D.bool false)), []) else match c_3 with
   | D.sl s l => bif s.beq (cx.P.cellsOf 9) || l.isEmpty then bif decide ((0 : Int) < (↑l.length : Int)) then some (Out.ret (V.d (D.bool false)), []) else match c_2 with
    | D.sl s l => bif s.beq (cx.P.cellsOf 26) || l.isEmpty then bif decide ((↑l.length : Int) < (1 : Int)) then some (Out.ret (V.d (D.bool false)), []) else match c_2 with
     | D.sl s l => bif s.beq (cx.P.cellsOf 26) || l.isEmpty then bif decide ((2 : Int) < (↑l.length : Int)) then some (Out.ret (V.d (D.bool false)), []) else match c_2 with
      | D.sl s l => bif s.beq (cx.P.cellsOf 26) || l.isEmpty then must (decide ((0 : Int) < (↑l.length : Int))) (nthD l (0 : Int).toNat fun y => nthD y.cells 0 fun c => nthD y.cells 1 fun c_5 => nthD y.cells 2 fun c_6 => nthD y.cells 3 fun c_7 => nthD y.cells 4 fun c_8 => optK (Sp.toC (D.agg [c, c_5, c_6, c_7, c_8])) fun b => bif !Sp.faceB b then some (Out.ret (V.d (D.bool false)), []) else match c_2 with
       | D.sl s l => bif s.beq (cx.P.cellsOf 26) || l.isEmpty then bif decide ((↑l.length : Int) = (2 : Int)) then match c_2 with
        | D.sl s l => bif s.beq (cx.P.cellsOf 26) || l.isEmpty then must (decide ((1 : Int) < (↑l.length : Int))) (nthD l (1 : Int).toNat fun y => nthD y.cells 0 fun c => nthD y.cells 1 fun c_9 => nthD y.cells 2 fun c_10 => nthD y.cells 3 fun c_11 => nthD y.cells 4 fun c_12 => optK (Sp.toT m (D.agg [c, c_9, c_10, c_11, c_12])) fun b => bif !Sp.right b then some (Out.ret (V.d (D.bool false)), []) else LP cx (KQ m) n 42 0 22 r [(1, V.ptr 1 0), (3, V.d (D.int IntKind.i64 a)), (4, V.d (D.int IntKind.i64 (↑kids.length : Int))), (5, V.d (D.int IntKind.i64 (IntKind.i64.wrap (i + Int.ofNat 1))))] [(1, Ob.val 5 (V.d (D.agg [D.int IntKind.i64 k, D.str nm, D.sl 5 (T.ds kids), D.sl 1 (List.map D.str nms), D.int IntKind.i64 pl])))] (AK cx (KQ m) n 42 0 22 (EK cx 42 0))) else none
        | x => none else LP cx (KQ m) n 42 0 22 r [(1, V.ptr 1 0), (3, V.d (D.int IntKind.i64 a)), (4, V.d (D.int IntKind.i64 (↑kids.length : Int))), (5, V.d (D.int IntKind.i64 (IntKind.i64.wrap (i + (1 : Int)))))] [(1, Ob.val 5 (V.d (D.agg [D.int IntKind.i64 k, D.str nm, D.sl 5 (T.ds kids), D.sl 1 (List.map D.str nms), D.int IntKind.i64 pl])))] (AK cx (KQ m) n 42 0 22 (EK cx 42 0)) else none
       | x => none) else none
      | x => none else none
     | x => none else none
    | x => none else none
   | x => none
  | x => none else none
 | x => none) else some (Out.ret (V.d (D.bool (decide (a = (0 : Int))))), []) := by kernel_rfl

theorem lim74 : ∀ (m : Nat) (t : T), t.depth ≤ m → t.ok = true → evLim cx 74 [.d t.d] [] = some (.ret (mkB (Sp.form t)), [])
  | 0, .mk .., h, _ => by simp [T.depth] at h
  | m + 1, .mk k nm kids nms pl, hd, ho => by
    have hK : knows cx (pureK 74 decD (Sp.toT m) (fun t => mkB (Sp.form t)) K1).S (evLim cx) := pureK_knows K1_knows fun a q b _ h hb => by
      obtain rfl := decD_some h
      obtain ⟨rfl, h1, h2⟩ := toT_some hb
      exact lim74 m b h1 h2
    obtain ⟨h1, h2, h3, h4, h5⟩ := ok_inv ho
    have hkd := depth_inv hd
    refine lim_bodyK hK (N := 0) ?_
    refine (g74 0 m k nm kids nms pl).trans ?_
    have hT : ∀ t ∈ kids, Sp.toT m t.d = some t := fun t h => kid_toT hkd h5 h
    simp only [optK, ds_len, List.length_map, shrt_big h1, must, cond_true, nthD_ds, cells_d, nth0, nth1, nth2, nth3, nth4, agg_d, lenZ, lenO, lenT, lenP, lenP1]
    clear hK ho hd
    have hk : k = 1 ∨ k = 17 ∨ k = 16 ∨ k = 15 ∨ k = 14 ∨ (k ≠ 1 ∧ k ≠ 17 ∧ k ≠ 16 ∧ k ≠ 15 ∧ k ≠ 14) := by omega
    rcases hk with rfl | rfl | rfl | rfl | rfl | ⟨q1, q2, q3, q4, q5⟩ <;> rcases kids with _ | ⟨a, _ | ⟨b, _ | ⟨c, l⟩⟩⟩ <;> rcases nms with _ | ⟨x, nms⟩ <;> simp [Sp.form, mkB, Sp.bit, hT, cond_and, cond_or, Bool.and_assoc, *]

theorem spl9 : Nat.beq 1 (cx.P.cellsOf 9) = true := by kernel_rfl
theorem spl26 : Nat.beq 5 (cx.P.cellsOf 26) = true := by kernel_rfl

theorem lim76 (t : T) (ho : t.ok = true) : evLim cx 76 [.d t.d] [] = some (.ret (mkB (Sp.faceB t)), []) := by
  obtain ⟨k, nm, kids, nms, pl⟩ := t
  obtain ⟨h1, h2, h3, h4, h5⟩ := ok_inv ho
  refine lim_bodyK K1_knows (N := kids.length + 1) ?_
  refine (g76 (kids.length + 1) k nm kids nms pl).trans ?_
  have h := find_loop0 (fun r i => LP cx K1 (kids.length + 1) 76 0 4 r [(1, V.ptr 1 0), (3, V.d (D.int IntKind.i64 i))] [(1, Ob.val 5 (V.d (D.agg [D.int IntKind.i64 k, D.str nm, D.sl 5 (T.ds kids), D.sl 1 (List.map D.str nms), D.int IntKind.i64 pl])))] (AK cx K1 (kids.length + 1) 76 0 4 (EK cx 76 0)))
    kids (fun t => !Sp.eqn t) (fun j => some (Out.ret (V.d (D.bool false)), [])) (some (Out.ret (V.d (D.bool true)), [])) (shrt_lt h2)
    (fun r j x hj hx => by
      rw [l76, ds_len, lt_nat hj, nn_nat, nthD_ds, Int.toNat_natCast, hx]
      obtain ⟨q1, q2, q3, q4, q5⟩ : shrt x.nm = true ∧ shrt x.kids = true ∧ shrt x.nms = true ∧ x.nms.all shrt = true ∧ T.oks x.kids = true := by
        have := oks_mem h5 (List.mem_of_getElem? hx)
        cases x; exact ok_inv this
      generalize LP cx K1 (kids.length + 1) 76 0 4 r _ _ _ = Z
      obtain ⟨k', nm', kids', nms', pl'⟩ := x
      simp only [nm_mk, kids_mk, nms_mk] at q1 q2 q3 q4 q5
      simp only [cond_true, must, optK, Bool.and_self, cells_d, nth0, nth1, nth2, nth3, nth4, k_mk, nm_mk, kids_mk, nms_mk, pl_mk, decide_true, spl9, spl26, Bool.true_or, ds_len, List.length_map, lenP, lenO, lenZ, nthD_strs, shrt_big q1]
      have hk : k' = 13 ∨ k' ≠ 13 := by omega
      rcases hk with rfl | hk <;> rcases kids' with _ | ⟨a, kids'⟩ <;> rcases nms' with _ | ⟨y, _ | ⟨z, nms'⟩⟩ <;> simp [Sp.eqn, Sp.bit, nth0, D.cells, *]
      cases Sp.named nm' <;> cases decide (y = [48]) <;> cases decide (y = [49]) <;> rfl) (fun r => by rw [l76, ds_len, ge_nat, cond_false]) (k := kids.length + 1) (by omega)
  rw [h, List.length_map, lenP]
  have e : kids.all Sp.eqn = !(kids.any fun s => !Sp.eqn s) := by rw [List.not_any_eq_all_not]; simp
  simp only [mkB, Sp.faceB, e, ← findN_any kids 0]
  cases Sp.findN (fun t => !Sp.eqn t) kids 0 <;> rcases nms with _ | ⟨x, nms⟩ <;> simp [cond_and]

theorem K8_knows : knows cx K8.S (evLim cx) := by
  have h75 := pureK_knows (f := 75) (dec := decD) (sp := Sp.ns) (mk := fun l => mkB (l.all Sp.named)) K1_knows fun a q b hd h hb => by
    obtain rfl := decD_some h
    obtain ⟨rfl, h1, h2⟩ := ns_some hb
    exact lim75 b h1 h2
  have h76 := pureK_knows (f := 76) (dec := decD) (sp := Sp.toC) (mk := fun t => mkB (Sp.faceB t)) h75 fun a q b hd h hb => by
    obtain rfl := decD_some h
    obtain ⟨rfl, h1⟩ := toC_some hb
    exact lim76 b h1
  exact pureK_knows h76 fun a q b hd h hb => by
    obtain rfl := decD_some h
    obtain ⟨rfl, h1⟩ := toC_some hb
    exact lim74 b.depth b (Nat.le_refl _) h1

noncomputable abbrev L42 (m n r : Nat) (k a : Int) (nm : List UInt8) (kids : List T) (nms : List (List UInt8)) (pl i : Int) : Option R1 :=
  LP cx (KQ m) n 42 0 22 r [(1, V.ptr 1 0), (3, V.d (D.int IntKind.i64 a)), (4, V.d (D.int IntKind.i64 (kids.length : Int))), (5, V.d (D.int IntKind.i64 i))] [(1, Ob.val 5 (V.d (D.agg [D.int IntKind.i64 k, D.str nm, D.sl 5 (T.ds kids), D.sl 1 (List.map D.str nms), D.int IntKind.i64 pl])))] (AK cx (KQ m) n 42 0 22 (EK cx 42 0))

theorem loop42 {m : Nat} {k : Int} {nm : List UInt8} {kids : List T} {nms : List (List UInt8)} {pl : Int} (h2 : shrt kids = true) (h5 : T.oks kids = true) (hkd : T.depths kids ≤ m) (a : Int) (N : Nat) (hN : kids.length < N) :
    L42 m N N k a nm kids nms pl 0 = some (.ret (mkB (decide (a = 0) && kids.all Sp.elem)), []) := by
  have h := find_loop0 (fun r i => L42 m N r k a nm kids nms pl i)
    kids (fun t => !Sp.elem t) (fun j => some (Out.ret (V.d (D.bool false)), [])) (some (Out.ret (V.d (D.bool (decide (a = 0)))), [])) (shrt_lt h2)
    (fun r j x hj hx => by
      simp only [L42]
      rw [l42, ds_len, lt_nat hj, nn_nat, nthD_ds, Int.toNat_natCast, hx]
      have hxm := List.mem_of_getElem? hx
      obtain ⟨q1, q2, q3, q4, q5⟩ : shrt x.nm = true ∧ shrt x.kids = true ∧ shrt x.nms = true ∧ x.nms.all shrt = true ∧ T.oks x.kids = true := by
        have := oks_mem h5 hxm
        cases x; exact ok_inv this
      have hdx : T.depths x.kids ≤ m := by
        have := depth_mem hxm
        cases x; simp only [T.depth] at this; simp only [T.kids]; omega
      have hT : ∀ t ∈ x.kids, Sp.toT m t.d = some t := fun t h => kid_toT hdx q5 h
      have hC : ∀ t ∈ x.kids, Sp.toC t.d = some t := fun t h => kid_toC q5 h
      generalize LP cx (KQ m) N 42 0 22 r _ _ _ = Z
      obtain ⟨k', nm', kids', nms', pl'⟩ := x
      simp only [nm_mk, kids_mk, nms_mk] at q1 q2 q3 q4 q5 hT hC hdx
      simp only [cond_true, must, optK, Bool.and_self, cells_d, nth0, nth1, nth2, nth3, nth4, k_mk, nm_mk, kids_mk, nms_mk, pl_mk, decide_true, spl9, spl26, Bool.true_or, ds_len, List.length_map, lenP, lenP1, lenO, lenT, lenZ, nthD_ds, agg_d]
      have hk : k' = 11 ∨ k' ≠ 11 := by omega
      rcases hk with rfl | hk <;> rcases kids' with _ | ⟨b, _ | ⟨c, _ | ⟨d, l⟩⟩⟩ <;> rcases nms' with _ | ⟨y, nms'⟩ <;> simp [Sp.elem, hT, hC, *]
      · cases decide (nm' = []) <;> cases Sp.faceB b <;> rfl
      · cases decide (nm' = []) <;> cases Sp.faceB b <;> cases Sp.right c <;> rfl
      · rw [decide_eq_false (p := (l.length : Int) + 1 + 1 + 1 < 1) (by omega), decide_eq_true (p := (2 : Int) < (l.length : Int) + 1 + 1 + 1) (by omega)]
        cases decide (nm' = []) <;> rfl) (fun r => by rw [L42, l42, ge_nat, cond_false]) (k := N) hN
  rw [h]
  have e : kids.all Sp.elem = !(kids.any fun s => !Sp.elem s) := by rw [List.not_any_eq_all_not]; simp
  simp only [mkB, e, ← findN_any kids 0]
  cases Sp.findN (fun t => !Sp.elem t) kids 0 <;> simp

theorem lim42 : ∀ (m : Nat) (t : T), t.depth ≤ m → t.ok = true → evLim cx 42 [.d t.d] [] = some (.ret (mkB (Sp.right t)), [])
  | 0, .mk .., h, _ => by simp [T.depth] at h
  | m + 1, .mk k nm kids nms pl, hd, ho => by
    have hQ : knows cx (KQ m).S (evLim cx) := pureK_knows K8_knows fun a q b _ h hb => by
      obtain rfl := decD_some h
      obtain ⟨rfl, h1, h2⟩ := toT_some hb
      exact lim42 m b h1 h2
    obtain ⟨h1, h2, h3, h4, h5⟩ := ok_inv ho
    have hkd := depth_inv hd
    refine lim_bodyK hQ (N := kids.length + 1) ?_
    refine (g42 (kids.length + 1) m k nm kids nms pl).trans ?_
    have hC : Sp.toC (D.agg [D.int IntKind.i64 k, D.str nm, D.sl 5 (T.ds kids), D.sl 1 (List.map D.str nms), D.int IntKind.i64 pl]) = some (.mk k nm kids nms pl) := toC_d ho
    have hT : ∀ t ∈ kids, Sp.toT m t.d = some t := fun t h => kid_toT hkd h5 h
    have hTC : ∀ t ∈ kids, Sp.toC t.d = some t := fun t h => kid_toC h5 h
    have hL := loop42 (k := k) (nm := nm) (nms := nms) (pl := pl) h2 h5 hkd (nms.length : Int) (kids.length + 1) (by omega)
    simp only [L42] at hL
    simp only [hC, ns_of h3 h4, optK, ds_len, List.length_map, shrt_big h1, must, cond_true, nthD_ds, cells_d, nth0, nth1, nth2, nth3, nth4, agg_d, lenZ, lenO, lenT, lenP, lenP1, decide_true, Bool.and_true, hL]
    clear hL hC hQ ho hd
    have hk : k = 1 ∨ k = 2 ∨ k = 3 ∨ k = 4 ∨ k = 5 ∨ k = 6 ∨ k = 7 ∨ k = 8 ∨ k = 9 ∨ k = 10 ∨ (k ≠ 1 ∧ k ≠ 2 ∧ k ≠ 3 ∧ k ≠ 4 ∧ k ≠ 5 ∧ k ≠ 6 ∧ k ≠ 7 ∧ k ≠ 8 ∧ k ≠ 9 ∧ k ≠ 10) := by omega
    rcases hk with rfl | rfl | rfl | rfl | rfl | rfl | rfl | rfl | rfl | rfl | ⟨q1, q2, q3, q4, q5, q6, q7, q8, q9, q10⟩
    all_goals simp only [*, Int.reduceEq, decide_true, decide_false, cond_true, cond_false]
    all_goals rcases kids with _ | ⟨a, _ | ⟨b, _ | ⟨c, l⟩⟩⟩
    all_goals rcases nms with _ | ⟨x, _ | ⟨y, nms⟩⟩
    all_goals simp [Sp.right, Sp.form, mkB, hT, hTC, cond_and, cond_or, cond_nand, Bool.and_assoc, List.not_any_eq_all_not, elems_all]
    all_goals first | (simp [*]; done) | (rw [decide_eq_false (p := ((nms.length : Int) + 1 + 1 < 2)) (by omega), decide_eq_false (p := nms.length + 1 + 1 < 2) (by omega)]; simp)
end Go.Vai
end

section
namespace Go.Vai
open Go.Proofs

/-- The printer, with some bytes in it; it may have printed none. -/
def adV : Bool → V | true => .ptr 0 0 | false => .d .nilptr
def psS (u : Bool) (L : List D) : St := [(0, .val 76546051 (.agg [adV u, .sl 6291457 L 1, .d (.bool false)])), (1, .tok L.length)]
def Sp.app (L : List D) (s : List UInt8) : List D := L ++ s.map fun b => .int .u8 b.toNat
def Sp.room (L : List D) (s : List UInt8) : Bool := decide (L.length + s.length ≤ 65536)
def Sp.fit (n : Nat) (L : List D) : Bool := decide (n = L.length)
theorem fit_self (L : List D) : Sp.fit L.length L = true := decide_eq_true rfl
theorem app_app (L : List D) (s t : List UInt8) : Sp.app (Sp.app L s) t = Sp.app L (s ++ t) := by simp [Sp.app]
theorem app_len (L : List D) (s : List UInt8) : (Sp.app L s).length = L.length + s.length := by simp [Sp.app]
theorem room_app {L : List D} {s t : List UInt8} (h : Sp.room L (s ++ t) = true) : Sp.room L s = true ∧ Sp.room (Sp.app L s) t = true := by
  simp only [Sp.room, decide_eq_true_eq, List.length_append, app_len] at h ⊢
  omega

def catS : List D → Option (List UInt8)
  | [] => some []
  | .str s :: r => (match catS r with | some t => some (s ++ t) | none => none)
  | _ :: _ => none

/-- The printer, ahead of a call. -/
def psD : St → Option (List D × Nat)
  | [(0, .val 76546051 (.agg [.ptr 0 0, .sl 6291457 L 1, .d (.bool false)])), (1, .tok n)] => some (L, n)
  | [(0, .val 76546051 (.agg [.d .nilptr, .sl 6291457 L 1, .d (.bool false)])), (1, .tok n)] => some (L, n)
  | _ => none
theorem psD_some {σ : St} {L : List D} {n : Nat} (h : psD σ = some (L, n)) (hn : Sp.fit n L = true) : ∃ u, σ = psS u L := by
  simp only [Sp.fit, decide_eq_true_eq] at hn
  subst hn
  unfold psD at h
  split at h
  · cases h; exact ⟨true, rfl⟩
  · cases h; exact ⟨false, rfl⟩
  · cases h

/-- A function that prints a text, of its arguments' data. -/
def prK {α : Type} (f : Nat) (dec : List V → Option α) (sp : α → Option (List UInt8)) (S : CK R1) : CK R1 :=
  more f (fun a σ => match dec a, psD σ with | some q, some p => some (q, p) | _, _ => none)
    (fun K q => match q with | (x, L, n) => optK (sp x) fun s => must (Sp.fit n L) (must (Sp.room L s) (K (.ret (.tup [])) (psS true (Sp.app L s)))))
    (fun K q => by
      obtain ⟨x, L, n⟩ := q
      simp only
      rw [optP_optK]
      congr 1
      funext s
      simp only [must, optP_cond]
      rfl) S
theorem prK_knows {α : Type} {f : Nat} {dec : List V → Option α} {sp : α → Option (List UInt8)} {S : CK R1} (hS : knows cx S.S (evLim cx))
    (hf : ∀ a q s u L, dec a = some q → sp q = some s → Sp.room L s = true → evLim cx f a (psS u L) = some (.ret (.tup []), psS true (Sp.app L s))) : knows cx (prK f dec sp S).S (evLim cx) :=
  more_knows hS fun a σ q r hd h => by
    obtain ⟨q, L, n⟩ := q
    simp only at hd h
    split at hd
    · rename_i q' p hq hp
      cases hd
      obtain ⟨s, hs, h⟩ := optK_some h
      obtain ⟨h1, h⟩ := must_some h
      obtain ⟨h2, h⟩ := must_some h
      cases h
      obtain ⟨u, rfl⟩ := psD_some hp h1
      exact hf a q s u L hq hs h2
    · cases hd

theorem g66 (n : Nat) (S : CK R1) (L : List D) : evBody cx S n 66 [.ptr 0 0] (psS true L) = some (Out.ret (V.d (D.int IntKind.i64 (↑L.length : Int))), [(0, Ob.val 76546051 (V.agg [V.ptr 0 0, V.sl 6291457 L 1, V.d (D.bool false)])), (1, Ob.tok L.length)]) := by kernel_rfl

theorem g89 (n : Nat) (S : CK R1) (L : List D) : evBody cx S n 89 [.ptr 0 0] (psS true L) = some (Out.ret (V.tup []), [(0, Ob.val 76546051 (V.agg [V.ptr 0 0, V.sl 6291457 L 1, V.d (D.bool false)])), (1, Ob.tok L.length)]) := by kernel_rfl

theorem g89f (n : Nat) (S : CK R1) (L : List D) : evBody cx S n 89 [.ptr 0 0] (psS false L) = some (Out.ret (V.tup []), [(0, Ob.val 76546051 (V.agg [V.ptr 0 0, V.sl 6291457 L 1, V.d (D.bool false)])), (1, Ob.tok L.length)]) := by kernel_rfl

theorem g66f (n : Nat) (S : CK R1) (L : List D) : evBody cx S n 66 [.ptr 0 0] (psS false L) = some (.ret (.d (.int .i64 L.length)), psS false L) := by kernel_rfl

def decO : List V → Option Unit | [.ptr 0 0] => some () | _ => none
theorem decO_some {a : List V} {x} (h : decO a = some x) : a = [.ptr 0 0] := by
  unfold decO at h
  split at h
  · rfl
  · cases h
def decOS : List V → Option (List UInt8) | [.ptr 0 0, .d (.str s)] => some s | _ => none
theorem decOS_some {a : List V} {s} (h : decOS a = some s) : a = [.ptr 0 0, .d (.str s)] := by
  unfold decOS at h
  split at h
  · cases h; rfl
  · cases h
/-- The copy check. -/
def K89 : CK R1 := more 89 (fun a σ => match decO a, psD σ with | some _, some p => some p | _, _ => none) (fun K q => match q with | (L, n) => must (Sp.fit n L) (K (.ret (.tup [])) (psS true L)))
    (fun K q => by obtain ⟨L, n⟩ := q; simp only [must, optP_cond]; rfl) (CK.plain none1)
theorem K89_knows : knows cx K89.S (evLim cx) := more_knows none1K_knows fun a σ q r hd h => by
  obtain ⟨L, n⟩ := q
  simp only at hd h
  split at hd
  · rename_i p ha hp
    cases hd
    obtain ⟨h1, h⟩ := must_some h
    cases h
    obtain rfl := decO_some ha
    obtain ⟨u, rfl⟩ := psD_some hp h1
    refine lim_bodyK none1K_knows (N := 0) ?_
    cases u
    · exact g89f 0 _ L
    · exact g89 0 _ L
  · cases hd
end Go.Vai
end

section
namespace Go.Vai
open Go.Proofs

theorem g67 (n : Nat) (L : List D) (s : List UInt8) : evBody cx K89 n 67 [.ptr 0 0, .d (.str s)] (psS true L) = must (Sp.fit L.length L) (must (decide (L.length = L.length) && decide (L.length + (List.map (fun b => D.int IntKind.u8 (↑b.toNat : Int)) s).length ≤ 4294967296)) (some (Out.ret (V.tup [V.d (D.int IntKind.i64 (↑s.length : Int)), V.d D.nilIface]), [(0, Ob.val 76546051 (V.agg [V.ptr 0 0, V.sl 6291457 (L ++ List.map (fun b => D.int IntKind.u8 (↑b.toNat : Int)) s) 1, V.d (D.bool false)])), (1, Ob.tok (L.length + (List.map (fun b => D.int IntKind.u8 (↑b.toNat : Int)) s).length))]))) := by kernel_rfl

theorem g67f (n : Nat) (L : List D) (s : List UInt8) : evBody cx K89 n 67 [.ptr 0 0, .d (.str s)] (psS false L) = must (Sp.fit L.length L) (must (decide (L.length = L.length) && decide (L.length + (List.map (fun b => D.int IntKind.u8 (↑b.toNat : Int)) s).length ≤ 4294967296)) (some (Out.ret (V.tup [V.d (D.int IntKind.i64 (↑s.length : Int)), V.d D.nilIface]), [(0, Ob.val 76546051 (V.agg [V.ptr 0 0, V.sl 6291457 (L ++ List.map (fun b => D.int IntKind.u8 (↑b.toNat : Int)) s) 1, V.d (D.bool false)])), (1, Ob.tok (L.length + (List.map (fun b => D.int IntKind.u8 (↑b.toNat : Int)) s).length))]))) := by kernel_rfl

noncomputable def K67 : CK R1 := more 67 (fun a σ => match decOS a, psD σ with | some s, some p => some (s, p) | _, _ => none)
    (fun K q => match q with | (s, L, n) => must (Sp.fit n L) (must (Sp.room L s) (K (.ret (.tup [.d (.int .i64 s.length), .d .nilIface])) (psS true (Sp.app L s)))))
    (fun K q => by obtain ⟨s, L, n⟩ := q; simp only [must, optP_cond]; rfl)
  (more 66 (fun a σ => match decO a, psD σ with | some _, some p => some (p, σ) | _, _ => none) (fun K q => match q with | ((L, n), σ) => must (Sp.fit n L) (K (.ret (.d (.int .i64 L.length))) σ))
    (fun K q => by obtain ⟨⟨L, n⟩, σ⟩ := q; simp only [must, optP_cond]; rfl) (CK.plain none1))

theorem lim67 (u : Bool) (L : List D) (s : List UInt8) (h : Sp.room L s = true) : evLim cx 67 [.ptr 0 0, .d (.str s)] (psS u L) = some (.ret (.tup [.d (.int .i64 s.length), .d .nilIface]), psS true (Sp.app L s)) := by
  have h1 : decide (L.length + (List.map (fun b : UInt8 => D.int IntKind.u8 (b.toNat : Int)) s).length ≤ 4294967296) = true := decide_eq_true (by simp only [Sp.room, decide_eq_true_eq] at h; rw [List.length_map]; omega)
  have e : (Sp.app L s).length = L.length + (List.map (fun b : UInt8 => D.int IntKind.u8 (b.toNat : Int)) s).length := by simp [Sp.app]
  refine lim_bodyK K89_knows (N := 0) ?_
  cases u
  · rw [g67f, h1]
    simp only [fit_self, must, cond_true, decide_true, Bool.and_self]
    rw [psS, e]; rfl
  · rw [g67, h1]
    simp only [fit_self, must, cond_true, decide_true, Bool.and_self]
    rw [psS, e]; rfl

theorem K67_knows : knows cx K67.S (evLim cx) := by
  have h66 : knows cx (more 66 (fun a σ => match decO a, psD σ with | some _, some p => some (p, σ) | _, _ => none) (fun K q => match q with | ((L, n), σ) => must (Sp.fit n L) (K (.ret (.d (.int .i64 L.length))) σ))
    (fun K q => by obtain ⟨⟨L, n⟩, σ⟩ := q; simp only [must, optP_cond]; rfl) (CK.plain none1)).S (evLim cx) := more_knows none1K_knows fun a σ q r hd h => by
    obtain ⟨⟨L, n⟩, τ⟩ := q
    simp only at hd h
    split at hd
    · rename_i p ha hp
      cases hd
      obtain ⟨h1, h⟩ := must_some h
      cases h
      obtain rfl := decO_some ha
      obtain ⟨u, rfl⟩ := psD_some hp h1
      refine lim_bodyK none1K_knows (N := 0) ?_
      cases u
      · exact g66f 0 _ _
      · exact g66 0 _ _
    · cases hd
  exact more_knows h66 fun a σ q r hd h => by
    obtain ⟨s, L, n⟩ := q
    simp only at hd h
    split at hd
    · rename_i s' p ha hp
      cases hd
      obtain ⟨h1, h⟩ := must_some h
      obtain ⟨h2, h⟩ := must_some h
      cases h
      obtain rfl := decOS_some ha
      obtain ⟨u, rfl⟩ := psD_some hp h1
      exact lim67 u L s h2
    · cases hd
end Go.Vai
end

section
namespace Go.Vai
open Go.Proofs

theorem g38 (n : Nat) (L : List D) (l : List D) : evBody cx K67 n 38 [.ptr 0 0, .d (.sl 1 l)] (psS true L) = LP cx K67 n 38 2 1 n [(0, V.ptr 0 0), (6, V.d (D.sl 1 l)), (7, V.d (D.int IntKind.i64 (↑l.length : Int))), (8, V.d (D.int IntKind.i64 (0 : Int)))] [(0, Ob.val 76546051 (V.agg [V.ptr 0 0, V.sl 6291457 L 1, V.d (D.bool false)])), (1, Ob.tok L.length)] (AK cx K67 n 38 2 1 (EK cx 38 2)) := by kernel_rfl

theorem g38f (n : Nat) (L : List D) (l : List D) : evBody cx K67 n 38 [.ptr 0 0, .d (.sl 1 l)] (psS false L) = LP cx K67 n 38 2 1 n [(0, V.ptr 0 0), (6, V.d (D.sl 1 l)), (7, V.d (D.int IntKind.i64 (↑l.length : Int))), (8, V.d (D.int IntKind.i64 (0 : Int)))] [(0, Ob.val 76546051 (V.agg [V.d D.nilptr, V.sl 6291457 L 1, V.d (D.bool false)])), (1, Ob.tok L.length)] (AK cx K67 n 38 2 1 (EK cx 38 2)) := by kernel_rfl

theorem l38 (n k : Nat) (L : List D) (l : List (List UInt8)) (i : Int) : LP cx K67 n 38 2 1 (k + 1) [(0, .ptr 0 0), (6, .d (.sl 1 (l.map .str))), (7, .d (.int .i64 (l.length : Int))), (8, .d (.int .i64 i))] (psS true L) (AK cx K67 n 38 2 1 (EK cx 38 2)) = bif decide (i < (↑l.length : Int)) then must (decide (0 ≤ i) && decide (i < (↑(List.map D.str l).length : Int))) (nthD (List.map D.str l) i.toNat fun y => nthD y.cells 0 fun c => match c with
 | D.str s => must (Sp.fit L.length L) (bif decide ((65536 : Int) < IntKind.i64.wrap ((↑L.length : Int) + (↑s.length : Int))) then some (Out.ret (V.tup []), [(0, Ob.val 76546051 (V.agg [V.ptr 0 0, V.sl 6291457 L 1, V.d (D.bool true)])), (1, Ob.tok L.length)]) else must (Sp.fit L.length L) (must (Sp.room L s) (LP cx K67 n 38 2 1 k [(0, V.ptr 0 0), (6, V.d (D.sl 1 (List.map D.str l))), (7, V.d (D.int IntKind.i64 (↑l.length : Int))), (8, V.d (D.int IntKind.i64 (IntKind.i64.wrap (i + (1 : Int)))))] [(0, Ob.val 76546051 (V.agg [V.ptr 0 0, V.sl 6291457 (Sp.app L s) 1, V.d (D.bool false)])), (1, Ob.tok (Sp.app L s).length)] (AK cx K67 n 38 2 1 (EK cx 38 2)))))
 | x => none) else some (Out.ret (V.tup []), [(0, Ob.val 76546051 (V.agg [V.ptr 0 0, V.sl 6291457 L 1, V.d (D.bool false)])), (1, Ob.tok L.length)]) := by kernel_rfl

theorem l38f (n k : Nat) (L : List D) (l : List (List UInt8)) (i : Int) : LP cx K67 n 38 2 1 (k + 1) [(0, .ptr 0 0), (6, .d (.sl 1 (l.map .str))), (7, .d (.int .i64 (l.length : Int))), (8, .d (.int .i64 i))] (psS false L) (AK cx K67 n 38 2 1 (EK cx 38 2)) = bif decide (i < (↑l.length : Int)) then must (decide (0 ≤ i) && decide (i < (↑(List.map D.str l).length : Int))) (nthD (List.map D.str l) i.toNat fun y => nthD y.cells 0 fun c => match c with
 | D.str s => must (Sp.fit L.length L) (bif decide ((65536 : Int) < IntKind.i64.wrap ((↑L.length : Int) + (↑s.length : Int))) then some (Out.ret (V.tup []), [(0, Ob.val 76546051 (V.agg [V.d D.nilptr, V.sl 6291457 L 1, V.d (D.bool true)])), (1, Ob.tok L.length)]) else must (Sp.fit L.length L) (must (Sp.room L s) (LP cx K67 n 38 2 1 k [(0, V.ptr 0 0), (6, V.d (D.sl 1 (List.map D.str l))), (7, V.d (D.int IntKind.i64 (↑l.length : Int))), (8, V.d (D.int IntKind.i64 (IntKind.i64.wrap (i + (1 : Int)))))] [(0, Ob.val 76546051 (V.agg [V.ptr 0 0, V.sl 6291457 (Sp.app L s) 1, V.d (D.bool false)])), (1, Ob.tok (Sp.app L s).length)] (AK cx K67 n 38 2 1 (EK cx 38 2)))))
 | x => none) else some (Out.ret (V.tup []), [(0, Ob.val 76546051 (V.agg [V.d D.nilptr, V.sl 6291457 L 1, V.d (D.bool false)])), (1, Ob.tok L.length)]) := by kernel_rfl

theorem app_nil (L : List D) : Sp.app L [] = L := by simp [Sp.app]
theorem room_dec {L : List D} {s : List UInt8} (h : Sp.room L s = true) : decide ((65536 : Int) < IntKind.i64.wrap ((L.length : Int) + (s.length : Int))) = false := by
  simp only [Sp.room, decide_eq_true_eq] at h
  rw [IntWalk.i64_in _ (by omega)]
  exact decide_eq_false (by omega)

noncomputable abbrev L38 (n k : Nat) (u : Bool) (L : List D) (l : List (List UInt8)) (i : Int) : Option R1 :=
  LP cx K67 n 38 2 1 k [(0, .ptr 0 0), (6, .d (.sl 1 (l.map .str))), (7, .d (.int .i64 (l.length : Int))), (8, .d (.int .i64 i))] (psS u L) (AK cx K67 n 38 2 1 (EK cx 38 2))

theorem loop38 (n : Nat) (l : List (List UInt8)) (hl : l.length < 4294967296) : ∀ (r : List (List UInt8)) (j k : Nat) (u : Bool) (L : List D), l.drop j = r → j ≤ l.length → r.length < k → Sp.room L r.flatten = true →
    L38 n k u L l j = some (.ret (.tup []), psS (u || !r.isEmpty) (Sp.app L r.flatten))
  | [], j, k, u, L, hd, hj, hk, hr => by
    obtain ⟨k, rfl⟩ : ∃ i, k = i + 1 := ⟨k - 1, by omega⟩
    have : l.length ≤ j := by simpa using hd
    obtain rfl : j = l.length := by omega
    simp only [L38, List.flatten_nil, app_nil]
    cases u
    · rw [l38f, ge_nat]; rfl
    · rw [l38, ge_nat]; rfl
  | s :: r, j, k, u, L, hd, hj, hk, hr => by
    obtain ⟨k, rfl⟩ : ∃ i, k = i + 1 := ⟨k - 1, by omega⟩
    obtain ⟨h1, h2, h3⟩ := at_drop hd
    rw [List.flatten_cons] at hr
    obtain ⟨hr1, hr2⟩ := room_app hr
    have ih := loop38 n l hl r (j + 1) k true (Sp.app L s) h3 h1 (by simp at hk; omega) hr2
    simp only [L38, Bool.true_or] at ih
    have e : psS true (Sp.app (Sp.app L s) r.flatten) = psS (u || !(s :: r).isEmpty) (Sp.app L (s :: r).flatten) := by
      rw [app_app, List.flatten_cons]; cases u <;> rfl
    rw [← e]
    simp only [L38]
    cases u
    · rw [l38f, List.length_map, lt_nat h1, nn_nat, nthD_strs, Int.toNat_natCast, h2, up_short h1 hl]
      simp only [cond_true, must, optK, Bool.and_self, D.cells, nth0, fit_self, room_dec hr1, cond_false, hr1]
      exact ih
    · rw [l38, List.length_map, lt_nat h1, nn_nat, nthD_strs, Int.toNat_natCast, h2, up_short h1 hl]
      simp only [cond_true, must, optK, Bool.and_self, D.cells, nth0, fit_self, room_dec hr1, cond_false, hr1]
      exact ih

theorem lim38 (u : Bool) (L : List D) (l : List (List UInt8)) (hl : l.length < 4294967296) (hne : l ≠ []) (hr : Sp.room L l.flatten = true) :
    evLim cx 38 [.ptr 0 0, .d (.sl 1 (l.map .str))] (psS u L) = some (.ret (.tup []), psS true (Sp.app L l.flatten)) := by
  have h := loop38 (l.length + 1) l hl l 0 (l.length + 1) u L rfl (Nat.zero_le _) (by omega) hr
  simp only [L38] at h
  have e : (u || !l.isEmpty) = true := by cases l; exact absurd rfl hne; cases u <;> rfl
  rw [e] at h
  refine lim_bodyK K67_knows (N := l.length + 1) ?_
  cases u
  · rw [g38f, List.length_map]; exact h
  · rw [g38, List.length_map]; exact h

theorem catS_some : ∀ {l : List D} {s : List UInt8}, catS l = some s → ∃ m : List (List UInt8), l = m.map .str ∧ s = m.flatten
  | [], s, h => by cases h; exact ⟨[], rfl, rfl⟩
  | x :: r, s, h => by
    unfold catS at h
    split at h
    · rename_i he; cases he
    · rename_i t q he
      cases he
      split at h
      · rename_i u hu
        cases h
        obtain ⟨m, rfl, rfl⟩ := catS_some hu
        exact ⟨t :: m, rfl, rfl⟩
      · cases h
    · cases h

/-- A few texts. -/
def decPut : List V → Option (List D) | [.ptr 0 0, .d (.sl 1 (a :: l))] => bif Nat.ble l.length 100 then some (a :: l) else none | _ => none
theorem decPut_some {a : List V} {l} (h : decPut a = some l) : a = [.ptr 0 0, .d (.sl 1 l)] ∧ l ≠ [] ∧ l.length < 4294967296 := by
  unfold decPut at h
  split at h
  · rename_i x r
    cases hc : Nat.ble r.length 100 <;> rw [hc] at h
    · cases h
    · cases h
      have := Nat.le_of_ble_eq_true hc
      exact ⟨rfl, by simp, by simp; omega⟩
  · cases h
noncomputable def K38 : CK R1 := prK 38 decPut catS (CK.plain none1)
theorem K38_knows : knows cx K38.S (evLim cx) := prK_knows none1K_knows fun a q s u L h hs hr => by
  obtain ⟨rfl, h1, h2⟩ := decPut_some h
  obtain ⟨m, rfl, rfl⟩ := catS_some hs
  exact lim38 u L m (by simpa using h2) (by intro e; rw [e] at h1; exact h1 rfl) hr

/-- The library's Join. -/
def Sp.joinS (l : List (List UInt8)) (sep : List UInt8) : List UInt8 := Lib.join l sep
def decJ : List V → Option (D × List UInt8) | [.d x, .d (.str s)] => some (x, s) | _ => none
def Sp.nsS (q : D × List UInt8) : Option (List (List UInt8) × List UInt8) := match Sp.ns q.1 with | some l => bif decide ((Lib.join l q.2).length ≤ 140737488355328) then some (l, q.2) else none | none => none
theorem lim90 (l : List (List UInt8)) (sep : List UInt8) (h1 : shrt l = true) (h2 : (Lib.join l sep).length ≤ 140737488355328) : evLim cx 90 [.d (.sl 1 (l.map .str)), .d (.str sep)] [] = some (.ret (.d (.str (Sp.joinS l sep))), []) := by
  refine lim_of (n := 1) ?_
  have e : cx.nat 90 [.d (.sl 1 (l.map .str)), .d (.str sep)] [] = some (.ret (.d (.str (Lib.join l sep))), []) := by
    have e0 : cx.nat 90 [.d (.sl 1 (l.map .str)), .d (.str sep)] [] = natJoin [.d (.sl 1 (l.map .str)), .d (.str sep)] [] := by kernel_rfl
    rw [e0]
    simp only [natJoin, strsX_map, optK]
    rw [decide_eq_true h2, decide_eq_true (by have := shrt_lt h1; omega)]
    rfl
  show evWith cx (evFun cx 0) 0 90 _ [] = _
  unfold evWith
  rw [e]
  rfl
noncomputable def K90 : CK R1 := pureK 90 decJ Sp.nsS (fun q => mkS (Sp.joinS q.1 q.2)) K38
theorem K90_knows : knows cx K90.S (evLim cx) := pureK_knows K38_knows fun a q b hd h hb => by
  obtain ⟨x, s⟩ := q
  unfold decJ at h
  split at h
  · cases h
    unfold Sp.nsS at hb
    split at hb
    · rename_i l hl
      simp only at hl hb
      cases hc : decide ((Lib.join l s).length ≤ 140737488355328) <;> rw [hc] at hb
      · cases hb
      · cases hb
        obtain ⟨rfl, h1, h2⟩ := ns_some hl
        exact lim90 l s h1 (of_decide_eq_true hc)
    · cases hb
  · cases h
end Go.Vai
end

section
namespace Go.Vai
open Go.Proofs

def Sp.brk (b : Bool) (s : List UInt8) : List UInt8 := bif b then [40] ++ s ++ [41] else s
def Sp.cls (k : Int) : Int := bif decide (k = 2) || decide (k = 3) || decide (k = 4) || decide (k = 5) then 0 else bif decide (k = 6) || decide (k = 7) then 1 else 2
def Sp.rnk (k : Int) : Int := bif decide (k = 14) then 0 else bif decide (k = 15) then 1 else 2
def Sp.at (l : List (List UInt8)) (i : Nat) : List UInt8 := l.getD i []
mutual
/-- A formula's text, without its brackets. -/
def Sp.fmb : T → List UInt8
  | .mk k nm kids _ _ => bif decide (k = 16) then [126] ++ Sp.at (Sp.fms kids 2) 0 else bif decide (k = 15) then Sp.at (Sp.fms kids 1) 0 ++ [32, 47, 92, 32] ++ Sp.at (Sp.fms kids 2) 1
      else bif decide (k = 14) then Sp.at (Sp.fms kids 0) 0 ++ [32, 92, 47, 32] ++ Sp.at (Sp.fms kids 1) 1 else nm
def Sp.fms : List T → Int → List (List UInt8)
  | [], _ => []
  | t :: l, a => Sp.brk (decide (Sp.rnk t.k < a)) (Sp.fmb t) :: Sp.fms l a
end
/-- A formula's text. -/
def Sp.fm (t : T) (a : Int) : List UInt8 := Sp.brk (decide (Sp.rnk t.k < a)) (Sp.fmb t)
def Sp.eqT (t : T) : List UInt8 := [40] ++ t.nm ++ [61] ++ Sp.at t.nms 0 ++ [41]
def Sp.faceT (t : T) : List UInt8 := (bif t.kids.isEmpty then [49] else []) ++ (t.kids.map Sp.eqT).flatten
/-- Is it an Ann of a name? -/
def Sp.annN (l : List T) : Bool := match l with | .mk k _ (.mk k' _ _ _ _ :: _) _ _ :: _ => decide (k = 9) && decide (k' = 1) | _ => false
mutual
/-- A term's text, without its brackets. -/
def Sp.bare : T → List UInt8
  | .mk k nm kids nms _ => bif decide (k = 1) then nm
    else bif decide (k = 2) then [92] ++ Sp.joinS nms [32] ++ [46, 32] ++ Sp.at (Sp.texts kids 0) 0
    else bif decide (k = 3) then [60] ++ Sp.joinS nms [32] ++ [62, 32] ++ Sp.at (Sp.texts kids 0) 0
    else bif decide (k = 4) then (bif decide (nms.length = 1) then [40] ++ Sp.at nms 0 ++ [32, 58, 32] ++ Sp.at (Sp.texts kids 0) 0 ++ [41] else Sp.brk (Sp.annN kids) (Sp.at (Sp.texts kids 1) 0)) ++ [32, 45, 62, 32] ++ Sp.at (Sp.texts kids 0) 1
    else bif decide (k = 5) then (bif decide (nms.length = 1) then [40] ++ Sp.at nms 0 ++ [32, 58, 32] ++ Sp.at (Sp.texts kids 0) 0 ++ [41] else Sp.brk (Sp.annN kids) (Sp.at (Sp.texts kids 1) 0)) ++ [32, 42, 32] ++ Sp.at (Sp.texts kids 0) 1
    else bif decide (k = 6) then Sp.at (Sp.texts kids 1) 0 ++ [32] ++ Sp.at (Sp.texts kids 2) 1
    else bif decide (k = 7) then Sp.at (Sp.texts kids 1) 0 ++ [32, 64, 32] ++ (match kids with | _ :: b :: _ => Sp.fm b 2 | _ => [])
    else bif decide (k = 8) then [40] ++ Sp.at (Sp.texts kids 0) 0 ++ [44, 32] ++ Sp.at (Sp.texts kids 0) 1 ++ [41]
    else bif decide (k = 9) then [40] ++ Sp.at (Sp.texts kids 0) 0 ++ [32, 58, 32] ++ Sp.at (Sp.texts kids 0) 1 ++ [41]
    else [91] ++ Sp.boxT true kids ++ [93]
def Sp.texts : List T → Int → List (List UInt8)
  | [], _ => []
  | t :: l, a => Sp.brk (decide (Sp.cls t.k < a)) (Sp.bare t) :: Sp.texts l a
def Sp.elT : T → List UInt8
  | .mk _ _ kids _ _ => (match kids with | f :: _ => Sp.faceT f | _ => []) ++ (bif decide (kids.length = 2) then [32, 45, 62, 32] ++ Sp.at (Sp.texts kids 0) 1 else [])
def Sp.boxT : Bool → List T → List UInt8
  | _, [] => []
  | b, e :: l => (bif b then [] else [44, 32]) ++ Sp.elT e ++ Sp.boxT false l
end
/-- A term's text, that stands as a term (0), in an app (1), as an atom (2). -/
def Sp.text (t : T) (a : Int) : List UInt8 := Sp.brk (decide (Sp.cls t.k < a)) (Sp.bare t)
theorem texts_at : ∀ (l : List T) (a : Int) (i : Nat) (t : T), l[i]? = some t → Sp.at (Sp.texts l a) i = Sp.text t a
  | [], _, _, _, h => by simp at h
  | u :: l, a, 0, t, h => by simp at h; subst h; rfl
  | u :: l, a, i + 1, t, h => by rw [Sp.texts]; exact texts_at l a i t (by simpa using h)
theorem fms_at : ∀ (l : List T) (a : Int) (i : Nat) (t : T), l[i]? = some t → Sp.at (Sp.fms l a) i = Sp.fm t a
  | [], _, _, _, h => by simp at h
  | u :: l, a, 0, t, h => by simp at h; subst h; rfl
  | u :: l, a, i + 1, t, h => by rw [Sp.fms]; exact fms_at l a i t (by simpa using h)

def decT2 : List V → Option (D × Int) | [.ptr 0 0, .d x, .d (.int .i64 a)] => some (x, a) | _ => none
theorem decT2_some {a : List V} {x : D} {n : Int} (h : decT2 a = some (x, n)) : a = [.ptr 0 0, .d x, .d (.int .i64 n)] := by
  unfold decT2 at h
  split at h
  · cases h; rfl
  · cases h
def decT1 : List V → Option D | [.ptr 0 0, .d x] => some x | _ => none
theorem decT1_some {a : List V} {x : D} (h : decT1 a = some x) : a = [.ptr 0 0, .d x] := by
  unfold decT1 at h
  split at h
  · cases h; rfl
  · cases h
def decTS : List V → Option (D × List UInt8) | [.ptr 0 0, .d x, .d (.str s)] => some (x, s) | _ => none
theorem decTS_some {a : List V} {x : D} {s} (h : decTS a = some (x, s)) : a = [.ptr 0 0, .d x, .d (.str s)] := by
  unfold decTS at h
  split at h
  · cases h; rfl
  · cases h
def sp39 (m : Nat) : D × Int → Option (List UInt8) | (x, a) => optK (Sp.toT m x) fun t => must (Sp.right t) (some (Sp.text t a))
def sp92 (m : Nat) : D × Int → Option (List UInt8) | (x, a) => optK (Sp.toT m x) fun t => must (Sp.form t) (some (Sp.fm t a))

/-- What a closure of the printer and a tree sees: the printer's cell first, or the tree's. -/
def ps70 (u : Bool) (L : List D) (x : D) : St := [(0, .val 1 (.ptr 1 0)), (1, .val 76546051 (.agg [bif u then .ptr 1 0 else .d .nilptr, .sl 6291457 L 2, .d (.bool false)])), (2, .tok L.length), (3, .val 5 (.d x))]
def ps108 (u : Bool) (L : List D) (x : D) : St := [(0, .val 5 (.d x)), (1, .val 1 (.ptr 2 0)), (2, .val 76546051 (.agg [bif u then .ptr 2 0 else .d .nilptr, .sl 6291457 L 3, .d (.bool false)])), (3, .tok L.length)]
/-- What a bracket sees. -/
def psB (u : Bool) (L : List D) (x : D) : St := psS u L ++ [(2, .val 1 (.ptr 0 0)), (3, .val 5 (.d x))]
def psF (u : Bool) (L : List D) (x : D) : St := psS u L ++ [(2, .val 5 (.d x)), (3, .val 1 (.ptr 0 0))]
def ps70D : St → Option (D × List D × Nat)
  | [(0, .val 1 (.ptr 1 0)), (1, .val 76546051 (.agg [.ptr 1 0, .sl 6291457 L 2, .d (.bool false)])), (2, .tok n), (3, .val 5 (.d x))] => some (x, L, n)
  | [(0, .val 1 (.ptr 1 0)), (1, .val 76546051 (.agg [.d .nilptr, .sl 6291457 L 2, .d (.bool false)])), (2, .tok n), (3, .val 5 (.d x))] => some (x, L, n)
  | _ => none
def ps108D : St → Option (D × List D × Nat)
  | [(0, .val 5 (.d x)), (1, .val 1 (.ptr 2 0)), (2, .val 76546051 (.agg [.ptr 2 0, .sl 6291457 L 3, .d (.bool false)])), (3, .tok n)] => some (x, L, n)
  | [(0, .val 5 (.d x)), (1, .val 1 (.ptr 2 0)), (2, .val 76546051 (.agg [.d .nilptr, .sl 6291457 L 3, .d (.bool false)])), (3, .tok n)] => some (x, L, n)
  | _ => none
def psBD : St → Option (D × List D × Nat)
  | [a, b, (2, .val 1 (.ptr 0 0)), (3, .val 5 (.d x))] => (match psD [a, b] with | some (L, n) => some (x, L, n) | none => none)
  | _ => none
def psFD : St → Option (D × List D × Nat)
  | [a, b, (2, .val 5 (.d x)), (3, .val 1 (.ptr 0 0))] => (match psD [a, b] with | some (L, n) => some (x, L, n) | none => none)
  | _ => none
theorem ps70D_some {σ : St} {x : D} {L : List D} {n : Nat} (h : ps70D σ = some (x, L, n)) (hn : Sp.fit n L = true) : ∃ u, σ = ps70 u L x := by
  simp only [Sp.fit, decide_eq_true_eq] at hn
  subst hn
  unfold ps70D at h
  split at h
  · cases h; exact ⟨true, rfl⟩
  · cases h; exact ⟨false, rfl⟩
  · cases h
theorem ps108D_some {σ : St} {x : D} {L : List D} {n : Nat} (h : ps108D σ = some (x, L, n)) (hn : Sp.fit n L = true) : ∃ u, σ = ps108 u L x := by
  simp only [Sp.fit, decide_eq_true_eq] at hn
  subst hn
  unfold ps108D at h
  split at h
  · cases h; exact ⟨true, rfl⟩
  · cases h; exact ⟨false, rfl⟩
  · cases h
theorem psBD_some {σ : St} {x : D} {L : List D} {n : Nat} (h : psBD σ = some (x, L, n)) (hn : Sp.fit n L = true) : ∃ u, σ = psB u L x := by
  unfold psBD at h
  split at h
  · split at h
    · rename_i hp
      cases h
      obtain ⟨u, hu⟩ := psD_some hp hn
      refine ⟨u, ?_⟩
      unfold psB
      rw [← hu]
      rfl
    · cases h
  · cases h
theorem psFD_some {σ : St} {x : D} {L : List D} {n : Nat} (h : psFD σ = some (x, L, n)) (hn : Sp.fit n L = true) : ∃ u, σ = psF u L x := by
  unfold psFD at h
  split at h
  · split at h
    · rename_i hp
      cases h
      obtain ⟨u, hu⟩ := psD_some hp hn
      refine ⟨u, ?_⟩
      unfold psF
      rw [← hu]
      rfl
    · cases h
  · cases h

/-- A closure that prints; a bracket around it. -/
def clK (f : Nat) (dec : List V → Option Bool) (pd : St → Option (D × List D × Nat)) (ps : Bool → List D → D → St) (sp : Bool → D → Option (List UInt8)) (S : CK R1) : CK R1 :=
  more f (fun a σ => match dec a, pd σ with | some b, some p => some (b, p) | _, _ => none)
    (fun K q => match q with | (b, x, L, n) => optK (sp b x) fun s => must (Sp.fit n L) (must (Sp.room L s) (K (.ret (.tup [])) (ps true (Sp.app L s) x))))
    (fun K q => by
      obtain ⟨b, x, L, n⟩ := q
      simp only
      rw [optP_optK]
      congr 1
      funext s
      simp only [must, optP_cond]
      rfl) S
theorem clK_knows {f : Nat} {dec : List V → Option Bool} {pd : St → Option (D × List D × Nat)} {ps : Bool → List D → D → St} {sp : Bool → D → Option (List UInt8)} {S : CK R1} (hS : knows cx S.S (evLim cx))
    (hp : ∀ {σ x L n}, pd σ = some (x, L, n) → Sp.fit n L = true → ∃ u, σ = ps u L x)
    (hf : ∀ a b x s u L, dec a = some b → sp b x = some s → Sp.room L s = true → evLim cx f a (ps u L x) = some (.ret (.tup []), ps true (Sp.app L s) x)) : knows cx (clK f dec pd ps sp S).S (evLim cx) :=
  more_knows hS fun a σ q r hd h => by
    obtain ⟨b, x, L, n⟩ := q
    simp only at hd h
    split at hd
    · rename_i b' p hb hpd
      cases hd
      obtain ⟨s, hs, h⟩ := optK_some h
      obtain ⟨h1, h⟩ := must_some h
      obtain ⟨h2, h⟩ := must_some h
      cases h
      obtain ⟨u, rfl⟩ := hp hpd h1
      exact hf a b x s u L hb hs h2
    · cases hd
def dec70 : List V → Option Bool | [.ptr 0 0, .ptr 3 0] => some true | _ => none
def dec108 : List V → Option Bool | [.ptr 0 0, .ptr 1 0] => some true | _ => none
def dec68 (g : Nat) : List V → Option Bool | [.ptr 0 0, .d (.bool b), .func f [.ptr 2 0, .ptr 3 0]] => bif Nat.beq f g then some b else none | _ => none
theorem dec70_some {a : List V} {b} (h : dec70 a = some b) : a = [.ptr 0 0, .ptr 3 0] := by
  unfold dec70 at h
  split at h
  · rfl
  · cases h
theorem dec108_some {a : List V} {b} (h : dec108 a = some b) : a = [.ptr 0 0, .ptr 1 0] := by
  unfold dec108 at h
  split at h
  · rfl
  · cases h
theorem dec68_some {g : Nat} {a : List V} {b} (h : dec68 g a = some b) : a = [.ptr 0 0, .d (.bool b), .func g [.ptr 2 0, .ptr 3 0]] := by
  unfold dec68 at h
  split at h
  · rename_i b' f
    cases hc : Nat.beq f g <;> rw [hc] at h
    · cases h
    · obtain rfl := Nat.eq_of_beq_eq_true hc
      cases h; rfl
  · cases h
/-- The ranks and classes. -/
def decI1 : List V → Option Int | [.d (.int .i64 a)] => some a | _ => none
noncomputable def K91 : CK R1 := pureK 69 decD Sp.toC (fun t => mkI (Sp.cls t.k)) (pureK 107 decI1 some (fun k => mkI (Sp.rnk k)) K90)
end Go.Vai
end

section
namespace Go.Vai
open Go.Proofs

def Sp.isBd (t : T) : Bool := Sp.right t && (decide (t.k = 4) || decide (t.k = 5))
def Sp.isTw (t : T) : Bool := Sp.right t && (decide (t.k = 8) || decide (t.k = 9))
def Sp.isBx (t : T) : Bool := Sp.right t && decide (t.k = 10)
def Sp.bdT : T → List UInt8 → List UInt8 | .mk _ _ kids nms _, s => (bif decide (nms.length = 1) then [40] ++ Sp.at nms 0 ++ [32, 58, 32] ++ Sp.at (Sp.texts kids 0) 0 ++ [41] else Sp.brk (Sp.annN kids) (Sp.at (Sp.texts kids 1) 0)) ++ s ++ Sp.at (Sp.texts kids 0) 1
def Sp.twT : T → List UInt8 → List UInt8 | .mk _ _ kids _ _, s => [40] ++ Sp.at (Sp.texts kids 0) 0 ++ s ++ Sp.at (Sp.texts kids 0) 1 ++ [41]
def Sp.bxT : T → List UInt8 | .mk _ _ kids _ _ => [91] ++ Sp.boxT true kids ++ [93]
def sp91 (m : Nat) : D × List UInt8 → Option (List UInt8) | (x, s) => optK (Sp.toT m x) fun t => must (Sp.isBd t) (some (Sp.bdT t s))
def sp93 (m : Nat) : D × List UInt8 → Option (List UInt8) | (x, s) => optK (Sp.toT m x) fun t => must (Sp.isTw t) (some (Sp.twT t s))
def sp94 (m : Nat) (x : D) : Option (List UInt8) := optK (Sp.toT m x) fun t => must (Sp.isBx t) (some (Sp.bxT t))
def sp71 (m : Nat) (x : D) : Option (List UInt8) := optK (Sp.toT m x) fun t => must (Sp.right t) (some (Sp.bare t))
noncomputable def sp92C : D × Int → Option (List UInt8) | (x, a) => optK (Sp.toC x) fun t => must (Sp.form t) (some (Sp.fm t a))
def sp108 (m : Nat) (x : D) : Option (List UInt8) := optK (Sp.toT m x) fun t => must (Sp.form t) (some (Sp.fmb t))

/-- What sees term. -/
noncomputable def KT (m : Nat) : CK R1 := prK 39 decT2 (sp39 m) K91
/-- What sees formula. -/
noncomputable def KM (m : Nat) : CK R1 := prK 92 decT2 (sp92 m) K91
noncomputable def K108 (m : Nat) : CK R1 := clK 68 (dec68 108) psFD psF (fun b x => optK (sp108 m x) fun s => some (Sp.brk b s)) K91
noncomputable def K106 (m : Nat) : CK R1 := clK 68 (dec68 106) psBD psB (fun b x => optK (sp39 m (x, 1)) fun s => some (Sp.brk b s)) (KT m)
noncomputable def K70 (m : Nat) : CK R1 := clK 68 (dec68 70) psBD psB (fun b x => optK (sp71 m x) fun s => some (Sp.brk b s)) K91
noncomputable def K71 (m : Nat) : CK R1 := prK 91 decTS (sp91 (m + 1)) (prK 93 decTS (sp93 (m + 1)) (prK 94 decT1 (sp94 (m + 1)) (prK 92 decT2 sp92C (KT m))))
end Go.Vai
end

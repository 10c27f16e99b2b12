/-
  Show: the reference's texts: whole.
  Show: what has been printed; what the files' functions call.
  Show: how great a tree is.
  Show: the reference's Bulk; great.
  Show: files.
  Show: ShowFiles answers yes.
  Show: what is read of a memory as trees is trees.
-/
import Derived.Test.YtdgdfglbhndjnaaDoorShoPart4
import Derived.ReadAgain
import Derived.OpenShut

set_option linter.all false
set_option linter.unusedSimpArgs false
set_option linter.unusedVariables false

section
namespace Go.Vai
open Go.Proofs

/-- A bracket, as it is put. -/
theorem brk_put {q : Bool} {s : List UInt8} (h : s.length + 2 ≤ 4611686018427387904) :
    (bif q then must (decide ([(40 : UInt8)].length + s.length ≤ 4611686018427387904)) (must (decide ((40 :: s).length + [(41 : UInt8)].length ≤ 4611686018427387904)) (some (Out.ret (V.d (D.str (40 :: (s ++ [41])))), ([] : St)))) else some (Out.ret (V.d (D.str s)), [])) = some (Out.ret (mkS (Sp.brk q s)), []) := by
  cases q
  · rfl
  · rw [decide_eq_true (by simp only [List.length_cons, List.length_nil]; omega), decide_eq_true (by simp only [List.length_cons, List.length_nil]; omega)]
    rfl

theorem lim43 : ∀ (m : Nat) (t : T) (a : Int), t.depth ≤ m → t.ok = true → Sp.right t = true → Sp.light t = true → evLim cx 43 [.d t.d, .d (.int .i64 a)] [] = some (.ret (mkS (Sp.text t a)), [])
  | 0, .mk .., _, h, _, _, _ => by simp [T.depth] at h
  | m + 1, .mk k nm kids nms pl, x, hd, ho, hi, hl => by
    have hK : knows cx (K43 m).S (evLim cx) := pureK_knows K100_knows fun a q s _ ha hs => by
      obtain ⟨y, n⟩ := q
      obtain rfl := decDI_some ha
      obtain ⟨t, ht, hs⟩ := optK_some hs
      obtain ⟨hf, hs⟩ := must_some hs
      cases hs
      obtain ⟨rfl, h1, h2⟩ := toT_some ht
      rw [Bool.and_eq_true] at hf
      exact lim43 m t n h1 h2 hf.1 hf.2
    have h78 := pureK_knows (f := 78) (dec := decDI) (sp := sp78C) (mk := mkS) hK fun a q s _ ha hs => by
      obtain ⟨y, n⟩ := q
      obtain rfl := decDI_some ha
      obtain ⟨t, ht, hs⟩ := optK_some hs
      obtain ⟨hf, hs⟩ := must_some hs
      cases hs
      obtain ⟨rfl, h2⟩ := toC_some ht
      rw [Bool.and_eq_true] at hf
      exact lim78 t.depth t n (Nat.le_refl _) h2 hf.1 hf.2
    have h79 : knows cx (K79 m).S (evLim cx) := pureK_knows h78 fun a y s _ ha hs => by
      obtain rfl := decD_some ha
      obtain ⟨t, ht, hs⟩ := optK_some hs
      obtain ⟨hf, hs⟩ := must_some hs
      cases hs
      obtain ⟨rfl, h1, h2⟩ := toT_some ht
      rw [Bool.and_eq_true] at hf
      exact lim79 hK h1 h2 hf.1 hf.2
    have hTt := toT_d hd ho
    obtain ⟨h1, h2, h3, h4, h5⟩ := ok_inv ho
    have hkd := depth_inv hd
    have hT : ∀ t ∈ kids, Sp.toT m t.d = some t := fun t h => kid_toT hkd h5 h
    have hL := light_mem hl
    have hlen : (Sp.bare (.mk k nm kids nms pl)).length + 2 ≤ 201326592 := by
      have := bare_len (.mk k nm kids nms pl)
      have := of_decide_eq_true hl
      omega
    simp only [T.d] at hTt
    refine lim_bodyK h79 (N := 0) ?_
    have etx : Sp.text (.mk k nm kids nms pl) x = Sp.brk (decide (Sp.cls k < x)) (Sp.bare (.mk k nm kids nms pl)) := rfl
    rw [etx]
    rcases right_k hi with rfl | ⟨hk, a, rfl, ha⟩ | hk | ⟨rfl, a, b, rfl, ha, hb⟩ | ⟨rfl, a, b, rfl, ha, hb⟩ | hk | rfl
    · refine (g43_1 0 m nm kids nms pl x).trans ?_
      have e : Sp.bare (.mk 1 nm kids nms pl) = nm := by simp [Sp.bare]
      rw [e] at hlen ⊢
      exact brk_put (by omega)
    · have e0 : decide ((0 : Int) < ((T.ds [a]).length : Int)) = true := by rw [ds_len]; rfl
      have n0 : [a][(0 : Int).toNat]? = some a := rfl
      rcases hk with rfl | rfl
      · have e : Sp.bare (.mk 2 nm [a] nms pl) = [92] ++ Sp.joinS nms [32] ++ [46, 32] ++ Sp.text a 0 := by simp [Sp.bare, ← texts_at [a] 0 0 a rfl]
        rw [e] at hlen ⊢
        simp only [List.length_append, List.length_cons, List.length_nil] at hlen
        refine (g43_2 0 m nm [a] nms pl x).trans ?_
        simp only [nsS_of h3 h4 (sep := [32]) (by omega), e0, nthD_ds, n0, cells_d, nth0, nth1, nth2, nth3, nth4, agg_d, hT a (by simp), optK, must, cond_true, ha, hL a (by simp), Bool.and_self]
        simp (disch := ((try simp only [List.length_append, List.length_cons, List.length_nil]); omega)) only [dle, cond_true]
        show (bif decide (Sp.cls 2 < x) then _ else _) = some (Out.ret (mkS (Sp.brk (decide (Sp.cls 2 < x)) _)), [])
        generalize decide (Sp.cls 2 < x) = q
        cases q <;> simp [Sp.brk, mkS]
      · have e : Sp.bare (.mk 3 nm [a] nms pl) = [60] ++ Sp.joinS nms [32] ++ [62, 32] ++ Sp.text a 0 := by simp [Sp.bare, ← texts_at [a] 0 0 a rfl]
        rw [e] at hlen ⊢
        simp only [List.length_append, List.length_cons, List.length_nil] at hlen
        refine (g43_3 0 m nm [a] nms pl x).trans ?_
        simp only [nsS_of h3 h4 (sep := [32]) (by omega), e0, nthD_ds, n0, cells_d, nth0, nth1, nth2, nth3, nth4, agg_d, hT a (by simp), optK, must, cond_true, ha, hL a (by simp), Bool.and_self]
        simp (disch := ((try simp only [List.length_append, List.length_cons, List.length_nil]); omega)) only [dle, cond_true]
        show (bif decide (Sp.cls 3 < x) then _ else _) = some (Out.ret (mkS (Sp.brk (decide (Sp.cls 3 < x)) _)), [])
        generalize decide (Sp.cls 3 < x) = q
        cases q <;> simp [Sp.brk, mkS]
    · obtain ⟨a, b, rfl, ha, hb⟩ := right_two hi (by omega)
      have e0 : decide ((0 : Int) < ((T.ds [a, b]).length : Int)) = true := by rw [ds_len]; rfl
      have e1 : decide ((1 : Int) < ((T.ds [a, b]).length : Int)) = true := by rw [ds_len]; rfl
      have n0 : [a, b][(0 : Int).toNat]? = some a := rfl
      have n1 : [a, b][(1 : Int).toNat]? = some b := rfl
      rcases hk with rfl | rfl
      · have e : Sp.bare (.mk 4 nm [a, b] nms pl) = (bif decide (nms.length = 1) then [40] ++ Sp.at nms 0 ++ [32, 58, 32] ++ Sp.text a 0 ++ [41] else Sp.brk (Sp.annN [a, b]) (Sp.text a 1)) ++ [32, 45, 62, 32] ++ Sp.text b 0 := by
          simp [Sp.bare, ← texts_at [a, b] 0 0 a rfl, ← texts_at [a, b] 1 0 a rfl, ← texts_at [a, b] 0 1 b rfl]
        rw [e] at hlen ⊢
        refine (g43_4 0 m nm [a, b] nms pl x).trans ?_
        rcases right_nms hi (by omega) with rfl | ⟨y, rfl⟩
        · have hl0 : decide ((([] : List (List UInt8)).map D.str).length = (1 : Int)) = false := rfl
          simp only [List.length_nil, Nat.zero_ne_one, decide_false, cond_false, List.length_append, brk_len] at hlen ⊢
          by_cases h9 : a.k = 9
          · obtain ⟨k', nm', kids', nms', pl'⟩ := a
            simp only [k_mk] at h9
            subst h9
            obtain ⟨c, d, rfl, _, _⟩ := right_two ha (by omega)
            have e2 : decide ((0 : Int) < ((T.ds [c, d]).length : Int)) = true := by rw [ds_len]; rfl
            have n2 : [c, d][(0 : Int).toNat]? = some c := rfl
            have ea : Sp.annN [.mk 9 nm' [c, d] nms' pl', b] = decide (c.k = 1) := by
              obtain ⟨k3, _, _, _, _⟩ := c
              simp only [Sp.annN, decide_true, Bool.true_and]; rfl
            simp only [hl0, e0, e1, e2, nthD_ds, n0, n1, n2, ↓cells_mk, cells_d, nth0, nth1, nth2, nth3, nth4, agg_mk, mk_eta, hT _ (List.mem_cons_self ..), hT b (by simp), optK, must, cond_true, cond_false, ha, hb, hL _ (List.mem_cons_self ..), hL b (by simp), Bool.and_self, decide_true, spl26, Bool.true_or]
            rw [ea] at hlen ⊢
            generalize decide (c.k = 1) = z at hlen ⊢
            cases z
            · simp only [cond_false, List.length_cons, List.length_nil] at hlen ⊢
              simp (disch := ((try simp only [List.length_append, List.length_cons, List.length_nil]); omega)) only [dle, cond_true]
              show (bif decide (Sp.cls 4 < x) then _ else _) = some (Out.ret (mkS (Sp.brk (decide (Sp.cls 4 < x)) _)), [])
              generalize decide (Sp.cls 4 < x) = q
              cases q <;> simp [Sp.brk, mkS]
            · simp only [cond_true, List.length_cons, List.length_nil] at hlen ⊢
              simp (disch := ((try simp only [List.length_append, List.length_cons, List.length_nil]); omega)) only [dle, cond_true]
              show (bif decide (Sp.cls 4 < x) then _ else _) = some (Out.ret (mkS (Sp.brk (decide (Sp.cls 4 < x)) _)), [])
              generalize decide (Sp.cls 4 < x) = q
              cases q <;> simp [Sp.brk, mkS]
          · have ea : Sp.annN [a, b] = false := by
              obtain ⟨k', nm', kids', nms', pl'⟩ := a
              simp only [k_mk] at h9
              rcases kids' with _ | ⟨⟨_, _, _, _, _⟩, _⟩ <;> simp [Sp.annN, h9]
            simp only [hl0, e0, e1, nthD_ds, n0, n1, cells_d, nth0, nth1, nth2, nth3, nth4, agg_d, hT a (by simp), hT b (by simp), optK, must, cond_true, cond_false, ha, hb, hL a (by simp), hL b (by simp), Bool.and_self, decide_true]
            rw [ea] at hlen ⊢
            rw [decide_eq_false h9]
            simp only [cond_false, List.length_cons, List.length_nil] at hlen ⊢
            simp (disch := ((try simp only [List.length_append, List.length_cons, List.length_nil]); omega)) only [dle, cond_true]
            show (bif decide (Sp.cls 4 < x) then _ else _) = some (Out.ret (mkS (Sp.brk (decide (Sp.cls 4 < x)) _)), [])
            generalize decide (Sp.cls 4 < x) = q
            cases q <;> simp [Sp.brk, mkS]
        · simp only [List.length_cons, List.length_nil, Nat.zero_add, decide_true, cond_true, List.length_append] at hlen ⊢
          have nx : [y][(0 : Int).toNat]? = some y := rfl
          have ex : Sp.at [y] 0 = y := rfl
          rw [ex] at hlen ⊢
          simp only [e0, e1, nthD_ds, n0, n1, cells_d, nth0, nth1, nth2, nth3, nth4, agg_d, hT a (by simp), hT b (by simp), optK, must, cond_true, ha, hb, hL a (by simp), hL b (by simp), Bool.and_self, List.length_map, lenO, lenP, nthD_strs, nx, List.length_cons, List.length_nil, Nat.lt_add_one, decide_true, cells_str]
          simp (disch := ((try simp only [List.length_append, List.length_cons, List.length_nil]); omega)) only [dle, cond_true]
          show (bif decide (Sp.cls 4 < x) then _ else _) = some (Out.ret (mkS (Sp.brk (decide (Sp.cls 4 < x)) _)), [])
          generalize decide (Sp.cls 4 < x) = q
          cases q <;> simp [Sp.brk, mkS]
      · have e : Sp.bare (.mk 5 nm [a, b] nms pl) = (bif decide (nms.length = 1) then [40] ++ Sp.at nms 0 ++ [32, 58, 32] ++ Sp.text a 0 ++ [41] else Sp.brk (Sp.annN [a, b]) (Sp.text a 1)) ++ [32, 42, 32] ++ Sp.text b 0 := by
          simp [Sp.bare, ← texts_at [a, b] 0 0 a rfl, ← texts_at [a, b] 1 0 a rfl, ← texts_at [a, b] 0 1 b rfl]
        rw [e] at hlen ⊢
        refine (g43_5 0 m nm [a, b] nms pl x).trans ?_
        rcases right_nms hi (by omega) with rfl | ⟨y, rfl⟩
        · have hl0 : decide ((([] : List (List UInt8)).map D.str).length = (1 : Int)) = false := rfl
          simp only [List.length_nil, Nat.zero_ne_one, decide_false, cond_false, List.length_append, brk_len] at hlen ⊢
          by_cases h9 : a.k = 9
          · obtain ⟨k', nm', kids', nms', pl'⟩ := a
            simp only [k_mk] at h9
            subst h9
            obtain ⟨c, d, rfl, _, _⟩ := right_two ha (by omega)
            have e2 : decide ((0 : Int) < ((T.ds [c, d]).length : Int)) = true := by rw [ds_len]; rfl
            have n2 : [c, d][(0 : Int).toNat]? = some c := rfl
            have ea : Sp.annN [.mk 9 nm' [c, d] nms' pl', b] = decide (c.k = 1) := by
              obtain ⟨k3, _, _, _, _⟩ := c
              simp only [Sp.annN, decide_true, Bool.true_and]; rfl
            simp only [hl0, e0, e1, e2, nthD_ds, n0, n1, n2, ↓cells_mk, cells_d, nth0, nth1, nth2, nth3, nth4, agg_mk, mk_eta, hT _ (List.mem_cons_self ..), hT b (by simp), optK, must, cond_true, cond_false, ha, hb, hL _ (List.mem_cons_self ..), hL b (by simp), Bool.and_self, decide_true, spl26, Bool.true_or]
            rw [ea] at hlen ⊢
            generalize decide (c.k = 1) = z at hlen ⊢
            cases z
            · simp only [cond_false, List.length_cons, List.length_nil] at hlen ⊢
              simp (disch := ((try simp only [List.length_append, List.length_cons, List.length_nil]); omega)) only [dle, cond_true]
              show (bif decide (Sp.cls 5 < x) then _ else _) = some (Out.ret (mkS (Sp.brk (decide (Sp.cls 5 < x)) _)), [])
              generalize decide (Sp.cls 5 < x) = q
              cases q <;> simp [Sp.brk, mkS]
            · simp only [cond_true, List.length_cons, List.length_nil] at hlen ⊢
              simp (disch := ((try simp only [List.length_append, List.length_cons, List.length_nil]); omega)) only [dle, cond_true]
              show (bif decide (Sp.cls 5 < x) then _ else _) = some (Out.ret (mkS (Sp.brk (decide (Sp.cls 5 < x)) _)), [])
              generalize decide (Sp.cls 5 < x) = q
              cases q <;> simp [Sp.brk, mkS]
          · have ea : Sp.annN [a, b] = false := by
              obtain ⟨k', nm', kids', nms', pl'⟩ := a
              simp only [k_mk] at h9
              rcases kids' with _ | ⟨⟨_, _, _, _, _⟩, _⟩ <;> simp [Sp.annN, h9]
            simp only [hl0, e0, e1, nthD_ds, n0, n1, cells_d, nth0, nth1, nth2, nth3, nth4, agg_d, hT a (by simp), hT b (by simp), optK, must, cond_true, cond_false, ha, hb, hL a (by simp), hL b (by simp), Bool.and_self, decide_true]
            rw [ea] at hlen ⊢
            rw [decide_eq_false h9]
            simp only [cond_false, List.length_cons, List.length_nil] at hlen ⊢
            simp (disch := ((try simp only [List.length_append, List.length_cons, List.length_nil]); omega)) only [dle, cond_true]
            show (bif decide (Sp.cls 5 < x) then _ else _) = some (Out.ret (mkS (Sp.brk (decide (Sp.cls 5 < x)) _)), [])
            generalize decide (Sp.cls 5 < x) = q
            cases q <;> simp [Sp.brk, mkS]
        · simp only [List.length_cons, List.length_nil, Nat.zero_add, decide_true, cond_true, List.length_append] at hlen ⊢
          have nx : [y][(0 : Int).toNat]? = some y := rfl
          have ex : Sp.at [y] 0 = y := rfl
          rw [ex] at hlen ⊢
          simp only [e0, e1, nthD_ds, n0, n1, cells_d, nth0, nth1, nth2, nth3, nth4, agg_d, hT a (by simp), hT b (by simp), optK, must, cond_true, ha, hb, hL a (by simp), hL b (by simp), Bool.and_self, List.length_map, lenO, lenP, nthD_strs, nx, List.length_cons, List.length_nil, Nat.lt_add_one, decide_true, cells_str]
          simp (disch := ((try simp only [List.length_append, List.length_cons, List.length_nil]); omega)) only [dle, cond_true]
          show (bif decide (Sp.cls 5 < x) then _ else _) = some (Out.ret (mkS (Sp.brk (decide (Sp.cls 5 < x)) _)), [])
          generalize decide (Sp.cls 5 < x) = q
          cases q <;> simp [Sp.brk, mkS]
    · have e0 : decide ((0 : Int) < ((T.ds [a, b]).length : Int)) = true := by rw [ds_len]; rfl
      have e1 : decide ((1 : Int) < ((T.ds [a, b]).length : Int)) = true := by rw [ds_len]; rfl
      have n0 : [a, b][(0 : Int).toNat]? = some a := rfl
      have n1 : [a, b][(1 : Int).toNat]? = some b := rfl
      have e : Sp.bare (.mk 6 nm [a, b] nms pl) = Sp.text a 1 ++ [32] ++ Sp.text b 2 := by simp [Sp.bare, ← texts_at [a, b] 1 0 a rfl, ← texts_at [a, b] 2 1 b rfl]
      rw [e] at hlen ⊢
      simp only [List.length_append, List.length_cons, List.length_nil] at hlen
      refine (g43_6 0 m nm [a, b] nms pl x).trans ?_
      simp only [e0, e1, nthD_ds, n0, n1, cells_d, nth0, nth1, nth2, nth3, nth4, agg_d, hT a (by simp), hT b (by simp), optK, must, cond_true, ha, hb, hL a (by simp), hL b (by simp), Bool.and_self]
      simp (disch := ((try simp only [List.length_append, List.length_cons, List.length_nil]); omega)) only [dle, cond_true]
      show (bif decide (Sp.cls 6 < x) then _ else _) = some (Out.ret (mkS (Sp.brk (decide (Sp.cls 6 < x)) _)), [])
      generalize decide (Sp.cls 6 < x) = q
      cases q <;> simp [Sp.brk, mkS]
    · have e0 : decide ((0 : Int) < ((T.ds [a, b]).length : Int)) = true := by rw [ds_len]; rfl
      have e1 : decide ((1 : Int) < ((T.ds [a, b]).length : Int)) = true := by rw [ds_len]; rfl
      have n0 : [a, b][(0 : Int).toNat]? = some a := rfl
      have n1 : [a, b][(1 : Int).toNat]? = some b := rfl
      have e : Sp.bare (.mk 7 nm [a, b] nms pl) = Sp.text a 1 ++ [32, 64, 32] ++ Sp.fm b 2 := by simp [Sp.bare, ← texts_at [a, b] 1 0 a rfl]
      rw [e] at hlen ⊢
      simp only [List.length_append, List.length_cons, List.length_nil] at hlen
      refine (g43_7 0 m nm [a, b] nms pl x).trans ?_
      simp only [e0, e1, nthD_ds, n0, n1, cells_d, nth0, nth1, nth2, nth3, nth4, agg_d, hT a (by simp), kid_toC h5 (t := b) (by simp), optK, must, cond_true, ha, hb, hL a (by simp), hL b (by simp), Bool.and_self]
      simp (disch := ((try simp only [List.length_append, List.length_cons, List.length_nil]); omega)) only [dle, cond_true]
      show (bif decide (Sp.cls 7 < x) then _ else _) = some (Out.ret (mkS (Sp.brk (decide (Sp.cls 7 < x)) _)), [])
      generalize decide (Sp.cls 7 < x) = q
      cases q <;> simp [Sp.brk, mkS]
    · obtain ⟨a, b, rfl, ha, hb⟩ := right_two hi (by omega)
      have e0 : decide ((0 : Int) < ((T.ds [a, b]).length : Int)) = true := by rw [ds_len]; rfl
      have e1 : decide ((1 : Int) < ((T.ds [a, b]).length : Int)) = true := by rw [ds_len]; rfl
      have n0 : [a, b][(0 : Int).toNat]? = some a := rfl
      have n1 : [a, b][(1 : Int).toNat]? = some b := rfl
      rcases hk with rfl | rfl
      · have e : Sp.bare (.mk 8 nm [a, b] nms pl) = [40] ++ Sp.text a 0 ++ [44, 32] ++ Sp.text b 0 ++ [41] := by simp [Sp.bare, ← texts_at [a, b] 0 0 a rfl, ← texts_at [a, b] 0 1 b rfl]
        rw [e] at hlen ⊢
        simp only [List.length_append, List.length_cons, List.length_nil] at hlen
        refine (g43_8 0 m nm [a, b] nms pl x).trans ?_
        simp only [e0, e1, nthD_ds, n0, n1, cells_d, nth0, nth1, nth2, nth3, nth4, agg_d, hT a (by simp), hT b (by simp), optK, must, cond_true, ha, hb, hL a (by simp), hL b (by simp), Bool.and_self]
        simp (disch := ((try simp only [List.length_append, List.length_cons, List.length_nil]); omega)) only [dle, cond_true]
        show (bif decide (Sp.cls 8 < x) then _ else _) = some (Out.ret (mkS (Sp.brk (decide (Sp.cls 8 < x)) _)), [])
        generalize decide (Sp.cls 8 < x) = q
        cases q <;> simp [Sp.brk, mkS]
      · have e : Sp.bare (.mk 9 nm [a, b] nms pl) = [40] ++ Sp.text a 0 ++ [32, 58, 32] ++ Sp.text b 0 ++ [41] := by simp [Sp.bare, ← texts_at [a, b] 0 0 a rfl, ← texts_at [a, b] 0 1 b rfl]
        rw [e] at hlen ⊢
        simp only [List.length_append, List.length_cons, List.length_nil] at hlen
        refine (g43_9 0 m nm [a, b] nms pl x).trans ?_
        simp only [e0, e1, nthD_ds, n0, n1, cells_d, nth0, nth1, nth2, nth3, nth4, agg_d, hT a (by simp), hT b (by simp), optK, must, cond_true, ha, hb, hL a (by simp), hL b (by simp), Bool.and_self]
        simp (disch := ((try simp only [List.length_append, List.length_cons, List.length_nil]); omega)) only [dle, cond_true]
        show (bif decide (Sp.cls 9 < x) then _ else _) = some (Out.ret (mkS (Sp.brk (decide (Sp.cls 9 < x)) _)), [])
        generalize decide (Sp.cls 9 < x) = q
        cases q <;> simp [Sp.brk, mkS]
    · have hB : Sp.isBx (.mk 10 nm kids nms pl) = true := by unfold Sp.isBx; rw [hi]; rfl
      have e : Sp.bare (.mk 10 nm kids nms pl) = Sp.bxT (.mk 10 nm kids nms pl) := by simp [Sp.bare, Sp.bxT]
      rw [e] at hlen ⊢
      refine (g43_10 0 m nm kids nms pl x).trans ?_
      simp only [hTt, hB, hl, optK, must, cond_true, Bool.and_self]
      exact brk_put (by omega)
end Go.Vai
end

section
namespace Go.Vai
open Go.Proofs

def Sp.bytes (L : List D) : Option (List UInt8) := bytesX L
theorem bytes_app (s : List UInt8) : Sp.bytes (Sp.app [] s) = some s := by
  show bytesX ([] ++ s.map fun b => D.int .u8 b.toNat) = some s
  rw [List.nil_append]
  exact bytesX_map s
theorem lim72 (u : Bool) (L : List D) (s : List UInt8) (h : Sp.bytes L = some s) (hl : L.length ≤ 65536) : evLim cx 72 [.ptr 0 0] (psS u L) = some (.ret (.d (.str s)), putA (psS u L) 1 (.tok (L.length + 1))) := by
  refine lim_of (n := 1) ?_
  have e0 : cx.nat 72 [.ptr 0 0] (psS u L) = natStr [.ptr 0 0] (psS u L) := by kernel_rfl
  have e : natStr [.ptr 0 0] (psS u L) = some (.ret (.d (.str s)), putA (psS u L) 1 (.tok (L.length + 1))) := by
    have e1 : bytesX L = some s := h
    have e2 : natStr [.ptr 0 0] (psS u L) = must (Nat.beq 6291457 6291457 && decide (L.length = L.length) && decide (L.length ≤ 4294967296)) (optK (bytesX L) fun s => some (.ret (.d (.str s)), putA (psS u L) 1 (.tok (L.length + 1)))) := rfl
    rw [e2, e1, decide_eq_true rfl, decide_eq_true (by omega)]
    rfl
  show evWith cx (evFun cx 0) 0 72 _ _ = _
  unfold evWith
  rw [e0, e]

def K72 : CK R1 := more 72 (fun a σ => match decO a, psD σ with | some _, some p => some (p, σ) | _, _ => none)
    (fun K q => match q with | ((L, n), σ) => optK (Sp.bytes L) fun s => must (Sp.fit n L) (must (decide (n ≤ 65536)) (K (.ret (.d (.str s))) (putA σ 1 (.tok (n + 1))))))
    (fun K q => by
      obtain ⟨⟨L, n⟩, σ⟩ := q
      simp only [must]
      rw [optP_optK]
      congr 1
      funext s
      simp only [optP_cond]
      rfl) (CK.plain none1)
theorem K72_knows : knows cx K72.S (evLim cx) := more_knows none1K_knows fun a σ q r hd h => by
  obtain ⟨⟨L, n⟩, τ⟩ := q
  simp only at hd h
  split at hd
  · rename_i p ha hp
    cases hd
    obtain ⟨s, hs, h⟩ := optK_some h
    obtain ⟨h1, h⟩ := must_some h
    obtain ⟨h2, h⟩ := must_some h
    cases h
    obtain rfl := decO_some ha
    obtain ⟨u, rfl⟩ := psD_some hp h1
    have hn : n = L.length := of_decide_eq_true h1
    have := of_decide_eq_true h2
    rw [hn]
    exact lim72 u L s hs (by omega)
  · cases hd

theorem g40 (n : Nat) (L : List D) : evBody cx K72 n 40 [.ptr 0 0] (psS true L) = optK (Sp.bytes L) fun s => must (Sp.fit L.length L) (must (decide (L.length ≤ 65536)) (some (Out.ret (V.tup [V.d (D.str s), V.d (D.int IntKind.i64 (0 : Int))]), [(0, Ob.val 76546051 (V.agg [V.ptr 0 0, V.sl 6291457 L 1, V.d (D.bool false)])), (1, Ob.tok (L.length + 1))]))) := by kernel_rfl

theorem g40f (n : Nat) (L : List D) : evBody cx K72 n 40 [.ptr 0 0] (psS false L) = optK (Sp.bytes L) fun s => must (Sp.fit L.length L) (must (decide (L.length ≤ 65536)) (some (Out.ret (V.tup [V.d (D.str s), V.d (D.int IntKind.i64 (0 : Int))]), [(0, Ob.val 76546051 (V.agg [V.d D.nilptr, V.sl 6291457 L 1, V.d (D.bool false)])), (1, Ob.tok (L.length + 1))]))) := by kernel_rfl

theorem g44 (n : Nat) (s : List UInt8) : evBody cx (CK.plain none1) n 44 [.d (.str s)] [] = bif decide ((65536 : Int) < (↑s.length : Int)) then some (Out.ret (V.tup [V.d (D.str []), V.d (D.int IntKind.i64 (3 : Int))]), []) else some (Out.ret (V.tup [V.d (D.str s), V.d (D.int IntKind.i64 (0 : Int))]), []) := by kernel_rfl

theorem lim40 (u : Bool) (L : List D) (s : List UInt8) (h : Sp.bytes L = some s) (hl : L.length ≤ 65536) : evLim cx 40 [.ptr 0 0] (psS u L) = some (.ret (.tup [.d (.str s), .d (.int .i64 0)]), putA (psS u L) 1 (.tok (L.length + 1))) := by
  refine lim_bodyK K72_knows (N := 0) ?_
  cases u
  · rw [g40f, h]
    simp only [optK, must, fit_self, cond_true]
    rw [decide_eq_true hl]
    rfl
  · rw [g40, h]
    simp only [optK, must, fit_self, cond_true]
    rw [decide_eq_true hl]
    rfl
def mkE (p : List UInt8 × Int) : V := .tup [.d (.str p.1), .d (.int .i64 p.2)]
def Sp.done (s : List UInt8) : List UInt8 × Int := bif decide (65536 < s.length) then ([], 3) else (s, 0)
theorem lim44 (s : List UInt8) : evLim cx 44 [.d (.str s)] [] = some (.ret (mkE (Sp.done s)), []) := by
  refine lim_bodyK none1K_knows (N := 0) ?_
  rw [g44]
  unfold Sp.done
  by_cases h : 65536 < s.length
  · rw [decide_eq_true h, decide_eq_true (p := (65536 : Int) < (s.length : Int)) (by omega)]; rfl
  · rw [decide_eq_false h, decide_eq_false (p := (65536 : Int) < (s.length : Int)) (by omega)]; rfl

noncomputable def sp39C : D × Int → Option (List UInt8) | (x, a) => optK (Sp.toC x) fun t => must (Sp.right t) (some (Sp.text t a))
noncomputable def sp43C : D × Int → Option (List UInt8) | (x, a) => optK (Sp.toC x) fun t => must (Sp.right t && Sp.light t) (some (Sp.text t a))
/-- What show.Term and show.File call. -/
noncomputable def K18 : CK R1 := more 40 (fun a σ => match decO a, psD σ with | some _, some p => some (p, σ) | _, _ => none)
    (fun K q => match q with | ((L, n), σ) => optK (Sp.bytes L) fun s => must (Sp.fit n L) (must (decide (n ≤ 65536)) (K (.ret (.tup [.d (.str s), .d (.int .i64 0)])) (putA σ 1 (.tok (n + 1))))))
    (fun K q => by
      obtain ⟨⟨L, n⟩, σ⟩ := q
      simp only [must]
      rw [optP_optK]
      congr 1
      funext s
      simp only [optP_cond]
      rfl) (prK 39 decT2 sp39C (prK 38 decPut catS (pureK 37 decD Sp.toC (fun t => mkB (Sp.right t)) (pureK 36 decStr some (fun s => mkB (Sp.named s)) (CK.plain none1)))))
theorem K18_knows : knows cx K18.S (evLim cx) := by
  have h36 := pureK_knows (f := 36) (dec := decStr) (sp := some) (mk := fun s => mkB (Sp.named s)) none1K_knows fun a q b hd h hb => by
    cases hb; obtain rfl := decStr_some h; exact lim36 q (of_decide_eq_true hd)
  have h37 := pureK_knows (f := 37) (dec := decD) (sp := Sp.toC) (mk := fun t => mkB (Sp.right t)) h36 fun a q b hd h hb => by
    obtain rfl := decD_some h
    obtain ⟨rfl, h1⟩ := toC_some hb
    exact lim37 b.depth b (Nat.le_refl _) h1
  have h38 := prK_knows (f := 38) (dec := decPut) (sp := catS) h37 fun a q s u L h hs hr => by
    obtain ⟨rfl, h1, h2⟩ := decPut_some h
    obtain ⟨m, rfl, rfl⟩ := catS_some hs
    exact lim38 u L m (by simpa using h2) (by intro e; rw [e] at h1; exact h1 rfl) hr
  have h39 := prK_knows (f := 39) (dec := decT2) (sp := sp39C) h38 fun a q s u L ha hs hr => by
    obtain ⟨x, n⟩ := q
    obtain rfl := decT2_some ha
    obtain ⟨t, ht, hs⟩ := optK_some hs
    obtain ⟨hf, hs⟩ := must_some hs
    cases hs
    obtain ⟨rfl, h2⟩ := toC_some ht
    exact lim39 t.depth u L t n (Nat.le_refl _) h2 hf hr
  exact more_knows h39 fun a σ q r hd h => by
    obtain ⟨⟨L, n⟩, τ⟩ := q
    simp only at hd h
    split at hd
    · rename_i p ha hp
      cases hd
      obtain ⟨s, hs, h⟩ := optK_some h
      obtain ⟨h1, h⟩ := must_some h
      obtain ⟨h2, h⟩ := must_some h
      cases h
      obtain rfl := decO_some ha
      obtain ⟨u, rfl⟩ := psD_some hp h1
      have hn : n = L.length := of_decide_eq_true h1
      have := of_decide_eq_true h2
      rw [hn]
      exact lim40 u L s hs (by omega)
    · cases hd
/-- What the reference's Term and File call. -/
noncomputable def K19 : CK R1 := pureK 44 decStr some (fun s => mkE (Sp.done s)) (pureK 43 decDI sp43C mkS (pureK 42 decD Sp.toC (fun t => mkB (Sp.right t)) (pureK 41 decStr some (fun s => mkB (Sp.named s)) (CK.plain none1))))
theorem K19_knows : knows cx K19.S (evLim cx) := by
  have h41 := pureK_knows (f := 41) (dec := decStr) (sp := some) (mk := fun s => mkB (Sp.named s)) none1K_knows fun a q b hd h hb => by
    cases hb; obtain rfl := decStr_some h; exact lim41 q (of_decide_eq_true hd)
  have h42 := pureK_knows (f := 42) (dec := decD) (sp := Sp.toC) (mk := fun t => mkB (Sp.right t)) h41 fun a q b hd h hb => by
    obtain rfl := decD_some h
    obtain ⟨rfl, h1⟩ := toC_some hb
    exact lim42 b.depth b (Nat.le_refl _) h1
  have h43 := pureK_knows (f := 43) (dec := decDI) (sp := sp43C) (mk := mkS) h42 fun a q s _ ha hs => by
    obtain ⟨y, n⟩ := q
    obtain rfl := decDI_some ha
    obtain ⟨t, ht, hs⟩ := optK_some hs
    obtain ⟨hf, hs⟩ := must_some hs
    cases hs
    obtain ⟨rfl, h2⟩ := toC_some ht
    rw [Bool.and_eq_true] at hf
    exact lim43 t.depth t n (Nat.le_refl _) h2 hf.1 hf.2
  exact pureK_knows h43 fun a q b hd h hb => by
    cases hb; obtain rfl := decStr_some h; exact lim44 q
end Go.Vai
end

section
namespace Go.Vai
open Go.Proofs

def Sp.nmsB (a : Int) : List (List UInt8) → Int → Option Int
  | [], b => some b
  | x :: l, b => bif decide (b ≤ a) then (bif decide (a < (x.length : Int)) then none else Sp.nmsB a l (b + 1 + x.length)) else some b
mutual
def Sp.blk : T → Int → Int
  | .mk _ nm kids nms _, a => bif decide (a < (nm.length : Int)) || decide (a < (nms.length : Int)) then a + 1 else match Sp.nmsB a nms (1 + nm.length) with | some b => Sp.kidB kids a b | none => a + 1
def Sp.kidB : List T → Int → Int → Int
  | [], _, b => b
  | t :: l, a, b => bif decide (b ≤ a) then Sp.kidB l a (b + Sp.blk t (a - b)) else b
end
def spB (m : Nat) : D × Int → Option (T × Int) | (x, a) => optK (Sp.toT m x) fun t => must (decide (0 ≤ a) && decide (a ≤ 1048576)) (some (t, a))
noncomputable def KB (m : Nat) : CK R1 := pureK 33 decDI (spB m) (fun q => mkI (Sp.blk q.1 q.2)) (CK.plain none1)

theorem nmsB_some {a : Int} : ∀ {l : List (List UInt8)} {b c : Int}, Sp.nmsB a l b = some c → 0 ≤ b → b ≤ 2 * a + 1 → 0 ≤ a → b ≤ c ∧ c ≤ 2 * a + 1 ∧ (c ≤ a → c = b + Sp.lens l)
  | [], b, c, h, h0, h1, ha => by cases h; exact ⟨Int.le_refl _, h1, fun _ => by simp [Sp.lens]⟩
  | x :: l, b, c, h, h0, h1, ha => by
    unfold Sp.nmsB at h
    by_cases hb : b ≤ a
    · rw [decide_eq_true hb, cond_true] at h
      by_cases hx : a < (x.length : Int)
      · rw [decide_eq_true hx] at h; cases h
      · rw [decide_eq_false hx, cond_false] at h
        obtain ⟨h2, h3, h4⟩ := nmsB_some h (by omega) (by omega) ha
        refine ⟨by omega, h3, fun hc => ?_⟩
        have := h4 hc
        simp only [Sp.lens]
        omega
    · rw [decide_eq_false hb, cond_false] at h
      cases h
      exact ⟨Int.le_refl _, h1, fun hc => by omega⟩

mutual
theorem blk_spec : ∀ (t : T) (a : Int), 0 ≤ a → 0 ≤ Sp.blk t a ∧ Sp.blk t a ≤ 2 * a + 2 ∧ (Sp.blk t a ≤ a → Sp.blk t a = Sp.bulk t)
  | .mk k nm kids nms pl, a, ha => by
    unfold Sp.blk
    cases hc : (decide (a < (nm.length : Int)) || decide (a < (nms.length : Int)))
    · simp only [Bool.or_eq_false_iff, decide_eq_false_iff_not] at hc
      rw [cond_false]
      cases hn : Sp.nmsB a nms (1 + nm.length) with
      | none => simp only; exact ⟨by omega, by omega, fun h => by omega⟩
      | some b =>
        obtain ⟨h2, h3, h4⟩ := nmsB_some hn (by omega) (by omega) ha
        obtain ⟨g1, g2, g3⟩ := kidB_spec kids a b ha (by omega) (by omega)
        simp only
        refine ⟨by omega, g2, fun h => ?_⟩
        have := h4 (by omega)
        have := g3 h
        simp only [Sp.bulk]
        omega
    · rw [cond_true]
      exact ⟨by omega, by omega, fun h => by omega⟩
theorem kidB_spec : ∀ (l : List T) (a b : Int), 0 ≤ a → 1 ≤ b → b ≤ 2 * a + 2 → b ≤ Sp.kidB l a b ∧ Sp.kidB l a b ≤ 2 * a + 2 ∧ (Sp.kidB l a b ≤ a → Sp.kidB l a b = b + Sp.bulks l)
  | [], a, b, ha, hb, hb2 => by unfold Sp.kidB; exact ⟨Int.le_refl _, hb2, fun _ => by simp [Sp.bulks]⟩
  | t :: l, a, b, ha, hb, hb2 => by
    unfold Sp.kidB
    by_cases h : b ≤ a
    · rw [decide_eq_true h, cond_true]
      obtain ⟨h1, h2, h3⟩ := blk_spec t (a - b) (by omega)
      obtain ⟨g1, g2, g3⟩ := kidB_spec l a (b + Sp.blk t (a - b)) ha (by omega) (by omega)
      refine ⟨by omega, g2, fun hc => ?_⟩
      have := g3 hc
      have := h3 (by omega)
      simp only [Sp.bulks]
      omega
    · rw [decide_eq_false h, cond_false]
      exact ⟨Int.le_refl _, hb2, fun hc => by omega⟩
end
end Go.Vai
end

section
namespace Go.Vai
open Go.Proofs

theorem g33 (n m : Nat) (k : Int) (nm : List UInt8) (kids : List T) (nms : List (List UInt8)) (pl a : Int) : evBody cx (KB m) n 33 [.d (.agg [.int .i64 k, .str nm, .sl 5 (T.ds kids), .sl 1 (nms.map .str), .int .i64 pl]), .d (.int .i64 a)] [] = bif decide (a < (↑nm.length : Int)) then some (Out.ret (V.d (D.int IntKind.i64 (IntKind.i64.wrap (a + (1 : Int))))), []) else bif decide (a < (↑(List.map D.str nms).length : Int)) then some (Out.ret (V.d (D.int IntKind.i64 (IntKind.i64.wrap (a + (1 : Int))))), []) else LP cx (KB m) n 33 0 5 n [(1, V.d (D.int IntKind.i64 a)), (2, V.ptr 2 0), (5, V.d (D.int IntKind.i64 (IntKind.i64.wrap ((1 : Int) + (↑nm.length : Int))))), (6, V.d (D.int IntKind.i64 (0 : Int)))] [(2, Ob.val 5 (V.d (D.agg [D.int IntKind.i64 k, D.str nm, D.sl 5 (T.ds kids), D.sl 1 (List.map D.str nms), D.int IntKind.i64 pl])))] (AK cx (KB m) n 33 0 5 (EK cx 33 0)) := by kernel_rfl

theorem l33a (n m r : Nat) (k : Int) (nm : List UInt8) (kids : List T) (nms : List (List UInt8)) (pl a b i : Int) : LP cx (KB m) n 33 0 5 (r + 1) [(1, V.d (D.int IntKind.i64 a)), (2, V.ptr 2 0), (5, V.d (D.int IntKind.i64 b)), (6, V.d (D.int IntKind.i64 i))] [(2, Ob.val 5 (V.d (D.agg [D.int IntKind.i64 k, D.str nm, D.sl 5 (T.ds kids), D.sl 1 (List.map D.str nms), D.int IntKind.i64 pl])))] (AK cx (KB m) n 33 0 5 (EK cx 33 0)) = bif decide (i < (↑(List.map D.str nms).length : Int)) then bif decide (b ≤ a) then must (decide (0 ≤ i) && decide (i < (↑(List.map D.str nms).length : Int))) (nthD (List.map D.str nms) i.toNat fun y => nthD y.cells 0 fun c => match c with
 | D.str s => bif decide (a < (↑s.length : Int)) then some (Out.ret (V.d (D.int IntKind.i64 (IntKind.i64.wrap (a + (1 : Int))))), []) else must (decide (0 ≤ i) && decide (i < (↑(List.map D.str nms).length : Int))) (nthD (List.map D.str nms) i.toNat fun y => nthD y.cells 0 fun c => match c with
  | D.str s => LP cx (KB m) n 33 0 5 r [(1, V.d (D.int IntKind.i64 a)), (2, V.ptr 2 0), (5, V.d (D.int IntKind.i64 (IntKind.i64.wrap (IntKind.i64.wrap (b + (1 : Int)) + (↑s.length : Int))))), (6, V.d (D.int IntKind.i64 (IntKind.i64.wrap (i + (1 : Int)))))] [(2, Ob.val 5 (V.d (D.agg [D.int IntKind.i64 k, D.str nm, D.sl 5 (T.ds kids), D.sl 1 (List.map D.str nms), D.int IntKind.i64 pl])))] (AK cx (KB m) n 33 0 5 (EK cx 33 0))
  | x => none)
 | x => none) else LP cx (KB m) n 33 0 11 n [(1, V.d (D.int IntKind.i64 a)), (2, V.ptr 2 0), (5, V.d (D.int IntKind.i64 b)), (7, V.d (D.int IntKind.i64 (0 : Int)))] [(2, Ob.val 5 (V.d (D.agg [D.int IntKind.i64 k, D.str nm, D.sl 5 (T.ds kids), D.sl 1 (List.map D.str nms), D.int IntKind.i64 pl])))] (AK cx (KB m) n 33 0 11 (EK cx 33 0)) else LP cx (KB m) n 33 0 11 n [(1, V.d (D.int IntKind.i64 a)), (2, V.ptr 2 0), (5, V.d (D.int IntKind.i64 b)), (7, V.d (D.int IntKind.i64 (0 : Int)))] [(2, Ob.val 5 (V.d (D.agg [D.int IntKind.i64 k, D.str nm, D.sl 5 (T.ds kids), D.sl 1 (List.map D.str nms), D.int IntKind.i64 pl])))] (AK cx (KB m) n 33 0 11 (EK cx 33 0)) := by kernel_rfl

theorem l33b (n m r : Nat) (k : Int) (nm : List UInt8) (kids : List T) (nms : List (List UInt8)) (pl a b i : Int) : LP cx (KB m) n 33 0 11 (r + 1) [(1, V.d (D.int IntKind.i64 a)), (2, V.ptr 2 0), (5, V.d (D.int IntKind.i64 b)), (7, V.d (D.int IntKind.i64 i))] [(2, Ob.val 5 (V.d (D.agg [D.int IntKind.i64 k, D.str nm, D.sl 5 (T.ds kids), D.sl 1 (List.map D.str nms), D.int IntKind.i64 pl])))] (AK cx (KB m) n 33 0 11 (EK cx 33 0)) = bif decide (i < (↑(T.ds kids).length : Int)) then bif decide (b ≤ a) then must (decide (0 ≤ i) && decide (i < (↑(T.ds kids).length : Int))) (nthD (T.ds kids) i.toNat fun y => nthD y.cells 0 fun c => nthD y.cells 1 fun c_1 => nthD y.cells 2 fun c_2 => nthD y.cells 3 fun c_3 => nthD y.cells 4 fun c_4 => optK (optK (Sp.toT m (D.agg [c, c_1, c_2, c_3, c_4])) fun t => must (decide (0 ≤ IntKind.i64.wrap (a - b)) && decide (IntKind.i64.wrap (a - b) ≤ 1048576)) (some (t, IntKind.i64.wrap (a - b)))) fun b_1 => LP cx (KB m) n 33 0 11 r [(1, V.d (D.int IntKind.i64 a)), (2, V.ptr 2 0), (5, V.d (D.int IntKind.i64 (IntKind.i64.wrap (b + Sp.blk b_1.fst b_1.snd)))), (7, V.d (D.int IntKind.i64 (IntKind.i64.wrap (i + (1 : Int)))))] [(2, Ob.val 5 (V.d (D.agg [D.int IntKind.i64 k, D.str nm, D.sl 5 (T.ds kids), D.sl 1 (List.map D.str nms), D.int IntKind.i64 pl])))] (AK cx (KB m) n 33 0 11 (EK cx 33 0))) else some (Out.ret (V.d (D.int IntKind.i64 b)), []) else some (Out.ret (V.d (D.int IntKind.i64 b)), []) := by kernel_rfl

theorem g16 (n m : Nat) (l : List T) : evBody cx (KB m) n 16 [.d (.sl 5 (T.ds l))] [] = optK (optK (Sp.toT m (D.agg [D.int IntKind.i64 (0 : Int), D.str [], D.sl 5 (T.ds l), D.sl 1 [], D.int IntKind.i64 (0 : Int)])) fun t => some (t, (1500 : Int))) fun b => some (Out.ret (V.d (D.bool (decide ((1500 : Int) < Sp.blk b.fst b.snd)))), []) := by kernel_rfl

theorem optS {α β : Type} {x : α} {K : α → Option β} : optK (some x) K = K x := by unfold optK; simp

theorem wrapS {x : Int} (h0 : -4294967296 ≤ x) (h1 : x ≤ 17179869184) : IntKind.i64.wrap x = x := IntWalk.i64_in _ (by omega)

section
variable {n m : Nat} {k : Int} {nm : List UInt8} {kids : List T} {nms : List (List UInt8)} {pl a : Int}

theorem loop33b (ha : 0 ≤ a) (ha2 : a ≤ 1048576) (hl : kids.length < 4294967296) (hT : ∀ t ∈ kids, Sp.toT m t.d = some t) : ∀ (rest : List T) (j r : Nat) (b : Int), kids.drop j = rest → j ≤ kids.length → rest.length < r → 1 ≤ b → b ≤ 2 * a + 2 →
    LP cx (KB m) n 33 0 11 r [(1, V.d (D.int IntKind.i64 a)), (2, V.ptr 2 0), (5, V.d (D.int IntKind.i64 b)), (7, V.d (D.int IntKind.i64 j))] [(2, Ob.val 5 (V.d (D.agg [D.int IntKind.i64 k, D.str nm, D.sl 5 (T.ds kids), D.sl 1 (List.map D.str nms), D.int IntKind.i64 pl])))] (AK cx (KB m) n 33 0 11 (EK cx 33 0)) = some (.ret (mkI (Sp.kidB rest a b)), [])
  | [], j, r, b, hd, hj, hk', hb, hb2 => by
    obtain ⟨r, rfl⟩ : ∃ i, r = i + 1 := ⟨r - 1, by omega⟩
    have : kids.length ≤ j := by simpa using hd
    obtain rfl : j = kids.length := by omega
    rw [l33b, ds_len, ge_nat]
    simp [Sp.kidB, mkI]
  | t :: rest, j, r, b, hd, hj, hk', hb, hb2 => by
    obtain ⟨r, rfl⟩ : ∃ i, r = i + 1 := ⟨r - 1, by omega⟩
    obtain ⟨h1, h2, h3⟩ := at_drop hd
    rw [l33b, ds_len, lt_nat h1]
    unfold Sp.kidB
    by_cases h : b ≤ a
    · obtain ⟨q1, q2, _⟩ := blk_spec t (a - b) (by omega)
      have ih := loop33b ha ha2 hl hT rest (j + 1) r (b + Sp.blk t (a - b)) h3 h1 (by simp at hk'; omega) (by omega) (by omega)
      rw [decide_eq_true h, nn_nat, nthD_ds, Int.toNat_natCast, h2, up_short h1 hl, wrapS (x := a - b) (by omega) (by omega)]
      simp only [cond_true, must, optK, Bool.and_self, cells_d, nth0, nth1, nth2, nth3, nth4, agg_d, hT t (List.mem_of_getElem? h2)]
      rw [decide_eq_true (p := 0 ≤ a - b) (by omega), decide_eq_true (p := a - b ≤ 1048576) (by omega)]
      simp only [Bool.and_self, cond_true]
      rw [wrapS (x := b + Sp.blk t (a - b)) (by omega) (by omega)]
      exact ih
    · rw [decide_eq_false h]
      rfl

theorem loop33a (ha : 0 ≤ a) (ha2 : a ≤ 1048576) (hn : 4294967296 < n) (hl : kids.length < 4294967296) (hl2 : nms.length < 4294967296) (hT : ∀ t ∈ kids, Sp.toT m t.d = some t) : ∀ (rest : List (List UInt8)) (j r : Nat) (b : Int), nms.drop j = rest → j ≤ nms.length → rest.length < r → 1 ≤ b → b ≤ 2 * a + 1 →
    LP cx (KB m) n 33 0 5 r [(1, V.d (D.int IntKind.i64 a)), (2, V.ptr 2 0), (5, V.d (D.int IntKind.i64 b)), (6, V.d (D.int IntKind.i64 j))] [(2, Ob.val 5 (V.d (D.agg [D.int IntKind.i64 k, D.str nm, D.sl 5 (T.ds kids), D.sl 1 (List.map D.str nms), D.int IntKind.i64 pl])))] (AK cx (KB m) n 33 0 5 (EK cx 33 0)) = some (.ret (mkI (match Sp.nmsB a rest b with | some c => Sp.kidB kids a c | none => a + 1)), [])
  | [], j, r, b, hd, hj, hk', hb, hb2 => by
    obtain ⟨r, rfl⟩ : ∃ i, r = i + 1 := ⟨r - 1, by omega⟩
    have : nms.length ≤ j := by simpa using hd
    obtain rfl : j = nms.length := by omega
    have hB := loop33b (n := n) (k := k) (nm := nm) (nms := nms) (pl := pl) ha ha2 hl hT kids 0 n b rfl (Nat.zero_le _) (by omega) hb (by omega)
    rw [l33a, List.length_map, ge_nat, cond_false]
    exact hB
  | x :: rest, j, r, b, hd, hj, hk', hb, hb2 => by
    obtain ⟨r, rfl⟩ : ∃ i, r = i + 1 := ⟨r - 1, by omega⟩
    obtain ⟨h1, h2, h3⟩ := at_drop hd
    have hB := loop33b (n := n) (k := k) (nm := nm) (nms := nms) (pl := pl) ha ha2 hl hT kids 0 n b rfl (Nat.zero_le _) (by omega) hb (by omega)
    rw [l33a, List.length_map, lt_nat h1]
    by_cases h : b ≤ a
    · rw [decide_eq_true h, nn_nat, up_short h1 hl2]
      simp only [cond_true, must, Bool.and_self, nthD_strs, Int.toNat_natCast, h2, cells_str, nth0]
      rw [optS]
      by_cases hx : a < (x.length : Int)
      · have e : Sp.nmsB a (x :: rest) b = none := by unfold Sp.nmsB; rw [decide_eq_true h, decide_eq_true hx]; rfl
        rw [decide_eq_true hx, wrapS (x := a + 1) (by omega) (by omega), e, cond_true]
        rfl
      · have ih := loop33a ha ha2 hn hl hl2 hT rest (j + 1) r (b + 1 + x.length) h3 h1 (by simp at hk'; omega) (by omega) (by omega)
        have e : Sp.nmsB a (x :: rest) b = Sp.nmsB a rest (b + 1 + x.length) := by 
          rw [Sp.nmsB, decide_eq_true h, decide_eq_false hx]; rfl
        rw [decide_eq_false hx, cond_false, optS, e, wrapS (x := b + 1) (by omega) (by omega), wrapS (x := b + 1 + x.length) (by omega) (by omega)]
        exact ih
    · have e : Sp.nmsB a (x :: rest) b = some b := by unfold Sp.nmsB; rw [decide_eq_false h]; rfl
      rw [e, decide_eq_false h, cond_true, cond_false]
      exact hB
end

theorem lim33 : ∀ (m : Nat) (t : T) (a : Int), t.depth ≤ m → t.ok = true → 0 ≤ a → a ≤ 1048576 → evLim cx 33 [.d t.d, .d (.int .i64 a)] [] = some (.ret (mkI (Sp.blk t a)), [])
  | 0, .mk .., _, h, _, _, _ => by simp [T.depth] at h
  | m + 1, .mk k nm kids nms pl, a, hd, ho, ha, ha2 => by
    have hK : knows cx (KB m).S (evLim cx) := pureK_knows none1K_knows fun ar q s _ har hs => by
      obtain ⟨y, n⟩ := q
      obtain rfl := decDI_some har
      obtain ⟨t, ht, hs⟩ := optK_some hs
      obtain ⟨hf, hs⟩ := must_some hs
      cases hs
      obtain ⟨rfl, h1, h2⟩ := toT_some ht
      simp only [Bool.and_eq_true, decide_eq_true_eq] at hf
      exact lim33 m t n h1 h2 hf.1 hf.2
    obtain ⟨h1, h2, h3, h4, h5⟩ := ok_inv ho
    have hkd := depth_inv hd
    have hT : ∀ t ∈ kids, Sp.toT m t.d = some t := fun t h => kid_toT hkd h5 h
    refine lim_bodyK hK (N := 4294967297) ?_
    refine (g33 4294967297 m k nm kids nms pl a).trans ?_
    rw [List.length_map]
    unfold Sp.blk
    by_cases q1 : a < (nm.length : Int)
    · rw [decide_eq_true q1, cond_true, Bool.true_or, cond_true, wrapS (x := a + 1) (by omega) (by omega)]
      rfl
    · rw [decide_eq_false q1, cond_false, Bool.false_or]
      by_cases q2 : a < (nms.length : Int)
      · rw [decide_eq_true q2, cond_true, cond_true, wrapS (x := a + 1) (by omega) (by omega)]
        rfl
      · rw [decide_eq_false q2, cond_false, cond_false, wrapS (x := 1 + nm.length) (by omega) (by omega)]
        exact loop33a ha ha2 (by omega) (shrt_lt h2) (shrt_lt h3) hT nms 0 4294967297 (1 + nm.length) rfl (Nat.zero_le _) (by have := shrt_lt h3; omega) (by omega) (by omega)

theorem limGreat (l : List T) (hl : shrt l = true) (ho : T.oks l = true) : evLim cx 16 [.d (.sl 5 (T.ds l))] [] = some (.ret (mkB (decide ((1500 : Int) < Sp.blk (.mk 0 [] l [] 0) 1500))), []) := by
  have hok : (T.mk 0 [] l [] 0).ok = true := by simp only [T.ok, hl, ho]; rfl
  have hK : knows cx (KB (T.mk 0 [] l [] 0).depth).S (evLim cx) := pureK_knows none1K_knows fun ar q s _ har hs => by
    obtain ⟨y, n⟩ := q
    obtain rfl := decDI_some har
    obtain ⟨t, ht, hs⟩ := optK_some hs
    obtain ⟨hf, hs⟩ := must_some hs
    cases hs
    obtain ⟨rfl, h1, h2⟩ := toT_some ht
    simp only [Bool.and_eq_true, decide_eq_true_eq] at hf
    exact lim33 t.depth t n (Nat.le_refl _) h2 hf.1 hf.2
  refine lim_bodyK hK (N := 0) ?_
  rw [g16]
  have := toT_d (Nat.le_refl _) hok
  simp only [T.d, List.map_nil] at this
  rw [this]
  rfl
theorem great_not {l : List T} (h : decide ((1500 : Int) < Sp.blk (.mk 0 [] l [] 0) 1500) = false) : Sp.bulks l < 1500 := by
  have h1 := of_decide_eq_false h
  obtain ⟨_, _, h2⟩ := blk_spec (.mk 0 [] l [] 0) 1500 (by omega)
  have := h2 (by omega)
  simp only [Sp.bulk, List.length_nil, Sp.lens] at this
  omega
end Go.Vai
end

section
namespace Go.Vai
open Go.Proofs

theorem g18 (n : Nat) (l : List T) : evBody cx K18 n 18 [.d (.sl 5 (T.ds l))] [] = LP cx K18 n 18 0 2 n [(0, V.d (D.sl 5 (T.ds l))), (9, V.d (D.sl 5 (T.ds l))), (10, V.d (D.int IntKind.i64 (↑(T.ds l).length : Int))), (11, V.d (D.int IntKind.i64 (0 : Int)))] [] (AK cx K18 n 18 0 2 (EK cx 18 0)) := by kernel_rfl

theorem g20 (n : Nat) (k : Int) (nm : List UInt8) (kids : List T) (nms : List (List UInt8)) (pl : Int) : evBody cx K18 n 20 [.d (.agg [.int .i64 k, .str nm, .sl 5 (T.ds kids), .sl 1 (nms.map .str), .int .i64 pl])] [] = optK (Sp.toC (D.agg [D.int IntKind.i64 k, D.str nm, D.sl 5 (T.ds kids), D.sl 1 (List.map D.str nms), D.int IntKind.i64 pl])) fun b => bif !Sp.right b then some (Out.ret (V.tup [V.d (D.str []), V.d (D.int IntKind.i64 (61 : Int))]), []) else optK (optK (Sp.toC (D.agg [D.int IntKind.i64 k, D.str nm, D.sl 5 (T.ds kids), D.sl 1 (List.map D.str nms), D.int IntKind.i64 pl])) fun t => must (Sp.right t) (some (Sp.text t (0 : Int)))) fun s => must (Sp.room [] s) (optK (Sp.bytes (Sp.app [] s)) fun s_1 => must (Sp.fit (Sp.app [] s).length (Sp.app [] s)) (must (decide ((Sp.app [] s).length ≤ 65536)) (some (Out.ret (V.tup [V.d (D.str s_1), V.d (D.int IntKind.i64 (0 : Int))]), [])))) := by kernel_rfl

theorem g21 (n : Nat) (k : Int) (nm : List UInt8) (kids : List T) (nms : List (List UInt8)) (pl : Int) : evBody cx K18 n 21 [.d (.agg [.int .i64 k, .str nm, .sl 5 (T.ds kids), .sl 1 (nms.map .str), .int .i64 pl])] [] = optK (Sp.toC (D.agg [D.int IntKind.i64 k, D.str nm, D.sl 5 (T.ds kids), D.sl 1 (List.map D.str nms), D.int IntKind.i64 pl])) fun b => bif !Sp.right b then some (Out.ret (V.d (D.int IntKind.i64 (61 : Int))), []) else some (Out.ret (V.d (D.int IntKind.i64 (0 : Int))), []) := by kernel_rfl

theorem g19 (n : Nat) (l : List T) : evBody cx K19 n 19 [.d (.sl 5 (T.ds l))] [] = LP cx K19 n 19 0 3 n [(0, V.d (D.sl 5 (T.ds l))), (4, V.d (D.str [])), (5, V.d (D.int IntKind.i64 (0 : Int)))] [] (AK cx K19 n 19 0 3 (EK cx 19 0)) := by kernel_rfl

theorem l18a (n r : Nat) (l : List T) (i : Int) : LP cx K18 n 18 0 2 (r + 1) [(0, V.d (D.sl 5 (T.ds l))), (9, V.d (D.sl 5 (T.ds l))), (10, V.d (D.int IntKind.i64 (l.length : Int))), (11, V.d (D.int IntKind.i64 i))] [] (AK cx K18 n 18 0 2 (EK cx 18 0)) = bif decide (i < (↑l.length : Int)) then must (decide (0 ≤ i) && decide (i < (↑(T.ds l).length : Int))) (nthD (T.ds l) i.toNat fun y => nthD y.cells 0 fun c => nthD y.cells 1 fun c_1 => nthD y.cells 2 fun c_2 => nthD y.cells 3 fun c_3 => nthD y.cells 4 fun c_4 => match c with
 | D.int k' n_1 => bif decide (k' = IntKind.i64) then bif !decide (n_1 = (18 : Int)) then some (Out.ret (V.tup [V.d (D.str []), V.d (D.int IntKind.i64 (61 : Int))]), []) else match c_1 with
  | D.str s => must (decide (s.length ≤ big)) (bif !Sp.named s then some (Out.ret (V.tup [V.d (D.str []), V.d (D.int IntKind.i64 (61 : Int))]), []) else match c_3 with
   | D.sl s l_1 => bif s.beq (cx.P.cellsOf 9) || l_1.isEmpty then bif decide ((0 : Int) < (↑l_1.length : Int)) then some (Out.ret (V.tup [V.d (D.str []), V.d (D.int IntKind.i64 (61 : Int))]), []) else match c_2 with
    | D.sl s l_2 => bif s.beq (cx.P.cellsOf 26) || l_2.isEmpty then bif !decide ((↑l_2.length : Int) = (2 : Int)) then some (Out.ret (V.tup [V.d (D.str []), V.d (D.int IntKind.i64 (61 : Int))]), []) else match c_2 with
     | D.sl s l_3 => bif s.beq (cx.P.cellsOf 26) || l_3.isEmpty then must (decide ((0 : Int) < (↑l_3.length : Int))) (nthD l_3 (0 : Int).toNat fun y => nthD y.cells 0 fun c => nthD y.cells 1 fun c_5 => nthD y.cells 2 fun c_6 => nthD y.cells 3 fun c_7 => nthD y.cells 4 fun c_8 => optK (Sp.toC (D.agg [c, c_5, c_6, c_7, c_8])) fun b => bif !Sp.right b then some (Out.ret (V.tup [V.d (D.str []), V.d (D.int IntKind.i64 (61 : Int))]), []) else match c_2 with
      | D.sl s l_4 => bif s.beq (cx.P.cellsOf 26) || l_4.isEmpty then must (decide ((1 : Int) < (↑l_4.length : Int))) (nthD l_4 (1 : Int).toNat fun y => nthD y.cells 0 fun c => nthD y.cells 1 fun c_9 => nthD y.cells 2 fun c_10 => nthD y.cells 3 fun c_11 => nthD y.cells 4 fun c_12 => optK (Sp.toC (D.agg [c, c_9, c_10, c_11, c_12])) fun b => bif !Sp.right b then some (Out.ret (V.tup [V.d (D.str []), V.d (D.int IntKind.i64 (61 : Int))]), []) else LP cx K18 n 18 0 2 r [(0, V.d (D.sl 5 (T.ds l))), (9, V.d (D.sl 5 (T.ds l))), (10, V.d (D.int IntKind.i64 (↑l.length : Int))), (11, V.d (D.int IntKind.i64 (IntKind.i64.wrap (i + (1 : Int)))))] [] (AK cx K18 n 18 0 2 (EK cx 18 0))) else none
      | x => none) else none
     | x => none else none
    | x => none else none
   | x => none)
  | x => none else none
 | x => none) else LP cx K18 n 18 0 9 n [(6, V.ptr 54 0), (55, V.d (D.sl 5 (T.ds l))), (56, V.d (D.int IntKind.i64 (↑(T.ds l).length : Int))), (57, V.d (D.int IntKind.i64 (0 : Int)))] [(54, Ob.val 76546051 (V.agg [V.d D.nilptr, V.sl 6291457 [] 142, V.d (D.bool false)])), (142, Ob.tok 0)] (AK cx K18 n 18 0 9 (EK cx 18 0)) := by kernel_rfl

theorem l19F (n r : Nat) (l : List T) (s : List UInt8) (i : Int) : LP cx K19 n 19 0 3 (r + 1) [(0, V.d (D.sl 5 (T.ds l))), (4, V.d (D.str s)), (5, V.d (D.int IntKind.i64 i))] [] (AK cx K19 n 19 0 3 (EK cx 19 0)) = bif decide (i < (↑(T.ds l).length : Int)) then must (decide (0 ≤ i) && decide (i < (↑(T.ds l).length : Int))) (nthD (T.ds l) i.toNat fun y => nthD y.cells 0 fun c => nthD y.cells 1 fun c_1 => nthD y.cells 2 fun c_2 => nthD y.cells 3 fun c_3 => nthD y.cells 4 fun c_4 => match c with
 | D.int k' n_1 => bif decide (k' = IntKind.i64) then bif !decide (n_1 = (18 : Int)) then some (Out.ret (V.tup [V.d (D.str []), V.d (D.int IntKind.i64 (61 : Int))]), []) else match c_1 with
  | D.str s_1 => must (decide (s_1.length ≤ big)) (bif !Sp.named s_1 then some (Out.ret (V.tup [V.d (D.str []), V.d (D.int IntKind.i64 (61 : Int))]), []) else match c_3 with
   | D.sl s_2 l_1 => bif s_2.beq (cx.P.cellsOf 9) || l_1.isEmpty then bif decide ((0 : Int) < (↑l_1.length : Int)) then some (Out.ret (V.tup [V.d (D.str []), V.d (D.int IntKind.i64 (61 : Int))]), []) else match c_2 with
    | D.sl s_3 l_2 => bif s_3.beq (cx.P.cellsOf 26) || l_2.isEmpty then bif !decide ((↑l_2.length : Int) = (2 : Int)) then some (Out.ret (V.tup [V.d (D.str []), V.d (D.int IntKind.i64 (61 : Int))]), []) else match c_2 with
     | D.sl s_4 l_3 => bif s_4.beq (cx.P.cellsOf 26) || l_3.isEmpty then must (decide ((0 : Int) < (↑l_3.length : Int))) (nthD l_3 (0 : Int).toNat fun y => nthD y.cells 0 fun c => nthD y.cells 1 fun c_5 => nthD y.cells 2 fun c_6 => nthD y.cells 3 fun c_7 => nthD y.cells 4 fun c_8 => optK (Sp.toC (D.agg [c, c_5, c_6, c_7, c_8])) fun b => bif !Sp.right b then some (Out.ret (V.tup [V.d (D.str []), V.d (D.int IntKind.i64 (61 : Int))]), []) else match c_2 with
      | D.sl s_5 l_4 => bif s_5.beq (cx.P.cellsOf 26) || l_4.isEmpty then must (decide ((1 : Int) < (↑l_4.length : Int))) (nthD l_4 (1 : Int).toNat fun y => nthD y.cells 0 fun c => nthD y.cells 1 fun c_9 => nthD y.cells 2 fun c_10 => nthD y.cells 3 fun c_11 => nthD y.cells 4 fun c_12 => optK (Sp.toC (D.agg [c, c_9, c_10, c_11, c_12])) fun b => bif !Sp.right b then some (Out.ret (V.tup [V.d (D.str []), V.d (D.int IntKind.i64 (61 : Int))]), []) else match c_1 with
       | D.str s_6 => must (decide (s.length + s_6.length ≤ 4611686018427387904)) (must (decide ((s ++ s_6).length + [32, 58, 32].length ≤ 4611686018427387904)) (match c_2 with
        | D.sl s_7 l_5 => bif s_7.beq (cx.P.cellsOf 26) || l_5.isEmpty then must (decide ((0 : Int) < (↑l_5.length : Int))) (nthD l_5 (0 : Int).toNat fun y => nthD y.cells 0 fun c => nthD y.cells 1 fun c_13 => nthD y.cells 2 fun c_14 => nthD y.cells 3 fun c_15 => nthD y.cells 4 fun c_16 => optK (optK (Sp.toC (D.agg [c, c_13, c_14, c_15, c_16])) fun t => must (Sp.right t && Sp.light t) (some (Sp.text t (0 : Int)))) fun b => must (decide ((s ++ s_6 ++ [32, 58, 32]).length + b.length ≤ 4611686018427387904)) (must (decide ((s ++ s_6 ++ [32, 58, 32] ++ b).length + [32, 61, 32].length ≤ 4611686018427387904)) (match c_2 with | D.sl s_8 l_6 => bif s_8.beq (cx.P.cellsOf 26) || l_6.isEmpty then must (decide ((1 : Int) < (↑l_6.length : Int))) (nthD l_6 (1 : Int).toNat fun y => nthD y.cells 0 fun c => nthD y.cells 1 fun c_17 => nthD y.cells 2 fun c_18 => nthD y.cells 3 fun c_19 => nthD y.cells 4 fun c_20 => optK (optK (Sp.toC (D.agg [c, c_17, c_18, c_19, c_20])) fun t => must (Sp.right t && Sp.light t) (some (Sp.text t (0 : Int)))) fun b_1 => must (decide ((s ++ s_6 ++ [32, 58, 32] ++ b ++ [32, 61, 32]).length + b_1.length ≤ 4611686018427387904)) (must (decide ((s ++ s_6 ++ [32, 58, 32] ++ b ++ [32, 61, 32] ++ b_1).length + [59, 10].length ≤ 4611686018427387904)) (LP cx K19 n 19 0 3 r [(0, V.d (D.sl 5 (T.ds l))), (4, V.d (D.str (s ++ s_6 ++ [32, 58, 32] ++ b ++ [32, 61, 32] ++ b_1 ++ [59, 10]))), (5, V.d (D.int IntKind.i64 (IntKind.i64.wrap (i + (1 : Int)))))] [] (AK cx K19 n 19 0 3 (EK cx 19 0))))) else none | x => none))) else none
        | x => none))
       | x => none) else none
      | x => none) else none
     | x => none else none
    | x => none else none
   | x => none)
  | x => none else none
 | x => none) else must (decide (s.length ≤ big)) (some (Out.ret (V.tup [V.d (D.str (Sp.done s).1), V.d (D.int IntKind.i64 (Sp.done s).snd)]), [])) := by kernel_rfl

theorem l18b (n r : Nat) (l : List T) (L : List D) (i : Int) : LP cx K18 n 18 0 9 (r + 1) [(6, V.ptr 54 0), (55, V.d (D.sl 5 (T.ds l))), (56, V.d (D.int IntKind.i64 (l.length : Int))), (57, V.d (D.int IntKind.i64 i))] [(54, Ob.val 76546051 (V.agg [V.ptr 54 0, V.sl 6291457 L 142, V.d (D.bool false)])), (142, Ob.tok L.length)] (AK cx K18 n 18 0 9 (EK cx 18 0)) = bif decide (i < (↑l.length : Int)) then must (decide (0 ≤ i) && decide (i < (↑(T.ds l).length : Int))) (nthD (T.ds l) i.toNat fun y => nthD y.cells 0 fun c => nthD y.cells 1 fun c => nthD y.cells 2 fun c_1 => nthD y.cells 3 fun c_2 => nthD y.cells 4 fun c_3 => match c with
 | D.str s => must (Sp.fit L.length L) (must (Sp.room L (s ++ ([32, 58, 32] ++ []))) (match c_1 with
  | D.sl s_1 l_1 => bif s_1.beq (cx.P.cellsOf 26) || l_1.isEmpty then must (decide ((0 : Int) < (↑l_1.length : Int))) (nthD l_1 (0 : Int).toNat fun y => nthD y.cells 0 fun c => nthD y.cells 1 fun c_4 => nthD y.cells 2 fun c_5 => nthD y.cells 3 fun c_6 => nthD y.cells 4 fun c_7 => optK (optK (Sp.toC (D.agg [c, c_4, c_5, c_6, c_7])) fun t => must (Sp.right t) (some (Sp.text t (0 : Int)))) fun s_2 => must (Sp.fit (Sp.app L (s ++ ([32, 58, 32] ++ []))).length (Sp.app L (s ++ ([32, 58, 32] ++ [])))) (must (Sp.room (Sp.app L (s ++ ([32, 58, 32] ++ []))) s_2) (must (Sp.fit (Sp.app (Sp.app L (s ++ ([32, 58, 32] ++ []))) s_2).length (Sp.app (Sp.app L (s ++ ([32, 58, 32] ++ []))) s_2)) (must (Sp.room (Sp.app (Sp.app L (s ++ ([32, 58, 32] ++ []))) s_2) [32, 61, 32]) (match c_1 with
   | D.sl s_3 l_2 => bif s_3.beq (cx.P.cellsOf 26) || l_2.isEmpty then must (decide ((1 : Int) < (↑l_2.length : Int))) (nthD l_2 (1 : Int).toNat fun y => nthD y.cells 0 fun c => nthD y.cells 1 fun c_8 => nthD y.cells 2 fun c_9 => nthD y.cells 3 fun c_10 => nthD y.cells 4 fun c_11 => optK (optK (Sp.toC (D.agg [c, c_8, c_9, c_10, c_11])) fun t => must (Sp.right t) (some (Sp.text t (0 : Int)))) fun s_4 => must (Sp.fit (Sp.app (Sp.app (Sp.app L (s ++ ([32, 58, 32] ++ []))) s_2) [32, 61, 32]).length (Sp.app (Sp.app (Sp.app L (s ++ ([32, 58, 32] ++ []))) s_2) [32, 61, 32])) (must (Sp.room (Sp.app (Sp.app (Sp.app L (s ++ ([32, 58, 32] ++ []))) s_2) [32, 61, 32]) s_4) (must (Sp.fit (Sp.app (Sp.app (Sp.app (Sp.app L (s ++ ([32, 58, 32] ++ []))) s_2) [32, 61, 32]) s_4).length (Sp.app (Sp.app (Sp.app (Sp.app L (s ++ ([32, 58, 32] ++ []))) s_2) [32, 61, 32]) s_4)) (must (Sp.room (Sp.app (Sp.app (Sp.app (Sp.app L (s ++ ([32, 58, 32] ++ []))) s_2) [32, 61, 32]) s_4) [59, 10]) (LP cx K18 n 18 0 9 r [(6, V.ptr 54 0), (55, V.d (D.sl 5 (T.ds l))), (56, V.d (D.int IntKind.i64 (↑l.length : Int))), (57, V.d (D.int IntKind.i64 (IntKind.i64.wrap (i + (1 : Int)))))] [(54, Ob.val 76546051 (V.agg [V.ptr 54 0, V.sl 6291457 (Sp.app (Sp.app (Sp.app (Sp.app (Sp.app L (s ++ ([32, 58, 32] ++ []))) s_2) [32, 61, 32]) s_4) [59, 10]) 142, V.d (D.bool false)])), (142, Ob.tok (Sp.app (Sp.app (Sp.app (Sp.app (Sp.app L (s ++ ([32, 58, 32] ++ []))) s_2) [32, 61, 32]) s_4) [59, 10]).length)] (AK cx K18 n 18 0 9 (EK cx 18 0))))))) else none
   | x => none))))) else none
  | x => none))
 | x => none) else optK (Sp.bytes L) fun s => must (Sp.fit L.length L) (must (decide (L.length ≤ 65536)) (some (Out.ret (V.tup [V.d (D.str s), V.d (D.int IntKind.i64 (0 : Int))]), []))) := by kernel_rfl

theorem l18bf (n r : Nat) (l : List T) (L : List D) (i : Int) : LP cx K18 n 18 0 9 (r + 1) [(6, V.ptr 54 0), (55, V.d (D.sl 5 (T.ds l))), (56, V.d (D.int IntKind.i64 (l.length : Int))), (57, V.d (D.int IntKind.i64 i))] [(54, Ob.val 76546051 (V.agg [V.d D.nilptr, V.sl 6291457 L 142, V.d (D.bool false)])), (142, Ob.tok L.length)] (AK cx K18 n 18 0 9 (EK cx 18 0)) = bif decide (i < (↑l.length : Int)) then must (decide (0 ≤ i) && decide (i < (↑(T.ds l).length : Int))) (nthD (T.ds l) i.toNat fun y => nthD y.cells 0 fun c => nthD y.cells 1 fun c => nthD y.cells 2 fun c_1 => nthD y.cells 3 fun c_2 => nthD y.cells 4 fun c_3 => match c with
 | D.str s => must (Sp.fit L.length L) (must (Sp.room L (s ++ ([32, 58, 32] ++ []))) (match c_1 with
  | D.sl s_1 l_1 => bif s_1.beq (cx.P.cellsOf 26) || l_1.isEmpty then must (decide ((0 : Int) < (↑l_1.length : Int))) (nthD l_1 (0 : Int).toNat fun y => nthD y.cells 0 fun c => nthD y.cells 1 fun c_4 => nthD y.cells 2 fun c_5 => nthD y.cells 3 fun c_6 => nthD y.cells 4 fun c_7 => optK (optK (Sp.toC (D.agg [c, c_4, c_5, c_6, c_7])) fun t => must (Sp.right t) (some (Sp.text t (0 : Int)))) fun s_2 => must (Sp.fit (Sp.app L (s ++ ([32, 58, 32] ++ []))).length (Sp.app L (s ++ ([32, 58, 32] ++ [])))) (must (Sp.room (Sp.app L (s ++ ([32, 58, 32] ++ []))) s_2) (must (Sp.fit (Sp.app (Sp.app L (s ++ ([32, 58, 32] ++ []))) s_2).length (Sp.app (Sp.app L (s ++ ([32, 58, 32] ++ []))) s_2)) (must (Sp.room (Sp.app (Sp.app L (s ++ ([32, 58, 32] ++ []))) s_2) [32, 61, 32]) (match c_1 with
   | D.sl s_3 l_2 => bif s_3.beq (cx.P.cellsOf 26) || l_2.isEmpty then must (decide ((1 : Int) < (↑l_2.length : Int))) (nthD l_2 (1 : Int).toNat fun y => nthD y.cells 0 fun c => nthD y.cells 1 fun c_8 => nthD y.cells 2 fun c_9 => nthD y.cells 3 fun c_10 => nthD y.cells 4 fun c_11 => optK (optK (Sp.toC (D.agg [c, c_8, c_9, c_10, c_11])) fun t => must (Sp.right t) (some (Sp.text t (0 : Int)))) fun s_4 => must (Sp.fit (Sp.app (Sp.app (Sp.app L (s ++ ([32, 58, 32] ++ []))) s_2) [32, 61, 32]).length (Sp.app (Sp.app (Sp.app L (s ++ ([32, 58, 32] ++ []))) s_2) [32, 61, 32])) (must (Sp.room (Sp.app (Sp.app (Sp.app L (s ++ ([32, 58, 32] ++ []))) s_2) [32, 61, 32]) s_4) (must (Sp.fit (Sp.app (Sp.app (Sp.app (Sp.app L (s ++ ([32, 58, 32] ++ []))) s_2) [32, 61, 32]) s_4).length (Sp.app (Sp.app (Sp.app (Sp.app L (s ++ ([32, 58, 32] ++ []))) s_2) [32, 61, 32]) s_4)) (must (Sp.room (Sp.app (Sp.app (Sp.app (Sp.app L (s ++ ([32, 58, 32] ++ []))) s_2) [32, 61, 32]) s_4) [59, 10]) (LP cx K18 n 18 0 9 r [(6, V.ptr 54 0), (55, V.d (D.sl 5 (T.ds l))), (56, V.d (D.int IntKind.i64 (↑l.length : Int))), (57, V.d (D.int IntKind.i64 (IntKind.i64.wrap (i + (1 : Int)))))] [(54, Ob.val 76546051 (V.agg [V.ptr 54 0, V.sl 6291457 (Sp.app (Sp.app (Sp.app (Sp.app (Sp.app L (s ++ ([32, 58, 32] ++ []))) s_2) [32, 61, 32]) s_4) [59, 10]) 142, V.d (D.bool false)])), (142, Ob.tok (Sp.app (Sp.app (Sp.app (Sp.app (Sp.app L (s ++ ([32, 58, 32] ++ []))) s_2) [32, 61, 32]) s_4) [59, 10]).length)] (AK cx K18 n 18 0 9 (EK cx 18 0))))))) else none
   | x => none))))) else none
  | x => none))
 | x => none) else optK (Sp.bytes L) fun s => must (Sp.fit L.length L) (must (decide (L.length ≤ 65536)) (some (Out.ret (V.tup [V.d (D.str s), V.d (D.int IntKind.i64 (0 : Int))]), []))) := by kernel_rfl

def Sp.declOk : T → Bool | .mk k nm [a, b] [] _ => decide (k = 18) && Sp.named nm && Sp.right a && Sp.right b | _ => false
def Sp.declT : T → List UInt8 | .mk _ nm [a, b] _ _ => nm ++ [32, 58, 32] ++ Sp.text a 0 ++ [32, 61, 32] ++ Sp.text b 0 ++ [59, 10] | _ => []
def Sp.declTs (l : List T) : List UInt8 := (l.map Sp.declT).flatten
def Sp.file (l : List T) : List UInt8 × Int := bif l.all Sp.declOk then (Sp.declTs l, 0) else ([], 61)
theorem declT_len (t : T) : (Sp.declT t).length ≤ 12 * Sp.bulk t := by
  obtain ⟨k, nm, kids, nms, pl⟩ := t
  rcases kids with _ | ⟨a, _ | ⟨b, _ | ⟨c, l⟩⟩⟩
  · simp [Sp.declT]
  · simp [Sp.declT]
  · have := text_len a 0
    have := text_len b 0
    simp only [Sp.declT, Sp.bulk, Sp.bulks, List.length_append, List.length_cons, List.length_nil]
    omega
  · simp [Sp.declT]
theorem declTs_len : ∀ l : List T, (Sp.declTs l).length ≤ 12 * Sp.bulks l
  | [] => by simp [Sp.declTs]
  | t :: l => by
    have := declT_len t
    have := declTs_len l
    simp only [Sp.declTs, List.map_cons, List.flatten_cons, List.length_append, Sp.bulks] at this ⊢
    omega
theorem declOk_inv {t : T} (h : Sp.declOk t = true) : ∃ nm a b pl, t = .mk 18 nm [a, b] [] pl ∧ Sp.named nm = true ∧ Sp.right a = true ∧ Sp.right b = true := by
  obtain ⟨k, nm, kids, nms, pl⟩ := t
  rcases kids with _ | ⟨a, _ | ⟨b, _ | ⟨c, l⟩⟩⟩ <;> rcases nms with _ | ⟨x, r⟩ <;> simp [Sp.declOk] at h
  obtain ⟨⟨⟨rfl, h1⟩, h2⟩, h3⟩ := h
  exact ⟨nm, a, b, pl, rfl, h1, h2, h3⟩

def prV (u : Bool) : V := match u with | true => .ptr 54 0 | false => .d .nilptr
noncomputable abbrev L18 (n r : Nat) (l : List T) (u : Bool) (L : List D) (i : Int) : Option R1 :=
  LP cx K18 n 18 0 9 r [(6, V.ptr 54 0), (55, V.d (D.sl 5 (T.ds l))), (56, V.d (D.int IntKind.i64 (l.length : Int))), (57, V.d (D.int IntKind.i64 i))] [(54, Ob.val 76546051 (V.agg [prV u, V.sl 6291457 L 142, V.d (D.bool false)])), (142, Ob.tok L.length)] (AK cx K18 n 18 0 9 (EK cx 18 0))

theorem loop18b (n : Nat) {l : List T} (hl : l.length < 4294967296) (ho : T.oks l = true) (hd0 : ∀ t ∈ l, Sp.declOk t = true) : ∀ (rest : List T) (j r : Nat) (u : Bool) (s : List UInt8), l.drop j = rest → j ≤ l.length → rest.length < r → s.length + (Sp.declTs rest).length ≤ 65536 →
    L18 n r l u (Sp.app [] s) j = some (.ret (mkE (s ++ Sp.declTs rest, 0)), [])
  | [], j, r, u, s, hd, hj, hk', hb => by
    obtain ⟨r, rfl⟩ : ∃ i, r = i + 1 := ⟨r - 1, by omega⟩
    have : l.length ≤ j := by simpa using hd
    obtain rfl : j = l.length := by omega
    have e : (Sp.app [] s).length ≤ 65536 := by rw [app_len]; simp; omega
    simp only [L18, Sp.declTs, List.map_nil, List.flatten_nil, List.append_nil]
    cases u
    · refine (l18bf n r l (Sp.app [] s) l.length).trans ?_
      rw [ge_nat, cond_false, bytes_app]
      simp only [must, fit_self, cond_true, optS]
      rw [decide_eq_true e]
      rfl
    · refine (l18b n r l (Sp.app [] s) l.length).trans ?_
      rw [ge_nat, cond_false, bytes_app]
      simp only [must, fit_self, cond_true, optS]
      rw [decide_eq_true e]
      rfl
  | t :: rest, j, r, u, s, hd, hj, hk', hb => by
    obtain ⟨r, rfl⟩ : ∃ i, r = i + 1 := ⟨r - 1, by omega⟩
    obtain ⟨h1, h2, h3⟩ := at_drop hd
    have htm := List.mem_of_getElem? h2
    obtain ⟨nm, a, b, pl, rfl, hn, ha, hbb⟩ := declOk_inv (hd0 t htm)
    obtain ⟨_, _, _, _, o5⟩ := ok_inv (oks_mem ho htm)
    have ih := loop18b n hl ho hd0 rest (j + 1) r true (s ++ Sp.declT (.mk 18 nm [a, b] [] pl)) h3 h1 (by simp at hk'; omega) (by simp only [Sp.declTs, List.map_cons, List.flatten_cons, List.length_append] at hb ⊢; omega)
    have e : s ++ Sp.declTs (.mk 18 nm [a, b] [] pl :: rest) = s ++ Sp.declT (.mk 18 nm [a, b] [] pl) ++ Sp.declTs rest := by simp [Sp.declTs]
    rw [e, ← ih]
    have hlen : s.length + (nm.length + 3 + (Sp.text a 0).length + 3 + (Sp.text b 0).length + 2) ≤ 65536 := by
      simp only [Sp.declTs, List.map_cons, List.flatten_cons, List.length_append, Sp.declT, List.length_cons, List.length_nil] at hb
      omega
    have e0 : decide ((0 : Int) < ((T.ds [a, b]).length : Int)) = true := by rw [ds_len]; rfl
    have e1 : decide ((1 : Int) < ((T.ds [a, b]).length : Int)) = true := by rw [ds_len]; rfl
    have n0 : [a, b][(0 : Int).toNat]? = some a := rfl
    have n1 : [a, b][(1 : Int).toNat]? = some b := rfl
    have hCa : Sp.toC a.d = some a := kid_toC o5 (by simp)
    have hCb : Sp.toC b.d = some b := kid_toC o5 (by simp)
    have hal : (Sp.app [] s).length = s.length := by rw [app_len]; simp
    simp only [L18]
    cases u
    · refine (l18bf n r l (Sp.app [] s) j).trans ?_
      rw [lt_nat h1, ds_len, lt_nat h1, nn_nat, nthD_ds, Int.toNat_natCast, h2, up_short h1 hl, optS]
      simp only [cond_true, must, Bool.and_self, ↓cells_mk, nth0, nth1, nth2, nth3, nth4, fit_self, spl26, Bool.true_or, e0, e1, nthD_ds, n0, n1, cells_d, agg_mk, mk_eta, hCa, hCb, optS, ha, hbb]
      simp (disch := ((try simp only [app_len, hal, List.length_append, List.length_cons, List.length_nil]); omega)) only [room_of, cond_true]
      simp [app_app, prV, Sp.declT]
    · refine (l18b n r l (Sp.app [] s) j).trans ?_
      rw [lt_nat h1, ds_len, lt_nat h1, nn_nat, nthD_ds, Int.toNat_natCast, h2, up_short h1 hl, optS]
      simp only [cond_true, must, Bool.and_self, ↓cells_mk, nth0, nth1, nth2, nth3, nth4, fit_self, spl26, Bool.true_or, e0, e1, nthD_ds, n0, n1, cells_d, agg_mk, mk_eta, hCa, hCb, optS, ha, hbb]
      simp (disch := ((try simp only [app_len, hal, List.length_append, List.length_cons, List.length_nil]); omega)) only [room_of, cond_true]
      simp [app_app, prV, Sp.declT]

/-- A list of trees that may be a file is one, or is not at the first that may not. -/
theorem limFile (l : List T) (hl : shrt l = true) (ho : T.oks l = true) (hb : 12 * Sp.bulks l ≤ 65536) : evLim cx 18 [.d (.sl 5 (T.ds l))] [] = some (.ret (mkE (Sp.file l)), []) := by
  refine lim_bodyK K18_knows (N := l.length + 1) ?_
  rw [g18]
  have h := find_loop0 (fun r i => LP cx K18 (l.length + 1) 18 0 2 r [(0, V.d (D.sl 5 (T.ds l))), (9, V.d (D.sl 5 (T.ds l))), (10, V.d (D.int IntKind.i64 (l.length : Int))), (11, V.d (D.int IntKind.i64 i))] [] (AK cx K18 (l.length + 1) 18 0 2 (EK cx 18 0)))
    l (fun t => !Sp.declOk t) (fun j => some (Out.ret (mkE ([], 61)), [])) (L18 (l.length + 1) (l.length + 1) l false [] 0) (shrt_lt hl)
    (fun r j x hj hx => by
      rw [l18a, ds_len, lt_nat hj, nn_nat, nthD_ds, Int.toNat_natCast, hx, optS]
      obtain ⟨q1, q2, q3, q4, q5⟩ : shrt x.nm = true ∧ shrt x.kids = true ∧ shrt x.nms = true ∧ x.nms.all shrt = true ∧ T.oks x.kids = true := by
        have := oks_mem ho (List.mem_of_getElem? hx)
        cases x; exact ok_inv this
      have hC : ∀ t ∈ x.kids, Sp.toC t.d = some t := fun t h => kid_toC q5 h
      generalize LP cx K18 (l.length + 1) 18 0 2 r _ _ _ = Z
      obtain ⟨k', nm', kids', nms', pl'⟩ := x
      simp only [nm_mk, kids_mk, nms_mk] at q1 q2 q3 q4 q5 hC
      simp only [cond_true, must, optS, Bool.and_self, ↓cells_mk, nth0, nth1, nth2, nth3, nth4, decide_true, spl9, spl26, Bool.true_or, ds_len, List.length_map, lenP, lenP1, lenO, lenT, lenZ, nthD_ds, cells_d, agg_mk, mk_eta, shrt_big q1]
      have hk : k' = 18 ∨ k' ≠ 18 := by omega
      rcases hk with rfl | hk <;> rcases kids' with _ | ⟨b, _ | ⟨c, _ | ⟨d, l⟩⟩⟩ <;> rcases nms' with _ | ⟨y, nms'⟩ <;> simp [Sp.declOk, hC, optS, mkE, *]
      cases Sp.named nm' <;> cases Sp.right b <;> cases Sp.right c <;> rfl)
    (fun r => by rw [l18a, ge_nat, cond_false, ds_len]; rfl) (k := l.length + 1) (by omega)
  rw [ds_len]
  refine h.trans ?_
  unfold Sp.file
  have e : l.all Sp.declOk = !(l.any fun s => !Sp.declOk s) := by rw [List.not_any_eq_all_not]; simp
  cases hf : Sp.findN (fun t => !Sp.declOk t) l 0 with
  | some j =>
    have : l.any (fun s => !Sp.declOk s) = true := by rw [← findN_any l 0, hf]; rfl
    rw [e, this]
    rfl
  | none =>
    have h0 : l.any (fun s => !Sp.declOk s) = false := by rw [← findN_any l 0, hf]; rfl
    have hall : ∀ t ∈ l, Sp.declOk t = true := by
      have : l.all Sp.declOk = true := by rw [e, h0]; rfl
      exact List.all_eq_true.1 this
    have := declTs_len l
    have hL := loop18b (l.length + 1) (shrt_lt hl) ho hall l 0 (l.length + 1) false [] rfl (Nat.zero_le _) (by omega) (by simp; omega)
    rw [e, h0]
    exact hL

theorem lim20 (t : T) (ho : t.ok = true) (hb : 12 * Sp.bulk t ≤ 65536) : evLim cx 20 [.d t.d] [] = some (.ret (mkE (bif Sp.right t then (Sp.text t 0, 0) else ([], 61))), []) := by
  refine lim_bodyK K18_knows (N := 0) ?_
  have hC := toC_d ho
  have hlen := text_len t 0
  obtain ⟨k, nm, kids, nms, pl⟩ := t
  refine (g20 0 k nm kids nms pl).trans ?_
  simp only [T.d] at hC
  rw [hC, optS]
  cases hr : Sp.right (.mk k nm kids nms pl)
  · rfl
  · simp only [Bool.not_true, cond_false, must, cond_true, optS, hr, bytes_app, fit_self]
    rw [room_of (by simp; omega), decide_eq_true (by rw [app_len]; simp; omega)]
    rfl
theorem limRight (t : T) (ho : t.ok = true) : evLim cx 21 [.d t.d] [] = some (.ret (mkI (bif Sp.right t then 0 else 61)), []) := by
  refine lim_bodyK K18_knows (N := 0) ?_
  have hC := toC_d ho
  obtain ⟨k, nm, kids, nms, pl⟩ := t
  refine (g21 0 k nm kids nms pl).trans ?_
  simp only [T.d] at hC
  rw [hC, optS]
  cases hr : Sp.right (.mk k nm kids nms pl) <;> rfl

noncomputable abbrev L19 (n r : Nat) (l : List T) (s : List UInt8) (i : Int) : Option R1 :=
  LP cx K19 n 19 0 3 r [(0, V.d (D.sl 5 (T.ds l))), (4, V.d (D.str s)), (5, V.d (D.int IntKind.i64 i))] [] (AK cx K19 n 19 0 3 (EK cx 19 0))
theorem loop19 (n : Nat) {l : List T} (hl : l.length < 4294967296) (ho : T.oks l = true) (hb0 : Sp.bulks l ≤ 16777216) : ∀ (rest : List T) (j r : Nat) (s : List UInt8), l.drop j = rest → j ≤ l.length → rest.length < r → s.length + 12 * Sp.bulks rest ≤ 65536 →
    L19 n r l s j = some (.ret (mkE (bif rest.all Sp.declOk then (s ++ Sp.declTs rest, 0) else ([], 61))), [])
  | [], j, r, s, hd, hj, hk', hb => by
    obtain ⟨r, rfl⟩ : ∃ i, r = i + 1 := ⟨r - 1, by omega⟩
    have : l.length ≤ j := by simpa using hd
    obtain rfl : j = l.length := by omega
    have e : Sp.done s = (s, 0) := by unfold Sp.done; rw [decide_eq_false (by omega)]; rfl
    simp only [L19]
    rw [l19F, ds_len, ge_nat, cond_false, e, decide_eq_true (by unfold big; omega)]
    simp [must, Sp.declTs, mkE]
  | t :: rest, j, r, s, hd, hj, hk', hb => by
    obtain ⟨r, rfl⟩ : ∃ i, r = i + 1 := ⟨r - 1, by omega⟩
    obtain ⟨h1, h2, h3⟩ := at_drop hd
    have htm := List.mem_of_getElem? h2
    have hbt := bulk_mem htm
    have hdl := declT_len t
    simp only [Sp.bulks] at hb
    have ih := loop19 n hl ho hb0 rest (j + 1) r (s ++ Sp.declT t) h3 h1 (by simp at hk'; omega) (by simp only [List.length_append]; omega)
    simp only [L19] at ih ⊢
    rw [l19F, ds_len, lt_nat h1, nn_nat, nthD_ds, Int.toNat_natCast, h2, up_short h1 hl, optS]
    obtain ⟨q1, q2, q3, q4, q5⟩ : shrt t.nm = true ∧ shrt t.kids = true ∧ shrt t.nms = true ∧ t.nms.all shrt = true ∧ T.oks t.kids = true := by
      have := oks_mem ho htm
      cases t; exact ok_inv this
    have hC : ∀ u ∈ t.kids, Sp.toC u.d = some u := fun t h => kid_toC q5 h
    have hLt : ∀ u ∈ t.kids, Sp.light u = true := fun u hu => by
      have := bulk_mem hu
      refine decide_eq_true ?_
      obtain ⟨k', nm', kids', nms', pl'⟩ := t
      simp only [Sp.bulk] at hbt
      simp only [kids_mk] at this
      omega
    obtain ⟨k', nm', kids', nms', pl'⟩ := t
    simp only [nm_mk, kids_mk, nms_mk] at q1 q2 q3 q4 q5 hC hLt
    by_cases hok : Sp.declOk (.mk k' nm' kids' nms' pl') = true
    · obtain ⟨nm, a, b, pl, he, hn, ha, hbb⟩ := declOk_inv hok
      cases he
      have e : s ++ Sp.declTs (.mk 18 nm' [a, b] [] pl' :: rest) = s ++ Sp.declT (.mk 18 nm' [a, b] [] pl') ++ Sp.declTs rest := by simp [Sp.declTs]
      refine Eq.trans ?_ (ih.trans (by rw [List.all_cons, hok, Bool.true_and, e]))
      have e0 : decide ((0 : Int) < ((T.ds [a, b]).length : Int)) = true := by rw [ds_len]; rfl
      have e1 : decide ((1 : Int) < ((T.ds [a, b]).length : Int)) = true := by rw [ds_len]; rfl
      have e2 : decide (((T.ds [a, b]).length : Int) = 2) = true := by rw [ds_len]; rfl
      have n0 : [a, b][(0 : Int).toNat]? = some a := rfl
      have n1 : [a, b][(1 : Int).toNat]? = some b := rfl
      have ez : decide ((0 : Int) < ((([] : List (List UInt8)).map D.str).length : Int)) = false := rfl
      have hta := text_len a 0
      have htb := text_len b 0
      simp only [Sp.bulk, Sp.bulks] at hb
      simp only [cond_true, cond_false, must, optS, Bool.and_self, ↓cells_mk, nth0, nth1, nth2, nth3, nth4, decide_true, Bool.not_true, spl9, spl26, Bool.true_or, e0, e1, e2, ez, n0, n1, nthD_ds, cells_d, agg_mk, mk_eta, shrt_big q1, hn, hC a (by simp), hC b (by simp), hLt a (by simp), hLt b (by simp), ha, hbb]
      simp (disch := ((try simp only [List.length_append, List.length_cons, List.length_nil]); omega)) only [dle, cond_true]
      simp [Sp.declT]
    · have hno : Sp.declOk (.mk k' nm' kids' nms' pl') = false := by simpa using hok
      rw [List.all_cons, hno, Bool.false_and, cond_false]
      clear ih
      simp only [cond_true, must, Bool.and_self, ↓cells_mk, nth0, nth1, nth2, nth3, nth4, decide_true, spl9, spl26, Bool.true_or, ds_len, List.length_map, lenP, lenP1, lenO, lenT, lenZ, nthD_ds, cells_d, agg_mk, mk_eta, shrt_big q1]
      have hk : k' = 18 ∨ k' ≠ 18 := by omega
      rcases hk with rfl | hk
      · cases hn : Sp.named nm'
        · simp [mkE]
        · rcases nms' with _ | ⟨y, nms'⟩
          · by_cases h2 : kids'.length = 2
            · obtain ⟨b, c, rfl⟩ : ∃ b c, kids' = [b, c] := by
                rcases kids' with _ | ⟨b, _ | ⟨c, _ | ⟨d, l⟩⟩⟩ <;> simp at h2
                exact ⟨b, c, rfl⟩
              have n0 : [b, c][(0 : Int).toNat]? = some b := rfl
              have n1 : [b, c][(1 : Int).toNat]? = some c := rfl
              have hs : (Sp.right b && Sp.right c) = false := by simpa [Sp.declOk, hn] using hno
              simp only [n0, n1, optS, hC b (by simp), hC c (by simp)]
              cases hb1 : Sp.right b
              · simp [mkE]
              · have hb2 : Sp.right c = false := by rw [hb1] at hs; simpa using hs
                rw [hb2]
                simp [mkE]
            · rw [decide_eq_false h2]
              simp [mkE]
          · simp [mkE]
      · rw [decide_eq_false hk]
        simp [mkE]

theorem lim19F (l : List T) (hl : shrt l = true) (ho : T.oks l = true) (hb : 12 * Sp.bulks l ≤ 65536) : evLim cx 19 [.d (.sl 5 (T.ds l))] [] = some (.ret (mkE (Sp.file l)), []) := by
  refine lim_bodyK K19_knows (N := l.length + 1) ?_
  rw [g19]
  have h := loop19 (l.length + 1) (shrt_lt hl) ho (by omega) l 0 (l.length + 1) [] rfl (Nat.zero_le _) (by omega) (by simp; omega)
  exact h
end Go.Vai
end

section
namespace Go.Vai
open Go.Proofs

def Sp.great (l : List T) : Bool := decide ((1500 : Int) < Sp.blk (.mk 0 [] l [] 0) 1500)
def Sp.fitF (l : List T) : Bool := decide (12 * Sp.bulks l ≤ 65536)
noncomputable def Sp.tsC (x : D) : Option (List T) := Sp.ts Sp.toC x
noncomputable def spFile (x : D) : Option (List UInt8 × Int) := optK (Sp.tsC x) fun l => must (Sp.fitF l) (some (Sp.file l))
noncomputable def K6F : CK R1 := pureK 19 decD spFile mkE (pureK 18 decD spFile mkE (pureK 17 (fun a => match a with | [] => some () | _ => none) some (fun _ => mkB true) (pureK 16 decD Sp.tsC (fun l => mkB (Sp.great l)) (CK.plain none1))))

theorem oks_of : ∀ {l : List T}, (∀ t ∈ l, t.ok = true) → T.oks l = true
  | [], _ => rfl
  | t :: l, h => by
    simp only [T.oks, h t (List.mem_cons_self ..), oks_of fun u hu => h u (List.mem_cons_of_mem _ hu)]; rfl
theorem tsC_some {x : D} {l : List T} (h : Sp.tsC x = some l) : x = .sl 5 (T.ds l) ∧ shrt l = true ∧ T.oks l = true := by
  obtain ⟨L, rfl, h1, h2⟩ := ts_some h
  obtain ⟨rfl, h3⟩ := toL_ds (f := Sp.toC) (fun x t h => (toC_some h).1) h1
  exact ⟨rfl, h2, oks_of fun t ht => (toC_some (h3 t ht)).2⟩
theorem limWorks : evLim cx 17 [] [] = some (.ret (mkB true), []) := lim_of (n := 60) (by kernel_rfl)
theorem K6F_knows : knows cx K6F.S (evLim cx) := by
  have h16 := pureK_knows (f := 16) (dec := decD) (sp := Sp.tsC) (mk := fun l => mkB (Sp.great l)) none1K_knows fun a q b hd h hb => by
    obtain rfl := decD_some h
    obtain ⟨rfl, h1, h2⟩ := tsC_some hb
    exact limGreat b h1 h2
  have h17 := pureK_knows (f := 17) (dec := fun a => match a with | [] => some () | _ => none) (sp := some) (mk := fun _ => mkB true) h16 fun a q b hd h hb => by
    split at h
    · exact limWorks
    · cases h
  have h18 := pureK_knows (f := 18) (dec := decD) (sp := spFile) (mk := mkE) h17 fun a q b hd h hb => by
    obtain rfl := decD_some h
    obtain ⟨l, hl, hx⟩ := optK_some hb
    obtain ⟨h3, hy⟩ := must_some hx
    obtain ⟨rfl, h1, h2⟩ := tsC_some hl
    cases hy
    exact limFile l h1 h2 (of_decide_eq_true h3)
  exact pureK_knows (f := 19) (dec := decD) (sp := spFile) (mk := mkE) h18 fun a q b hd h hb => by
    obtain rfl := decD_some h
    obtain ⟨l, hl, hx⟩ := optK_some hb
    obtain ⟨h3, hy⟩ := must_some hx
    obtain ⟨rfl, h1, h2⟩ := tsC_some hl
    cases hy
    exact lim19F l h1 h2 (of_decide_eq_true h3)

theorem g6 (n : Nat) (l : List T) : evBody cx K6F n 6 [.d (.sl 5 (T.ds l))] [] = optK (Sp.tsC (D.sl 5 (T.ds l))) fun b => bif Sp.great b then some (Out.ret (V.d (D.bool true)), []) else optK (optK (Sp.tsC (D.sl 5 (T.ds l))) fun l => must (Sp.fitF l) (some (Sp.file l))) fun b => optK (optK (Sp.tsC (D.sl 5 (T.ds l))) fun l => must (Sp.fitF l) (some (Sp.file l))) fun b_1 => bif decide (b.1 = b_1.1) then bif decide (b.snd = b_1.snd) then some (Out.ret (V.d (D.bool true)), []) else some (Out.ret (V.d (D.bool false)), []) else some (Out.ret (V.d (D.bool false)), []) := by kernel_rfl

theorem pure_showFiles (l : List T) (hl : shrt l = true) (ho : T.oks l = true) : evLim cx 6 [.d (.sl 5 (T.ds l))] [] = some (.ret (mkB true), []) := by
  refine lim_bodyK K6F_knows (N := 0) ?_
  have h : Sp.tsC (.sl 5 (T.ds l)) = some l := ts_of (fun t h => toC_d (oks_mem ho h)) hl
  rw [g6, h]
  simp only [optS]
  cases hg : Sp.great l
  · have := great_not hg
    have h3 : Sp.fitF l = true := decide_eq_true (by omega)
    rw [h3]
    simp only [must, cond_true, cond_false, optS, decide_true]
    rfl
  · rfl
end Go.Vai
end

section
namespace Go.Vai
open Go.Proofs Go.Proofs.YtdgdfglbhndjnaaDoor

theorem bulks_len : ∀ l : List T, l.length ≤ Sp.bulks l
  | [] => Nat.le_refl _
  | .mk k nm kids nms pl :: l => by
    have := bulks_len l
    simp only [List.length_cons, Sp.bulks, Sp.bulk]; omega
theorem lens_len : ∀ l : List (List UInt8), l.length ≤ Sp.lens l
  | [] => Nat.le_refl _
  | x :: l => by have := lens_len l; simp only [List.length_cons, Sp.lens]; omega
theorem lens_all : ∀ l : List (List UInt8), Sp.lens l < 4294967296 → l.all shrt = true
  | [], _ => rfl
  | x :: l, h => by
    simp only [Sp.lens] at h
    rw [List.all_cons, lens_all l (by omega), Bool.and_true]
    exact decide_eq_true (by omega)
mutual
theorem ok_bulk : ∀ t : T, Sp.bulk t < 4294967296 → t.ok = true
  | .mk k nm kids nms pl, h => by
    simp only [Sp.bulk] at h
    have h1 := bulks_len kids
    have h2 := lens_len nms
    simp only [T.ok, oks_bulk kids (by omega), lens_all nms (by omega), Bool.and_true, Bool.and_eq_true]
    exact ⟨⟨decide_eq_true (by omega), decide_eq_true (by omega)⟩, decide_eq_true (by omega)⟩
theorem oks_bulk : ∀ l : List T, Sp.bulks l < 4294967296 → T.oks l = true
  | [], _ => rfl
  | t :: l, h => by
    simp only [Sp.bulks] at h
    simp only [T.oks, ok_bulk t (by omega), oks_bulk l (by omega)]; rfl
end

theorem agg_cells (t : T) : D.agg t.d.cells = t.d := by cases t; rfl

section
variable {H : Type} {enc : TypeId × Value → H} {W : World} {base : Nat} {spare : Nat → Bool} {held : Bool}

theorem els_trees {m : Nat} : ∀ (es : List (DataW H × List MemPlace)), (∀ y ∈ es, ∃ t : T, plainD Tryd.prog m 26 y.1 = some t.d.cells ∧ Sp.bulk t ≤ Rows.uptoBulk y.1) →
    ∃ l : List T, plainEls true (plainD Tryd.prog m 26) (es.map (·.1)) = some (T.ds l) ∧ Sp.bulks l ≤ Rows.uptoBulkAll (es.map (·.1))
  | [], _ => ⟨[], rfl, Nat.le_refl _⟩
  | y :: es, h => by
    obtain ⟨t, h1, h2⟩ := h y (List.mem_cons_self ..)
    obtain ⟨l, h3, h4⟩ := els_trees es fun z hz => h z (List.mem_cons_of_mem _ hz)
    refine ⟨t :: l, ?_, ?_⟩
    · simp only [List.map_cons, plainEls, h1, h3, T.ds, elemOf, cond_true, agg_cells]
    · simp only [List.map_cons, Sp.bulks, Rows.uptoBulkAll]; omega

theorem els_strs {m : Nat} : ∀ (es : List (DataW H × List MemPlace)), (∀ y ∈ es, ∃ s : List UInt8, y.1 = .lit (.string s)) →
    ∃ l : List (List UInt8), plainEls false (plainD Tryd.prog (m + 1) 9) (es.map (·.1)) = some (l.map .str) ∧ Sp.lens l ≤ Rows.uptoBulkAll (es.map (·.1))
  | [], _ => ⟨[], rfl, Nat.le_refl _⟩
  | y :: es, h => by
    obtain ⟨s, h1⟩ := h y (List.mem_cons_self ..)
    obtain ⟨l, h3, h4⟩ := els_strs (m := m) es fun z hz => h z (List.mem_cons_of_mem _ hz)
    refine ⟨s :: l, ?_, ?_⟩
    · have e : plainD Tryd.prog (m + 1) 9 y.1 = some [.str s] := by rw [h1]; simp only [plainD, Tryd.underlying9]
      simp only [List.map_cons, plainEls, e, h3]
      rfl
    · simp only [List.map_cons, Sp.lens, Rows.uptoBulkAll, h1, Rows.uptoBulk]; omega

theorem plainD_slice {P : Program} {n t e : Nat} {els sp : List (DataW H)} (h : P.underlying t = some (.slice e)) :
    plainD P (n + 1) t (.slice els sp) = bif Nat.beq (P.cellsOf e) 0 then none else (plainEls (aggTy P e) (plainD P n e) els).map fun l => [.sl (P.cellsOf e) l] := by
  simp only [plainD, h]
theorem plainD_struct {P : Program} {n t : Nat} {fs : Array Field} {ps : List (DataW H)} (h : P.underlying t = some (.struct fs)) :
    plainD P (n + 1) t (.agg ps) = bif offsOk P 0 fs.toList (P.cellsOf t) then plainFields (plainD P n) fs.toList ps else none := by
  simp only [plainD, h]
theorem agg26 : aggTy Tryd.prog 26 = true := by kernel_rfl
theorem agg9 : aggTy Tryd.prog 9 = false := by kernel_rfl
theorem cells26 : Tryd.prog.cellsOf 26 = 5 := by kernel_rfl
theorem cells9 : Tryd.prog.cellsOf 9 = 1 := by kernel_rfl

theorem bind_some' {α β : Type} {o : Option α} {f : α → Option β} {y : β} (h : o.bind f = some y) : ∃ a, f a = some y := by
  cases o with
  | none => cases h
  | some a => exact ⟨a, h⟩

theorem trod_trees {n : Nat} {cs : List Value} {x : DataW H × List MemPlace} (ih : ∀ m, m < n → ∀ cs x, DataW.trod enc Tryd.prog W base spare held m 26 cs = some x → ∃ t : T, plainD Tryd.prog m 26 x.1 = some t.d.cells ∧ Sp.bulk t ≤ Rows.uptoBulk x.1)
    (h : DataW.trod enc Tryd.prog W base spare held n 23 cs = some x) : ∃ l : List T, plainD Tryd.prog n 23 x.1 = some [.sl 5 (T.ds l)] ∧ Sp.bulks l + 1 ≤ Rows.uptoBulk x.1 := by
  have hn : ∃ k, n = k + 1 := by
    cases n with
    | zero => simp [DataW.trod] at h
    | succ k => exact ⟨k, rfl⟩
  obtain ⟨k, rfl⟩ := hn
  rcases DataW.trod_slice Tryd.underlying23 h with ⟨_, rfl⟩ | ⟨a, len, cap, elems, rest, m, hm, _, rfl, _, _, _, hl, he, _⟩
  · refine ⟨[], ?_, Nat.le_refl _⟩
    simp only [plainD, Tryd.underlying23, cells26]
    rfl
  · cases hm
    obtain ⟨l, h1, h2⟩ := els_trees (m := k) elems fun y hy => by
      obtain ⟨i, hi⟩ := List.getElem?_of_mem hy
      have := he i (by have := (List.getElem?_eq_some_iff.1 hi).1; omega)
      rw [hi] at this
      obtain ⟨c, hc⟩ := bind_some' this
      exact ih k (Nat.lt_succ_self _) c y hc
    refine ⟨l, ?_, ?_⟩
    · have e : Nat.beq (Tryd.prog.cellsOf 26) 0 = false := by rw [cells26]; rfl
      rw [plainD_slice Tryd.underlying23, e, cond_false, agg26, h1, cells26]
      rfl
    · simp only [Rows.uptoBulk]; omega

theorem trod_strs {n : Nat} {cs : List Value} {x : DataW H × List MemPlace} (h : DataW.trod enc Tryd.prog W base spare held n 24 cs = some x) : ∃ l : List (List UInt8), plainD Tryd.prog n 24 x.1 = some [.sl 1 (l.map .str)] ∧ Sp.lens l + 1 ≤ Rows.uptoBulk x.1 := by
  have hn : ∃ k, n = k + 1 := by
    cases n with
    | zero => simp [DataW.trod] at h
    | succ k => exact ⟨k, rfl⟩
  obtain ⟨k, rfl⟩ := hn
  rcases DataW.trod_slice Tryd.underlying24 h with ⟨_, rfl⟩ | ⟨a, len, cap, elems, rest, m, hm, _, rfl, _, _, _, hl, he, _⟩
  · refine ⟨[], ?_, Nat.le_refl _⟩
    simp only [plainD, Tryd.underlying24, cells9]
    rfl
  · cases hm
    have hel : ∀ y ∈ elems, ∃ c, DataW.trod enc Tryd.prog W base spare held k 9 c = some y := fun y hy => by
      obtain ⟨i, hi⟩ := List.getElem?_of_mem hy
      have := he i (by have := (List.getElem?_eq_some_iff.1 hi).1; omega)
      rw [hi] at this
      exact bind_some' this
    have e : Nat.beq (Tryd.prog.cellsOf 9) 0 = false := by rw [cells9]; rfl
    cases k with
    | zero =>
      have : elems = [] := by
        cases elems with
        | nil => rfl
        | cons y es => obtain ⟨c, hc⟩ := hel y (List.mem_cons_self ..); simp [DataW.trod] at hc
      subst this
      refine ⟨[], ?_, ?_⟩
      · rw [plainD_slice Tryd.underlying24, e, cond_false, cells9]
        rfl
      · simp only [Rows.uptoBulk, Sp.lens]; omega
    | succ k =>
      obtain ⟨l, h1, h2⟩ := els_strs (m := k) elems fun y hy => by
        obtain ⟨c, hc⟩ := hel y hy
        obtain ⟨s, _, rfl, _⟩ := DataW.trod_string Tryd.underlying9 hc
        exact ⟨_, rfl⟩
      refine ⟨l, ?_, ?_⟩
      · rw [plainD_slice Tryd.underlying24, e, cond_false, agg9, h1, cells9]
        rfl
      · simp only [Rows.uptoBulk]; omega

theorem trod_tree : ∀ (n : Nat) (cs : List Value) (x : DataW H × List MemPlace), DataW.trod enc Tryd.prog W base spare held n 26 cs = some x → ∃ t : T, plainD Tryd.prog n 26 x.1 = some t.d.cells ∧ Sp.bulk t ≤ Rows.uptoBulk x.1 := by
  intro n
  induction n using Nat.strongRecOn with
  | ind n ih =>
    intro cs x h
    obtain ⟨xs, m, rfl, rfl, hlen, hxs, hf⟩ := DataW.trod_struct Tryd.underlying26 h
    obtain ⟨x0, x1, x2, x3, x4, rfl⟩ : ∃ x0 x1 x2 x3 x4, xs = [x0, x1, x2, x3, x4] := by
      match xs, hxs with
      | [a, b, c, d, e], _ => exact ⟨a, b, c, d, e, rfl⟩
    have f0 := hf 0 _ rfl
    have f1 := hf 1 _ rfl
    have f2 := hf 2 _ rfl
    have f3 := hf 3 _ rfl
    have f4 := hf 4 _ rfl
    simp only [List.getElem?_cons_zero, List.getElem?_cons_succ] at f0 f1 f2 f3 f4
    obtain ⟨k, _, rfl, _⟩ := DataW.trod_int Tryd.underlying3 f0
    obtain ⟨s, _, rfl, _⟩ := DataW.trod_string Tryd.underlying9 f1
    obtain ⟨l, hl1, hl2⟩ := trod_trees (fun m' hm' => ih m' (Nat.lt_succ_of_lt hm')) f2
    obtain ⟨ns, hn1, hn2⟩ := trod_strs f3
    obtain ⟨p, _, rfl, _⟩ := DataW.trod_int Tryd.underlying3 f4
    have hm : ∃ q, m = q + 1 := by
      cases m with
      | zero => simp [DataW.trod] at f0
      | succ k => exact ⟨k, rfl⟩
    obtain ⟨q, rfl⟩ := hm
    refine ⟨.mk k s.data.toList l ns p, ?_, ?_⟩
    · rw [plainD_struct Tryd.underlying26]
      have e1 : ∀ z : Int, plainD Tryd.prog (q + 1) 3 (DataW.lit (H := H) (.int .i64 z)) = some [.int .i64 z] := fun z => by simp only [plainD, Tryd.underlying3]
      have e2 : ∀ z : List UInt8, plainD Tryd.prog (q + 1) 9 (DataW.lit (H := H) (.string z)) = some [.str z] := fun z => by simp only [plainD, Tryd.underlying9]
      have e0 : ∀ fs, offsOk Tryd.prog 0 fs (Tryd.prog.cellsOf 26) = true → (bif offsOk Tryd.prog 0 fs (Tryd.prog.cellsOf 26) then plainFields (plainD (H := H) Tryd.prog (q + 1)) fs [.lit (.int .i64 k), .lit (.string s.data.toList), x2.1, x3.1, .lit (.int .i64 p)] else none) = plainFields (plainD Tryd.prog (q + 1)) fs [.lit (.int .i64 k), .lit (.string s.data.toList), x2.1, x3.1, .lit (.int .i64 p)] := fun fs h => by rw [h]; rfl
      refine (e0 _ (by kernel_rfl)).trans ?_
      simp only [plainFields, e1, e2, hl1, hn1]
      rfl
    · simp only [List.map_cons, List.map_nil, Rows.uptoBulk, Rows.uptoBulkAll, Sp.bulk]
      omega
end
theorem same_kept {W W' : World} (h : Kept W noOwn W') {p : MemPlace} (hp : p.block < W.heap.size) : W.sameAt W' p := by
  cases p with
  | cell b o => exact World.cell?_of_block (w := W) (h.blk b hp fun _ h => h)
  | map b => exact h.blk b hp fun _ h => h
end Go.Vai
end

/-
  Tree: the law of files, pure.
  Tree: what a law's frame asks of the program, and a world for the witness.
-/
import Derived.Test.YtdgdfglbhndjnaaDoorTrePart4

set_option linter.all false
set_option linter.unusedSimpArgs false
set_option linter.unusedVariables false

section
namespace Go.Vai
open Go.Proofs

theorem parse_bad {s : List UInt8} (h : Sp.scE s ≠ 0) (k : Nat) : Sp.parseOf k s = some (.bad (Sp.scA s) (Sp.scE s)) := by
  unfold Sp.parseOf
  rw [decide_eq_false h]; rfl

/-- What a text's declarations are. -/
theorem parse_of {s : List UInt8} {I : List D} (h : Text s I) {k : Nat} (hk : 600000 ≤ k) :
    (∃ ds, Sp.parseOf k s = some (.ok ds) ∧ Sp.parseL k (I.length + 1) (Sp.ext (I ++ [tokD 0 [] (s.length : Int)])) 0 [] = some (.ok ds I.length) ∧ ds.length ≤ I.length ∧ ∀ d ∈ ds, ∃ t, d = trD t ∧ WD (Sp.ext (I ++ [tokD 0 [] (s.length : Int)])) t) ∨
    (∃ a e j ds, Sp.parseOf k s = some (.bad a e) ∧ Sp.parseL k (I.length + 1) (Sp.ext (I ++ [tokD 0 [] (s.length : Int)])) 0 [] = some (.bad a e j ds) ∧ 0 ≤ a ∧ a ≤ s.length ∧ (e = 61 ∨ e = 62)) := by
  have hE : Sp.scE s = 0 := by unfold Sp.scE; rw [h.scan]
  have hL : Sp.ext (Sp.scL s) = Sp.ext (I ++ [tokD 0 [] (s.length : Int)]) := by unfold Sp.scL; rw [h.scan]
  have hT := h.toks
  have hl := scan_len s
  rw [h.scan] at hl
  replace hl : (I ++ [tokD 0 [] (s.length : Int)]).length ≤ s.length + 1 := hl
  have hlen := h.len
  have hIl : (I ++ [tokD 0 [] (s.length : Int)]).length = I.length + 1 := by simp
  rcases parse_U hT (k := k) (by omega) (I.length + 1) 0 [] (Int.le_refl _) (by omega) (by omega) (by simp) with ⟨new, h1, h2, h3⟩ | ⟨x, p, e, j, ds2, h1, h2, h3⟩
  · rw [List.nil_append] at h1
    obtain ⟨q, hq⟩ := hT.at_ I.length (by omega) (by omega)
    have hq0 := (hT.fin _ q hq (by omega)).1
    refine .inl ⟨new, parseOf_ok hE hL (parse_mono _ k _ _ _ h1 (by omega)) hq hq0, h1, ?_, h3⟩
    simp only [List.length_nil] at h2
    omega
  · have := hT.low x p h2
    exact .inr ⟨p.2.2, e, j, ds2, parseOf_no hE hL (parse_mono _ k _ _ _ h1 (by omega)), h1, this.1, this.2, h3⟩

theorem parseOf_any (s : List UInt8) {k : Nat} (hk : 600000 ≤ k) : (∃ ds, Sp.parseOf k s = some (.ok ds)) ∨ ∃ a e, Sp.parseOf k s = some (.bad a e) ∧ e ≠ 0 := by
  rcases text_or s with ⟨I, hT⟩ | ⟨hE, p, hp, hp'⟩
  · rcases parse_of hT hk with ⟨ds, hr, _⟩ | ⟨a, e, j, ds, hr, _, h1, h2, h3⟩
    · exact .inl ⟨ds, hr⟩
    · exact .inr ⟨a, e, hr, by omega⟩
  · exact .inr ⟨_, _, parse_bad hE k, hE⟩

/-- A text behind another one is none where it is none by itself. -/
theorem scan_behind {s u : List UInt8} {I : List D} (h : Text s I) (hl : s.length + 1 + u.length ≤ 65536) (hu : Sp.scE u ≠ 0) : Sp.scan (s ++ 10 :: u) = ([], Sp.scA u + ((s.length : Int) + 1), Sp.scE u) := by
  have hlen : (s ++ 10 :: u).length = s.length + 1 + u.length := by simp; omega
  have hv : Valid (s ++ [10]) := valid_cat (text_valid h) (valid_low (by decide))
  have e : s ++ 10 :: u = s ++ [10] ++ u := by simp
  have hl2 : (s ++ [10]).length = s.length + 1 := by simp
  unfold Sp.scE at hu
  unfold Sp.scA Sp.scE
  cases hU : Sp.utfGo u.length u 0 with
  | some p =>
    have h1 : Sp.scan u = ([], (p : Int), 60) := by
      unfold Sp.scan
      rw [decide_eq_false (by omega), cond_false, hU]
    have hv' : Sp.utfGo (s ++ [10]).length (s ++ [10]) 0 = none := hv
    obtain ⟨f, h2, h3⟩ := utf_app u _ (s ++ [10]) 0 (s ++ 10 :: u).length (Nat.le_refl _) (by omega) hv'
    rw [← e, utf_off, utf_fuel f u.length u 0 h2 (Nat.le_refl _), hU] at h3
    rw [h1]
    unfold Sp.scan
    rw [decide_eq_false (by omega), cond_false, h3]
    show (([] : List D), ((p + (s ++ [10]).length : Nat) : Int), (60 : Int)) = ([], (p : Int) + ((s.length : Int) + 1), 60)
    rw [hl2, show ((p + (s.length + 1) : Nat) : Int) = (p : Int) + ((s.length : Int) + 1) by omega]
  | none =>
    have hb := past_bounds (s := u) (j := 0) (Nat.zero_le _)
    have h1 : Sp.scan u = Sp.toks (u.length + 1) u (Sp.past u 0) [] := by
      unfold Sp.scan
      rw [decide_eq_false (by omega), cond_false, hU]
    rw [h1] at hu ⊢
    rcases toks_cbad (s := u) (u.length + 1) 0 [] (Nat.zero_le _) (by omega) with ⟨rest, h2, _⟩ | ⟨p, h2, h3, h4⟩
    · rw [h2] at hu; exact absurd rfl hu
    · rw [h2]
      have c1 := cbad_pre (s ++ [10]) h4
      rw [← e, hl2] at c1
      have c2 := cbad_app u h.cov c1
      have hvX : Valid (s ++ 10 :: u) := by rw [e]; exact valid_cat hv hU
      have hbX := past_bounds (s := s ++ 10 :: u) (j := 0) (Nat.zero_le _)
      have c3 := cbad_toks c2 ((s ++ 10 :: u).length + 1) [] (by omega)
      unfold Sp.scan
      rw [decide_eq_false (by omega), cond_false, hvX]
      show Sp.toks ((s ++ 10 :: u).length + 1) (s ++ 10 :: u) (Sp.past (s ++ 10 :: u) 0) [] = _
      rw [c3]
      show (([] : List D), ((s.length + 1 + p : Nat) : Int), (61 : Int)) = ([], (p : Int) + ((s.length : Int) + 1), 61)
      rw [show ((s.length + 1 + p : Nat) : Int) = (p : Int) + ((s.length : Int) + 1) by omega]

/-- Files one behind the other. -/
theorem files {s u : List UInt8} {I J : List D} (h : Text s I) (hu : Text u J) (hl : s.length + 1 + u.length ≤ 65536) {k : Nat} (hk : 600000 ≤ k) {ds : List D}
    (h1 : Sp.parseL k (I.length + 1) (Sp.ext (I ++ [tokD 0 [] (s.length : Int)])) 0 [] = some (.ok ds I.length)) (hds : ds.length ≤ I.length) (hW : ∀ d ∈ ds, ∃ t, d = trD t ∧ WD (Sp.ext (I ++ [tokD 0 [] (s.length : Int)])) t) :
    (∀ du, Sp.parseL k (J.length + 1) (Sp.ext (J ++ [tokD 0 [] (u.length : Int)])) 0 [] = some (.ok du J.length) → Sp.parseOf k (s ++ 10 :: u) = some (.ok (ds ++ du.map (shiftD ((s.length : Int) + 1))))) ∧
    (∀ a e j du, Sp.parseL k (J.length + 1) (Sp.ext (J ++ [tokD 0 [] (u.length : Int)])) 0 [] = some (.bad a e j du) → Sp.parseOf k (s ++ 10 :: u) = some (.bad (a + ((s.length : Int) + 1)) e)) := by
  have hX := text_files h hu hl
  have hT := hX.toks
  have hsm := h.toks.small
  have hsm2 := hu.toks.small
  have hlX : ((s ++ 10 :: u).length : Int) = (u.length : Int) + ((s.length : Int) + 1) := by simp; omega
  obtain ⟨l', hl'⟩ : ∃ l', l' = Sp.ext ((I ++ J.map (tokShift ((s.length : Int) + 1))) ++ [tokD 0 [] ((s ++ 10 :: u).length : Int)]) := ⟨_, rfl⟩
  have hE : Sp.scE (s ++ 10 :: u) = 0 := by unfold Sp.scE; rw [hX.scan]
  have hL : Sp.ext (Sp.scL (s ++ 10 :: u)) = l' := by unfold Sp.scL; rw [hX.scan, hl']
  rw [← hl'] at hT
  have sp := sh_pre h (B := J.map (tokShift ((s.length : Int) + 1))) (E := tokD 0 [] ((s ++ 10 :: u).length : Int))
  rw [← hl'] at sp
  have hIl : I.length ≤ 70000 := by
    have h1 := scan_len s
    rw [h.scan] at h1
    replace h1 : (I ++ [tokD 0 [] (s.length : Int)]).length ≤ s.length + 1 := h1
    have e : (I ++ [tokD 0 [] (s.length : Int)]).length = I.length + 1 := by simp
    omega
  have sq := sh_post hu (A := I) (δ := (s.length : Int) + 1) (d := 0) (M := 0) hIl (.inl rfl)
  rw [← hlX, ← hl'] at sq
  obtain ⟨q, hq1, hq2⟩ := parse_pre (B := 400000) (by decide) h.toks sp (I.length + 1) 0 [] ds I.length h1 (by omega) hW (by simp; omega)
  have hlen : (I ++ J.map (tokShift ((s.length : Int) + 1))).length = I.length + J.length := by simp
  have run : ∀ out, Sp.parseL k (J.length + 1) (Sp.ext (J ++ [tokD 0 [] (u.length : Int)])) 0 [] = some out → Sp.parseL k k l' 0 [] = some (shiftL (I.length : Int) ((s.length : Int) + 1) ds 0 out) := by
    intro out ho
    have h2 := parse_full (B := 400000) (by decide) sq (pre := ds) (J.length + 1) 0 [] out ho (by simp; omega)
    have h3 := hq2 (k - q)
    rw [show k - q + q = k by omega] at h3
    rw [h3]
    rw [List.map_nil, List.append_nil, Int.zero_add] at h2
    exact parse_mono _ _ _ _ _ h2 (by omega)
  refine ⟨fun du hd => ?_, fun a e j du hd => ?_⟩
  · have h2 := run _ hd
    obtain ⟨w, hw⟩ := hT.at_ ((J.length : Int) + (I.length : Int)) (by omega) (by rw [hlen]; omega)
    have hw0 := (hT.fin _ w hw (by rw [hlen]; omega)).1
    have h3 : Sp.parseL k k l' 0 [] = some (.ok (ds ++ du.map (shiftD ((s.length : Int) + 1))) ((J.length : Int) + (I.length : Int))) := h2
    exact parseOf_ok hE hL h3 hw hw0
  · have h2 := run _ hd
    exact parseOf_no hE hL h2

/- Lists of declarations alike. -/
def WDn (l : List D) (n : Nat) (t : Tr) : Prop := ∃ s a b p x y, t = ⟨18, s, [trD a, trD b], [], p⟩ ∧ Wn l n x a ∧ Wn l n y b
theorem WDn_all {l : List D} : ∀ {ds : List D}, (∀ d ∈ ds, ∃ t, d = trD t ∧ WD l t) → ∃ n, ∀ m, n ≤ m → ∀ d ∈ ds, ∃ t, d = trD t ∧ WDn l m t
  | [], _ => ⟨0, fun m _ d hd => by cases hd⟩
  | k :: ks, h => by
    obtain ⟨n, hn⟩ := WDn_all fun d hd => h d (List.mem_cons_of_mem _ hd)
    obtain ⟨t, e, s, a, b, p, n', x, y, ht, ha, hb⟩ := h k List.mem_cons_self
    refine ⟨max n n', fun m hm d hd => ?_⟩
    rcases List.mem_cons.1 hd with rfl | hd
    · exact ⟨t, e, s, a, b, p, x, y, ht, Wn_le ha (by omega), Wn_le hb (by omega)⟩
    · exact hn m (by omega) d hd
theorem same_decl {l : List D} {w : Bool} {a b : Int} (hw : w = true → a = b) {n : Nat} {t : Tr} (h : WDn l n t) : Sp.sameT (n + 1) w (trD (shiftT a t)) (trD (shiftT b t)) = true := by
  obtain ⟨s, u, v, p, x, y, rfl, hu, hv⟩ := h
  have e1 : (!w || decide (p + a = p + b)) = true := by
    cases w
    · rfl
    · rw [hw rfl, decide_eq_true rfl]; rfl
  show (decide ((18 : Int) = 18) && decide (s = s) && (!w || decide (p + a = p + b)) && decide (([trD u, trD v].map (shiftD a)).length < 4294967296) && decide (([] : List D).length < 4294967296) && Sp.all2 Sp.strEq [] [] && Sp.all2 (Sp.sameT n w) ([trD u, trD v].map (shiftD a)) ([trD u, trD v].map (shiftD b))) = true
  have e2 : Sp.all2 (Sp.sameT n w) ([trD u, trD v].map (shiftD a)) ([trD u, trD v].map (shiftD b)) = true := all2_map fun d hd => by
    simp only [List.mem_cons, List.not_mem_nil, or_false] at hd
    rcases hd with rfl | rfl
    · rw [shiftD_tr, shiftD_tr]; exact same_shift hw n x _ hu
    · rw [shiftD_tr, shiftD_tr]; exact same_shift hw n y _ hv
  rw [e1, e2, decide_eq_true rfl, decide_eq_true rfl, decide_eq_true (p := ([trD u, trD v].map (shiftD a)).length < 4294967296) (by rw [List.length_map]; show 2 < 4294967296; decide), decide_eq_true (p := ([] : List D).length < 4294967296) (by decide)]
  rfl
theorem same_decls {l : List D} {w : Bool} {a b : Int} (hw : w = true → a = b) {n : Nat} {ds : List D} (h : ∀ d ∈ ds, ∃ t, d = trD t ∧ WDn l n t) : Sp.all2 (Sp.sameT (n + 1) w) (ds.map (shiftD a)) (ds.map (shiftD b)) = true := all2_map fun d hd => by
  obtain ⟨t, rfl, ht⟩ := h d hd
  rw [shiftD_tr, shiftD_tr]
  exact same_decl hw ht
theorem decls_zero {l : List D} {n : Nat} : ∀ {ds : List D}, (∀ d ∈ ds, ∃ t, d = trD t ∧ WDn l n t) → ds.map (shiftD 0) = ds
  | [], _ => rfl
  | d :: ds, h => by
    obtain ⟨t, rfl, s, a, b, p, x, y, rfl, ha, hb⟩ := h d List.mem_cons_self
    rw [List.map_cons, decls_zero fun d hd => h d (List.mem_cons_of_mem _ hd), shiftD_tr]
    show trD (Tr.mk 18 s [shiftD 0 (trD a), shiftD 0 (trD b)] [] (p + 0)) :: ds = _
    rw [shiftD_tr, shiftD_tr, shift_zero n x a ha, shift_zero n y b hb, Int.add_zero]

theorem pure_treeFiles (s u : List UInt8) (h : s.length ≤ 1048576) (hu : u.length ≤ 1048576) : ∃ n, evFun cx n 5 [.d (.str s), .d (.str u)] [] = some (.ret (.d (.bool true)), []) := by
  refine lim_ex ?_
  obtain ⟨k, hk⟩ : ∃ k, 600000 ≤ k := ⟨600000, Nat.le_refl _⟩
  have eX : s ++ [10] ++ u = s ++ 10 :: u := by simp
  obtain ⟨X, hX⟩ : ∃ X, X = s ++ [10] ++ u := ⟨_, rfl⟩
  have lX : X.length = s.length + 1 + u.length := by rw [hX]; simp; omega
  have hb : decide (s.length ≤ big) = true := decide_eq_true (by unfold big; omega)
  have hbu : decide (u.length ≤ big) = true := decide_eq_true (by unfold big; omega)
  have hbX : decide (X.length ≤ big) = true := decide_eq_true (by unfold big; omega)
  have d1 : decide (s.length + [(10 : UInt8)].length ≤ 4611686018427387904) = true := decide_eq_true (by simp; omega)
  have d2 : decide ((s ++ [(10 : UInt8)]).length + u.length ≤ 4611686018427387904) = true := decide_eq_true (by simp; omega)
  have hw : IntKind.i64.wrap ((s.length : Int) + (u.length : Int)) = (s.length : Int) + (u.length : Int) := IntWalk.i64_in _ (by omega)
  -- the first file is none
  have badS : ∀ a e, Sp.parseOf k s = some (.bad a e) → e ≠ 0 → evLim cx 5 [.d (.str s), .d (.str u)] [] = some (.ret (.d (.bool true)), []) := by
    intro a e hr he
    refine lim_bodyK (T3c_knows (fun _ => k) 0) (N := 0) ?_
    rw [g5, hb, must, cond_true, must, cond_true, hr, optK_now]
    show must (!decide (e = 0)) (must (decide (u.length ≤ big)) (must (decide (u.length ≤ big)) (optK (Sp.parseOf k u) _))) = _
    rw [decide_eq_false he, hbu]
    simp only [Bool.not_false, must, cond_true]
    rcases parseOf_any u hk with ⟨du, h1⟩ | ⟨a1, e1, h1, he1⟩
    · rw [h1, optK_now]
      show must (decide (s.length + [(10 : UInt8)].length ≤ 4611686018427387904)) (must (decide ((s ++ [(10 : UInt8)]).length + u.length ≤ 4611686018427387904)) (must (decide ((s ++ [10] ++ u).length ≤ big)) (must (decide ((s ++ [10] ++ u).length ≤ big)) (optK (Sp.parseOf k (s ++ [10] ++ u)) _)))) = _
      rw [d1, d2, ← hX, hbX]
      simp only [must, cond_true]
      rcases parseOf_any X hk with ⟨dx, h2⟩ | ⟨a2, e2, h2, he2⟩
      · rw [h2, optK_now]
        show (bif !decide (e = (0 : Int)) then some (Out.ret (V.d (D.bool true)), []) else _) = _
        rw [decide_eq_false he]; rfl
      · rw [h2, optK_now]
        show must (!decide (e2 = 0)) (bif !decide (e = (0 : Int)) then some (Out.ret (V.d (D.bool true)), []) else _) = _
        rw [decide_eq_false he2, decide_eq_false he]; rfl
    · rw [h1, optK_now]
      show must (!decide (e1 = 0)) (must (decide (s.length + [(10 : UInt8)].length ≤ 4611686018427387904)) (must (decide ((s ++ [(10 : UInt8)]).length + u.length ≤ 4611686018427387904)) (must (decide ((s ++ [10] ++ u).length ≤ big)) (must (decide ((s ++ [10] ++ u).length ≤ big)) (optK (Sp.parseOf k (s ++ [10] ++ u)) _))))) = _
      rw [decide_eq_false he1, d1, d2, ← hX, hbX]
      simp only [Bool.not_false, must, cond_true]
      rcases parseOf_any X hk with ⟨dx, h2⟩ | ⟨a2, e2, h2, he2⟩
      · rw [h2, optK_now]
        show (bif !decide (e = (0 : Int)) then some (Out.ret (V.d (D.bool true)), []) else _) = _
        rw [decide_eq_false he]; rfl
      · rw [h2, optK_now]
        show must (!decide (e2 = 0)) (bif !decide (e = (0 : Int)) then some (Out.ret (V.d (D.bool true)), []) else _) = _
        rw [decide_eq_false he2, decide_eq_false he]; rfl
  rcases text_or s with ⟨I, hT⟩ | ⟨hE, p, hp, hp'⟩
  · rcases parse_of hT hk with ⟨ds, hr, hrun, hdl, hW⟩ | ⟨a, e, j, ds, hr, _, h1, h2, h3⟩
    · -- the first file is one
      have isX : ∀ (n : Nat) (r1 : TL) (r2 : TL), Sp.parseOf k u = some r1 → r1.fine → Sp.parseOf k X = some r2 → r2.fine →
          ((65536 ≤ u.length ∨ 65536 ≤ s.length + u.length) ∨ (∃ du, r1 = .ok du ∧ r2 = .ok (ds ++ du.map (shiftD ((s.length : Int) + 1))) ∧ Sp.listT n true ds ds = true ∧ Sp.listT n false (du.map (shiftD ((s.length : Int) + 1))) du = true ∧ ds.length ≤ 70000 ∧ du.length ≤ 70000) ∨
            (∃ a e, r1 = .bad a e ∧ r2 = .bad (a + ((s.length : Int) + 1)) e ∧ 0 ≤ a ∧ a ≤ 1048576)) →
          evLim cx 5 [.d (.str s), .d (.str u)] [] = some (.ret (.d (.bool true)), []) := by
        intro n r1 r2 h1 f1 h2 f2 hc
        refine lim_bodyK (T3c_knows (fun _ => k) n) (N := 0) ?_
        rw [g5, hb, must, cond_true, must, cond_true, hr, optK_now]
        show must (decide (u.length ≤ big)) (must (decide (u.length ≤ big)) (optK (Sp.parseOf k u) _)) = _
        rw [hbu, must, cond_true, must, cond_true, h1, optK_now]
        cases r1 with
        | ok du =>
          show must (decide (s.length + [(10 : UInt8)].length ≤ 4611686018427387904)) (must (decide ((s ++ [(10 : UInt8)]).length + u.length ≤ 4611686018427387904)) (must (decide ((s ++ [10] ++ u).length ≤ big)) (must (decide ((s ++ [10] ++ u).length ≤ big)) (optK (Sp.parseOf k (s ++ [10] ++ u)) _)))) = _
          rw [d1, d2, ← hX, hbX]
          simp only [must, cond_true]
          rw [h2, optK_now]
          cases r2 with
          | ok dx =>
            show (bif decide ((65536 : Int) ≤ (u.length : Int)) then some (Out.ret (V.d (D.bool true)), []) else bif decide ((65536 : Int) ≤ IntKind.i64.wrap ((s.length : Int) + (u.length : Int))) then some (Out.ret (V.d (D.bool true)), []) else
              bif decide ((dx.length : Int) = IntKind.i64.wrap ((ds.length : Int) + (du.length : Int))) then must (decide ((ds.length : Int) ≤ (dx.length : Int))) (must (Sp.listT n true (List.drop 0 (List.take (ds.length : Int).toNat dx)) ds) (must (decide ((ds.length : Int) ≤ (dx.length : Int))) (must (Sp.listT n false (List.drop (ds.length : Int).toNat (List.take dx.length dx)) du) (some (Out.ret (V.d (D.bool true)), []))))) else some (Out.ret (V.d (D.bool false)), [])) = _
            rw [hw]
            by_cases hs1 : 65536 ≤ u.length
            · rw [decide_eq_true (p := (65536 : Int) ≤ (u.length : Int)) (by omega)]; rfl
            · by_cases hs2 : 65536 ≤ s.length + u.length
              · rw [decide_eq_false (p := (65536 : Int) ≤ (u.length : Int)) (by omega), decide_eq_true (p := (65536 : Int) ≤ (s.length : Int) + (u.length : Int)) (by omega)]; rfl
              · rcases hc with hc | ⟨du', e1, e2, l1, l2, b1, b2⟩ | ⟨a, e, e1, _⟩
                · omega
                · cases e1
                  cases e2
                  have hlen : (ds ++ du.map (shiftD ((s.length : Int) + 1))).length = ds.length + du.length := by simp
                  have hwd : IntKind.i64.wrap ((ds.length : Int) + (du.length : Int)) = (ds.length : Int) + (du.length : Int) := IntWalk.i64_in _ (by omega)
                  rw [decide_eq_false (p := (65536 : Int) ≤ (u.length : Int)) (by omega), decide_eq_false (p := (65536 : Int) ≤ (s.length : Int) + (u.length : Int)) (by omega), hwd,
                    decide_eq_true (p := ((ds ++ du.map (shiftD ((s.length : Int) + 1))).length : Int) = (ds.length : Int) + (du.length : Int)) (by omega), decide_eq_true (p := (ds.length : Int) ≤ ((ds ++ du.map (shiftD ((s.length : Int) + 1))).length : Int)) (by omega),
                    Int.toNat_natCast, List.drop_zero, List.take_left, List.take_length, List.drop_left, l1, l2]
                  rfl
                · cases e1
          | bad a2 e2 =>
            show must (!decide (e2 = 0)) (bif decide ((65536 : Int) ≤ (u.length : Int)) then some (Out.ret (V.d (D.bool true)), []) else bif decide ((65536 : Int) ≤ IntKind.i64.wrap ((s.length : Int) + (u.length : Int))) then some (Out.ret (V.d (D.bool true)), []) else _) = _
            rw [hw, decide_eq_false f2]
            rcases hc with hc | ⟨du', _, e2, _⟩ | ⟨a, e, e1, _⟩
            · by_cases hs1 : 65536 ≤ u.length
              · rw [decide_eq_true (p := (65536 : Int) ≤ (u.length : Int)) (by omega)]; rfl
              · rw [decide_eq_false (p := (65536 : Int) ≤ (u.length : Int)) (by omega), decide_eq_true (p := (65536 : Int) ≤ (s.length : Int) + (u.length : Int)) (by omega)]; rfl
            · cases e2
            · cases e1
        | bad a1 e1 =>
          show must (!decide (e1 = 0)) (must (decide (s.length + [(10 : UInt8)].length ≤ 4611686018427387904)) (must (decide ((s ++ [(10 : UInt8)]).length + u.length ≤ 4611686018427387904)) (must (decide ((s ++ [10] ++ u).length ≤ big)) (must (decide ((s ++ [10] ++ u).length ≤ big)) (optK (Sp.parseOf k (s ++ [10] ++ u)) _))))) = _
          have f1' : e1 ≠ 0 := f1
          rw [decide_eq_false f1', d1, d2, ← hX, hbX]
          simp only [Bool.not_false, must, cond_true]
          rw [h2, optK_now]
          cases r2 with
          | ok dx =>
            show (bif decide ((65536 : Int) ≤ (u.length : Int)) then some (Out.ret (V.d (D.bool true)), []) else bif decide ((65536 : Int) ≤ IntKind.i64.wrap ((s.length : Int) + (u.length : Int))) then some (Out.ret (V.d (D.bool true)), []) else _) = _
            rw [hw]
            rcases hc with hc | ⟨du', e2, _⟩ | ⟨a, e, _, e2, _⟩
            · by_cases hs1 : 65536 ≤ u.length
              · rw [decide_eq_true (p := (65536 : Int) ≤ (u.length : Int)) (by omega)]; rfl
              · rw [decide_eq_false (p := (65536 : Int) ≤ (u.length : Int)) (by omega), decide_eq_true (p := (65536 : Int) ≤ (s.length : Int) + (u.length : Int)) (by omega)]; rfl
            · cases e2
            · cases e2
          | bad a2 e2 =>
            show must (!decide (e2 = 0)) (bif decide ((65536 : Int) ≤ (u.length : Int)) then some (Out.ret (V.d (D.bool true)), []) else bif decide ((65536 : Int) ≤ IntKind.i64.wrap ((s.length : Int) + (u.length : Int))) then some (Out.ret (V.d (D.bool true)), []) else
              bif !decide (e1 = (0 : Int)) then bif decide (e2 = e1) then bif decide (a2 = IntKind.i64.wrap (IntKind.i64.wrap (a1 + (s.length : Int)) + (1 : Int))) then some (Out.ret (V.d (D.bool true)), []) else some (Out.ret (V.d (D.bool false)), []) else some (Out.ret (V.d (D.bool false)), []) else _) = _
            rw [hw, decide_eq_false f2, decide_eq_false f1']
            by_cases hs1 : 65536 ≤ u.length
            · rw [decide_eq_true (p := (65536 : Int) ≤ (u.length : Int)) (by omega)]; rfl
            · by_cases hs2 : 65536 ≤ s.length + u.length
              · rw [decide_eq_false (p := (65536 : Int) ≤ (u.length : Int)) (by omega), decide_eq_true (p := (65536 : Int) ≤ (s.length : Int) + (u.length : Int)) (by omega)]; rfl
              · rcases hc with hc | ⟨du', e3, _⟩ | ⟨a, e, e3, e4, b1, b2⟩
                · omega
                · cases e3
                · obtain ⟨rfl, rfl⟩ : a1 = a ∧ e1 = e := by cases e3; exact ⟨rfl, rfl⟩
                  obtain ⟨rfl, rfl⟩ : a2 = a1 + ((s.length : Int) + 1) ∧ e2 = e1 := by cases e4; exact ⟨rfl, rfl⟩
                  have w1 : IntKind.i64.wrap (a1 + (s.length : Int)) = a1 + (s.length : Int) := IntWalk.i64_in _ (by omega)
                  have w2 : IntKind.i64.wrap (a1 + (s.length : Int) + 1) = a1 + (s.length : Int) + 1 := IntWalk.i64_in _ (by omega)
                  rw [decide_eq_false (p := (65536 : Int) ≤ (u.length : Int)) (by omega), decide_eq_false (p := (65536 : Int) ≤ (s.length : Int) + (u.length : Int)) (by omega), w1, w2, decide_eq_true rfl, decide_eq_true (p := a1 + ((s.length : Int) + 1) = a1 + (s.length : Int) + 1) (by omega)]
                  rfl
      have fineX : ∃ r2, Sp.parseOf k X = some r2 ∧ r2.fine := by
        rcases parseOf_any X hk with ⟨dx, h2⟩ | ⟨a2, e2, h2, he2⟩
        · exact ⟨_, h2, trivial⟩
        · exact ⟨_, h2, he2⟩
      by_cases hbig : 65536 ≤ u.length ∨ 65536 ≤ s.length + u.length
      · obtain ⟨r2, h2, f2⟩ := fineX
        rcases parseOf_any u hk with ⟨du, h1⟩ | ⟨a1, e1, h1, he1⟩
        · exact isX 0 _ _ h1 trivial h2 f2 (.inl hbig)
        · exact isX 0 _ _ h1 he1 h2 f2 (.inl hbig)
      · have hl : s.length + 1 + u.length ≤ 65536 := by omega
        rw [eX] at hX
        rcases text_or u with ⟨J, hTu⟩ | ⟨hE, p, hp, hp'⟩
        · have hF := files hT hTu hl hk hrun hdl hW
          rw [← hX] at hF
          have hsm := hT.toks.small
          have hsl := scan_len s
          rw [hT.scan] at hsl
          replace hsl : (I ++ [tokD 0 [] (s.length : Int)]).length ≤ s.length + 1 := hsl
          have hsl2 : (I ++ [tokD 0 [] (s.length : Int)]).length = I.length + 1 := by simp
          have hul := scan_len u
          rw [hTu.scan] at hul
          replace hul : (J ++ [tokD 0 [] (u.length : Int)]).length ≤ u.length + 1 := hul
          have hul2 : (J ++ [tokD 0 [] (u.length : Int)]).length = J.length + 1 := by simp
          rcases parse_of hTu hk with ⟨du, h1, hrun1, hdl1, hW1⟩ | ⟨a, e, j, du, h1, hrun1, h2, h3, h4⟩
          · have h2 := hF.1 du hrun1
            obtain ⟨n1, hn1⟩ := WDn_all hW
            obtain ⟨n2, hn2⟩ := WDn_all hW1
            obtain ⟨n, hna, hnb⟩ : ∃ n, n1 ≤ n ∧ n2 ≤ n := ⟨max n1 n2, Nat.le_max_left _ _, Nat.le_max_right _ _⟩
            have w1 := hn1 n hna
            have w2 := hn2 n hnb
            have l1 : Sp.listT (n + 1) true ds ds = true := by
              have := same_decls (w := true) (a := 0) (b := 0) (fun _ => rfl) w1
              rw [decls_zero w1] at this
              unfold Sp.listT
              rw [this, short_of (n := (70000 : Int)) (by omega) (by decide)]
              rfl
            have l2 : Sp.listT (n + 1) false (du.map (shiftD ((s.length : Int) + 1))) du = true := by
              have := same_decls (w := false) (a := (s.length : Int) + 1) (b := 0) (fun h => by cases h) w2
              rw [decls_zero w2] at this
              unfold Sp.listT
              rw [this, short_map, short_of (n := (70000 : Int)) (by omega) (by decide)]
              rfl
            exact isX (n + 1) _ _ h1 trivial h2 trivial (.inr (.inl ⟨du, rfl, rfl, l1, l2, by omega, by omega⟩))
          · have h5 := hF.2 a e j du hrun1
            have he : e ≠ 0 := by omega
            exact isX 0 _ _ h1 he h5 he (.inr (.inr ⟨a, e, rfl, rfl, h2, by omega⟩))
        · have hsc := scan_behind hT hl hE
          rw [← hX] at hsc
          have hEX : Sp.scE X = Sp.scE u := by unfold Sp.scE; rw [hsc]; rfl
          have hAX : Sp.scA X = Sp.scA u + ((s.length : Int) + 1) := by unfold Sp.scA; rw [hsc]; rfl
          have h2 := parse_bad (s := X) (by rw [hEX]; exact hE) k
          rw [hEX, hAX] at h2
          exact isX 0 _ _ (parse_bad hE k) hE h2 hE (.inr (.inr ⟨_, _, rfl, rfl, by omega, by omega⟩))
    · exact badS a e hr (by omega)
  · exact badS _ _ (parse_bad hE k) hE

end Go.Vai
end

section
namespace Go.Vai
open Go.Proofs

open Go.Proofs.YtdgdfglbhndjnaaDoor in
theorem glob_says : globSays cx.P cx.glob Rows.treePlacesRow.laid := by
  intro g x h
  match g, h with
  | 0, h => cases h; exact ⟨"hypercube/lex.signs", Rows.laid_hypercube_lex_signs, by simp [Rows.treePlacesRow], by kernel_rfl, by kernel_rfl⟩
  | 1, h => cases h; exact ⟨"unicode/utf8.first", Rows.laid_unicode_utf8_first, by simp [Rows.treePlacesRow], by kernel_rfl, by kernel_rfl⟩
  | 2, h => cases h; exact ⟨"unicode/utf8.acceptRanges", Rows.laid_unicode_utf8_acceptRanges, by simp [Rows.treePlacesRow], by kernel_rfl, by kernel_rfl⟩
  | n + 3, h => cases h

theorem no_routines : noRoutines cx.P := by
  have h : (cx.P.funcs.all fun fn => fn.name != "runtime.NumGoroutine") = true := by kernel_rfl
  intro f fn hf
  have := Array.all_eq_true_iff_forall_mem.1 h fn (Array.mem_of_getElem? hf)
  simpa using this

theorem mixed : cx.P.follows .mixedOrders = true := by kernel_rfl

def lits : D → Value
  | .int k n => .int k n
  | .str s => .string (strB s)
  | _ => undef

/-- A world for the witness: the settled one, the listed variables holding what the row lists. -/
noncomputable def laidWorld (os : Os) : World :=
  { World.holding Tryd.prog os ⟨#[], #[], []⟩ with heap := ((((World.holding Tryd.prog os ⟨#[], #[], []⟩).heap.modify 0 fun
      | .cells _ t frozen => .cells (signsD.cells.map lits).toArray t frozen
      | o => o).modify 1 fun
      | .cells _ t frozen => .cells ((unW Go.Pinned.utf8First).map lits).toArray t frozen
      | o => o).modify 2 fun
      | .cells _ t frozen => .cells (acc.cells.map lits).toArray t frozen
      | o => o) }

theorem str_rd {w : World} {own : Own} (s : ByteArray) : RD w own (.string s) (.str s.data.toList) := by
  have h := RD.str (w := w) (own := own) s.data.toList
  have e : strB s.data.toList = s := by simp [strB]
  rwa [e] at h
end Go.Vai
end

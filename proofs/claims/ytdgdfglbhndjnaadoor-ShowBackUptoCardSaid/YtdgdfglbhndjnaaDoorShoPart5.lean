/-
  Show: the reader on tokens that lie there: what it may answer.
  Show: names, faces, atoms, spines read back.
  Show: terms read back.
  Show: terms read back: spines, binders; all of it.
  Show: every tree's text is read back.
  Show: every tree's text is read back: all trees.
  Show: the same tree but for places: the program's look.
  Show: a tree's text, read.
  Show: ShowBack answers yes.
-/
import Derived.Test.YtdgdfglbhndjnaaDoorShoPart4

set_option linter.all false
set_option linter.unusedSimpArgs false
set_option linter.unusedVariables false

section
namespace Go.Vai
open Go.Proofs

def TokIs (l : List D) (i : Int) (q : Kt) : Prop := ∃ a, Sp.tok l i = some (q.1, q.2, a)
def Has (l : List D) : Int → List Kt → Prop
  | _, [] => True
  | i, q :: ks => TokIs l i q ∧ Has l (i + 1) ks
theorem has_app {l : List D} : ∀ (ks js : List Kt) (i : Int), Has l i (ks ++ js) ↔ Has l i ks ∧ Has l (i + ks.length) js
  | [], js, i => by simp [Has]
  | q :: ks, js, i => by
    have := has_app (l := l) ks js (i + 1)
    rw [List.cons_append]
    simp only [Has, this, List.length_cons]
    rw [show i + ((ks.length + 1 : Nat) : Int) = i + 1 + (ks.length : Int) by omega, and_assoc]
theorem tokIs_up {l : List D} {i : Int} {q : Kt} (h : TokIs l i q) : up i = i + 1 := by
  obtain ⟨a, h⟩ := h
  exact up_tok h

/-- What the reader may answer: nothing (too little fuel), that it's too deep, or what is asked. -/
def Bad (o : Option PR) : Prop := o = none ∨ ∃ a j, o = some (.bad a 62 j)
def Ans (o : Option PR) (P : Tr → Int → Prop) : Prop := Bad o ∨ ∃ t j, o = some (.ok t j) ∧ P t j
theorem Bad.none : Bad none := .inl rfl
theorem Bad.call {o : Option PR} {K} (h : Bad o) : Bad (Sp.call o K) := by
  rcases h with rfl | ⟨a, j, rfl⟩
  · exact .inl rfl
  · exact .inr ⟨a, j, rfl⟩
theorem call_ok (t : Tr) (j : Int) (K) : Sp.call (some (.ok t j)) K = K t j := by
  unfold Sp.call
  simp [optK, Sp.okQ, Sp.trOf, Sp.nxt]
theorem Ans.call {o : Option PR} {K P Q} (h : Ans o P) (hK : ∀ t j, P t j → Ans (K t j) Q) : Ans (Sp.call o K) Q := by
  rcases h with h | ⟨t, j, rfl, hp⟩
  · exact .inl h.call
  · rw [call_ok]; exact hK t j hp
theorem Ans.ok {t j} {P : Tr → Int → Prop} (h : P t j) : Ans (some (.ok t j)) P := .inr ⟨t, j, rfl, h⟩
theorem Ans.mono {o P Q} (h : Ans o P) (hq : ∀ t j, P t j → Q t j) : Ans o Q := by
  rcases h with h | ⟨t, j, e, hp⟩
  · exact .inl h
  · exact .inr ⟨t, j, e, hq t j hp⟩
theorem isS_eq {k : Int} {t : List UInt8} {a : Int} (s : List UInt8) : Sp.isS (k, t, a) s = (decide (k = 2) && decide (t = s)) := rfl
theorem optT {α β : Type} (x : α) (K : α → Option β) : optK (some x) K = K x := by unfold optK; simp

theorem want_ok {l : List D} {i : Int} {s : List UInt8} {K} {Q} (h : TokIs l i (2, s)) (hK : Ans (K (i + 1)) Q) : Ans (Sp.want l i s K) Q := by
  have hu := tokIs_up h
  obtain ⟨a, h⟩ := h
  unfold Sp.want
  rw [h, optT, isS_eq, decide_eq_true rfl, decide_eq_true rfl, Bool.and_self, cond_true, hu]
  exact hK
theorem name_ok {l : List D} {i : Int} {s : List UInt8} {K} {Q} (h : TokIs l i (1, s)) (hK : Ans (K s (i + 1)) Q) : Ans (Sp.name l i K) Q := by
  have hu := tokIs_up h
  obtain ⟨a, h⟩ := h
  unfold Sp.name
  rw [h, optT, decide_eq_true rfl, cond_true, hu]
  exact hK

mutual
/-- The same tree, but for places. -/
def simT : T → Tr → Prop
  | .mk k nm kids nms _, u => u.k = k ∧ u.nm = nm ∧ u.nms = nms.map .str ∧ simL kids u.kids
def simL : List T → List D → Prop
  | [], l => l = []
  | t :: ts, l => ∃ u r, l = trD u :: r ∧ simT t u ∧ simL ts r
end

/-- Formulas. -/
def dimR (t : T) : Prop := ∀ (k : Nat) (l : List D) (i v : Int), Has l i (kFm t 2) → Ans ((Sp.tbl k).dim l i v) fun u j => j = i + (kFm t 2).length ∧ simT t u
/-- A loop that goes on behind it. -/
def Lands (o : Option PR) (f : Nat → Int → Tr → Option PR) (j : Int) (t : T) : Prop := Bad o ∨ ∃ r u, o = f r j u ∧ simT t u
def meetR (t : T) : Prop := ∀ (k r : Nat) (l : List D) (i v : Int), Has l i (kFm t 1) → Lands (Sp.call ((Sp.tbl k).dim l i v) fun u j => Sp.meetL (Sp.tbl k) r l j v u) (fun r j u => Sp.meetL (Sp.tbl k) r l j v u) (i + (kFm t 1).length) t
/-- What may stand behind a formula. -/
def stopF (q : Kt) : Prop := q ≠ (2, [92, 47]) ∧ q ≠ (2, [47, 92])
def joinR (t : T) : Prop := ∀ (k r : Nat) (l : List D) (i v : Int) (q : Kt), Has l i (kFm t 0 ++ [q]) → q ≠ (2, [47, 92]) →
  Lands (Sp.call ((Sp.tbl k).meet l i v) fun u j => Sp.joinL (Sp.tbl k) r l j v u) (fun r j u => Sp.joinL (Sp.tbl k) r l j v u) (i + (kFm t 0).length) t

theorem isS_ne {q : Kt} {s : List UInt8} {a : Int} (h : q ≠ (2, s)) : Sp.isS (q.1, q.2, a) s = false := by
  rw [isS_eq]
  obtain ⟨k, t⟩ := q
  by_cases h1 : k = 2
  · by_cases h2 : t = s
    · subst h1; subst h2; exact absurd rfl h
    · simp [h2]
  · simp [h1]

theorem has_two {l : List D} {i : Int} {a b : List Kt} (h : Has l i (a ++ b)) : Has l i a ∧ Has l (i + a.length) b := (has_app a b i).1 h
theorem meet_res {t : T} (h : meetR t) (k : Nat) (l : List D) (i v : Int) (q : Kt) (hh : Has l i (kFm t 1 ++ [q])) (hq : q ≠ (2, [47, 92])) : Ans ((Sp.tbl k).meet l i v) fun u j => j = i + (kFm t 1).length ∧ simT t u := by
  cases k with
  | zero => exact .inl .none
  | succ k =>
    obtain ⟨h1, h2⟩ := has_two hh
    show Ans (Sp.call ((Sp.tbl k).dim l i v) fun u j => Sp.meetL (Sp.tbl k) k l j v u) _
    rcases h k k l i v h1 with hb | ⟨r, u, e, hs⟩
    · exact .inl hb
    · rw [e]
      cases r with
      | zero => exact .inl .none
      | succ r =>
        obtain ⟨⟨a, ht⟩, _⟩ := h2
        dsimp only
        rw [Sp.meetL, ht, optT, isS_ne hq, cond_false]
        exact .ok ⟨rfl, hs⟩
theorem join_res {t : T} (h : joinR t) (k : Nat) (l : List D) (i v : Int) (q : Kt) (hh : Has l i (kFm t 0 ++ [q])) (hq : stopF q) : Ans ((Sp.tbl k).join l i v) fun u j => j = i + (kFm t 0).length ∧ simT t u := by
  cases k with
  | zero => exact .inl .none
  | succ k =>
    obtain ⟨h1, h2⟩ := has_two hh
    show Ans (Sp.call ((Sp.tbl k).meet l i v) fun u j => Sp.joinL (Sp.tbl k) k l j v u) _
    rcases h k k l i v q hh hq.2 with hb | ⟨r, u, e, hs⟩
    · exact .inl hb
    · rw [e]
      cases r with
      | zero => exact .inl .none
      | succ r =>
        obtain ⟨⟨a, ht⟩, _⟩ := h2
        dsimp only
        rw [Sp.joinL, ht, optT, isS_ne hq.1, cond_false]
        exact .ok ⟨rfl, hs⟩
theorem lands_dim {t : T} (h : dimR t) (e : kFm t 1 = kFm t 2) : meetR t := fun k r l i v hh => by
  rw [e] at hh ⊢
  rcases h k l i v hh with hb | ⟨u, j, e, rfl, hs⟩
  · exact .inl hb.call
  · rw [e, call_ok]; exact .inr ⟨r, u, rfl, hs⟩
theorem lands_meet {t : T} (h : meetR t) (e : kFm t 0 = kFm t 1) : joinR t := fun k r l i v q hh hq => by
  rw [e] at hh ⊢
  rcases meet_res h k l i v q hh hq with hb | ⟨u, j, e, rfl, hs⟩
  · exact .inl hb.call
  · rw [e, call_ok]; exact .inr ⟨r, u, rfl, hs⟩
/-- In brackets. -/
theorem dim_brk {t : T} (h : joinR t) (e : kFm t 2 = [sg 40] ++ kFm t 0 ++ [sg 41]) : dimR t := fun k l i v hh => by
  cases k with
  | zero => exact .inl .none
  | succ k =>
    rw [e] at hh ⊢
    obtain ⟨h1, h2⟩ := has_two (a := [sg 40]) (b := kFm t 0 ++ [sg 41]) (by simpa using hh)
    have hup := tokIs_up h1.1
    obtain ⟨⟨a, ht⟩, _⟩ := h1
    have ht : Sp.tok l i = some (2, [40], a) := ht
    show Ans (Sp.dimG (Sp.tbl k) l i v) _
    unfold Sp.dimG
    rw [ht, optT]
    cases hv : decide ((200 : Int) < v)
    · simp only [cond_false, isS_eq, hup]
      show Ans (Sp.call ((Sp.tbl k).join l (i + 1) (up v)) fun t j => Sp.want l j [41] fun j => some (.ok t j)) _
      refine (join_res h k l (i + 1) (up v) (sg 41) h2 ⟨by decide, by decide⟩).call fun u j ⟨hj, hs⟩ => ?_
      subst hj
      refine want_ok (has_two h2).2.1 (.ok ⟨?_, hs⟩)
      simp only [List.length_append, List.length_cons, List.length_nil]
      omega
    · exact .inl (.inr ⟨_, _, rfl⟩)

theorem form_ok : ∀ t : T, Sp.form t = true → dimR t ∧ meetR t ∧ joinR t
  | .mk k nm [] nms pl, h => by
    rw [Sp.form, Bool.and_eq_true, Bool.or_eq_true, Bool.and_eq_true, Bool.and_eq_true] at h
    obtain ⟨h0, h⟩ := h
    have hn := of_decide_eq_true h0; subst hn
    have hd : dimR (.mk k nm [] [] pl) := fun n l i v hh => by
      cases n with
      | zero => exact .inl .none
      | succ n =>
        show Ans (Sp.dimG (Sp.tbl n) l i v) _
        unfold Sp.dimG
        rcases h with ⟨h1, h2⟩ | ⟨h1, h2⟩
        · have hk := of_decide_eq_true h1; subst hk
          have hup := tokIs_up hh.1
          obtain ⟨⟨a, ht⟩, _⟩ := hh
          have ht : Sp.tok l i = some (1, nm, a) := ht
          rw [ht, optT]
          cases hv : decide ((200 : Int) < v)
          · exact .ok ⟨hup, rfl, rfl, rfl, rfl⟩
          · exact .inl (.inr ⟨_, _, rfl⟩)
        · have hk := of_decide_eq_true h1; subst hk
          have hup := tokIs_up hh.1
          obtain ⟨⟨a, ht⟩, _⟩ := hh
          have ht : Sp.tok l i = some (2, nm, a) := ht
          rw [ht, optT]
          cases hv : decide ((200 : Int) < v)
          · have : (Sp.isS (2, nm, a) [48] || Sp.isS (2, nm, a) [49]) = true := by
              rw [isS_eq, isS_eq, decide_eq_true rfl, Bool.true_and, Bool.true_and]
              exact h2
            rw [this]
            exact .ok ⟨hup, rfl, rfl, rfl, rfl⟩
          · exact .inl (.inr ⟨_, _, rfl⟩)
    have e : Sp.rnk k = 2 := by
      rcases h with ⟨h1, _⟩ | ⟨h1, _⟩ <;> (have hk := of_decide_eq_true h1; subst hk; rfl)
    have e1 : kFm (.mk k nm [] [] pl) 1 = kFm (.mk k nm [] [] pl) 2 := by
      show kBrk (decide (Sp.rnk k < 1)) _ = kBrk (decide (Sp.rnk k < 2)) _
      rw [e]; rfl
    have e0 : kFm (.mk k nm [] [] pl) 0 = kFm (.mk k nm [] [] pl) 1 := by
      show kBrk (decide (Sp.rnk k < 0)) _ = kBrk (decide (Sp.rnk k < 1)) _
      rw [e]; rfl
    exact ⟨hd, lands_dim hd e1, lands_meet (lands_dim hd e1) e0⟩
  | .mk k nm [x] nms pl, h => by
    simp only [Sp.form, Bool.and_eq_true] at h
    obtain ⟨⟨⟨h1, hn⟩, hm⟩, h2⟩ := h
    have hk := of_decide_eq_true h1; subst hk
    have hn := of_decide_eq_true hn; subst hn
    have hm := of_decide_eq_true hm; subst hm
    have ih := form_ok x h2
    have hd : dimR (.mk 16 [] [x] [] pl) := fun n l i v hh => by
      cases n with
      | zero => exact .inl .none
      | succ n =>
        show Ans (Sp.dimG (Sp.tbl n) l i v) _
        unfold Sp.dimG
        have hh : Has l i ([sg 126] ++ kFm x 2) := hh
        obtain ⟨g1, g2⟩ := has_two hh
        have hup := tokIs_up g1.1
        obtain ⟨⟨a, ht⟩, _⟩ := g1
        have ht : Sp.tok l i = some (2, [126], a) := ht
        rw [ht, optT]
        cases hv : decide ((200 : Int) < v)
        · show Ans (Sp.call ((Sp.tbl n).dim l (up i) (up v)) fun t j => some (.ok ⟨16, [], [trD t], [], a⟩ j)) _
          rw [hup]
          refine (ih.1 n l (i + 1) (up v) g2).call fun u j ⟨hj, hs⟩ => ?_
          subst hj
          refine .ok ⟨?_, rfl, rfl, rfl, _, _, rfl, hs, rfl⟩
          show _ = i + (([sg 126] ++ kFm x 2).length : Int)
          simp only [List.length_append, List.length_cons, List.length_nil]
          omega
        · exact .inl (.inr ⟨_, _, rfl⟩)
    exact ⟨hd, lands_dim hd rfl, lands_meet (lands_dim hd rfl) rfl⟩
  | .mk k nm [x, y] nms pl, h => by
    simp only [Sp.form, Bool.and_eq_true, Bool.or_eq_true] at h
    obtain ⟨⟨⟨⟨h1, hn⟩, hm⟩, h2⟩, h3⟩ := h
    have hn := of_decide_eq_true hn; subst hn
    have hm := of_decide_eq_true hm; subst hm
    have ix := form_ok x h2
    have iy := form_ok y h3
    rcases h1 with h1 | h1
    · have hk := of_decide_eq_true h1; subst hk
      have hj : joinR (.mk 14 [] [x, y] [] pl) := fun n r l i v q hh hq => by
        have hh : Has l i ((kFm x 0 ++ [(2, [92, 47])] ++ kFm y 1) ++ [q]) := hh
        have e : (kFm x 0 ++ [(2, [92, 47])] ++ kFm y 1) ++ [q] = (kFm x 0 ++ [(2, [92, 47])]) ++ (kFm y 1 ++ [q]) := by simp
        rw [e] at hh
        obtain ⟨g1, g2⟩ := has_two hh
        obtain ⟨_, g3⟩ := has_two g1
        rcases ix.2.2 n r l i v _ g1 (by decide) with hb | ⟨r', u, e, hs⟩
        · exact .inl hb
        · rw [e]
          cases r' with
          | zero => exact .inl .none
          | succ r' =>
            have hup := tokIs_up g3.1
            obtain ⟨⟨a, ht⟩, _⟩ := g3
            have ht : Sp.tok l (i + (kFm x 0).length) = some (2, [92, 47], a) := ht
            dsimp only
            rw [Sp.joinL, ht, optT, isS_eq, decide_eq_true rfl, decide_eq_true rfl, Bool.and_self, cond_true, hup]
            have e2 : i + (((kFm x 0 ++ [(2, [92, 47])] : List Kt)).length : Int) = i + (kFm x 0).length + 1 := by
              simp only [List.length_append, List.length_cons, List.length_nil]; omega
            rw [e2] at g2
            rcases meet_res iy.2.1 n l _ v q g2 hq with hb | ⟨w, j, e, rfl, hw⟩
            · exact .inl hb.call
            · rw [e, call_ok]
              refine .inr ⟨r', ⟨14, [], [trD u, trD w], [], u.pl⟩, ?_, rfl, rfl, rfl, _, _, rfl, hs, _, _, rfl, hw, rfl⟩
              congr 1
              show _ = i + ((kFm x 0 ++ [(2, [92, 47])] ++ kFm y 1 : List Kt).length : Int)
              simp only [List.length_append, List.length_cons, List.length_nil]
              omega
      have hd := dim_brk hj rfl
      exact ⟨hd, lands_dim hd rfl, hj⟩
    · have hk := of_decide_eq_true h1; subst hk
      have hj : meetR (.mk 15 [] [x, y] [] pl) := fun n r l i v hh => by
        have hh : Has l i (kFm x 1 ++ [(2, [47, 92])] ++ kFm y 2) := hh
        obtain ⟨g1, g2⟩ := has_two hh
        obtain ⟨g0, g3⟩ := has_two g1
        rcases ix.2.1 n r l i v g0 with hb | ⟨r', u, e, hs⟩
        · exact .inl hb
        · rw [e]
          cases r' with
          | zero => exact .inl .none
          | succ r' =>
            have hup := tokIs_up g3.1
            obtain ⟨⟨a, ht⟩, _⟩ := g3
            have ht : Sp.tok l (i + (kFm x 1).length) = some (2, [47, 92], a) := ht
            dsimp only
            rw [Sp.meetL, ht, optT, isS_eq, decide_eq_true rfl, decide_eq_true rfl, Bool.and_self, cond_true, hup]
            have e2 : i + (((kFm x 1 ++ [(2, [47, 92])] : List Kt)).length : Int) = i + (kFm x 1).length + 1 := by
              simp only [List.length_append, List.length_cons, List.length_nil]; omega
            rw [e2] at g2
            rcases iy.1 n l _ v g2 with hb | ⟨w, j, e, rfl, hw⟩
            · exact .inl hb.call
            · rw [e, call_ok]
              refine .inr ⟨r', ⟨15, [], [trD u, trD w], [], u.pl⟩, ?_, rfl, rfl, rfl, _, _, rfl, hs, _, _, rfl, hw, rfl⟩
              congr 1
              show _ = i + ((kFm x 1 ++ [(2, [47, 92])] ++ kFm y 2 : List Kt).length : Int)
              simp only [List.length_append, List.length_cons, List.length_nil]
              omega
      have hjj := lands_meet hj rfl
      exact ⟨dim_brk hjj rfl, hj, hjj⟩
  | .mk k nm (a :: b :: c :: l) nms pl, h => by simp [Sp.form] at h
end Go.Vai
end

section
namespace Go.Vai
open Go.Proofs

/-- What may stand behind a term. -/
def stopT (q : Kt) : Bool := !decide (q.1 = 1) && !decide (q = (2, [64])) && !decide (q = (2, [40])) && !decide (q = (2, [91])) && !decide (q = (2, [45, 62])) && !decide (q = (2, [42]))
def arrQ (q : Kt) : Bool := decide (q = (2, [45, 62])) || decide (q = (2, [42]))
def termR (t : T) : Prop := ∀ (k : Nat) (l : List D) (i v : Int) (q : Kt), Has l i (kText t 0 ++ [q]) → stopT q = true → Ans ((Sp.tbl k).term l i v) fun u j => j = i + (kText t 0).length ∧ simT t u
def atomR (t : T) : Prop := ∀ (k : Nat) (l : List D) (i v : Int), Has l i (kText t 2) → Ans ((Sp.tbl k).atom l i v) fun u j => j = i + (kText t 2).length ∧ simT t u
/-- A term's beginning, that is no binder of names. -/
def startG (m k r : Nat) (l : List D) (i v a : Int) : Option PR := optK (Sp.binds l i) fun b => bif b
    then optK (Sp.tok l (up i)) fun x => Sp.call ((Sp.tbl m).term l (up (up (up i))) (up v)) fun A j => Sp.want l j [41] fun j => optK (Sp.tok l j) fun q =>
      bif !decide (Sp.arr q = 0) then Sp.call ((Sp.tbl m).term l (up j) (up v)) fun t j => some (.ok ⟨Sp.arr q, [], [trD A, trD t], [.str x.2.1], a⟩ j)
      else Sp.afterG (Sp.tbl k) r l j v ⟨9, [], [trD ⟨1, x.2.1, [], [], x.2.2⟩, trD A], [], a⟩
    else Sp.call ((Sp.tbl m).atom l i v) fun t j => Sp.afterG (Sp.tbl k) r l j v t
/-- Is it an Ann of a name? -/
def annT : T → Bool | .mk k _ (.mk k' _ _ _ _ :: _) _ _ => decide (k = 9) && decide (k' = 1) | _ => false
def startR (t : T) : Prop := ∀ (m k r : Nat) (l : List D) (i v a : Int) (q : Kt), Has l i (kText t 1 ++ [q]) → (annT t = true → arrQ q = false) →
  (∃ b, Sp.tok l i = some b ∧ b.2.2 = a) → Lands (startG m k r l i v a) (fun r j u => Sp.afterG (Sp.tbl k) r l j v u) (i + (kText t 1).length) t

theorem namesL_ok {l : List D} {q : Kt} (hq : q.1 ≠ 1) : ∀ (nms : List (List UInt8)) (r : Nat) (i : Int) (ns : List D), Has l i (kNames nms ++ [q]) → Sp.namesL r l i ns = none ∨ Sp.namesL r l i ns = some (.ok (ns ++ nms.map .str) (i + nms.length))
  | _, 0, _, _, _ => .inl rfl
  | [], r + 1, i, ns, h => by
    obtain ⟨⟨a, ht⟩, _⟩ := h
    rw [Sp.namesL, ht, optT, decide_eq_false hq, cond_false]
    exact .inr (by simp)
  | s :: nms, r + 1, i, ns, h => by
    obtain ⟨h1, h2⟩ := h
    have hup := tokIs_up h1
    obtain ⟨a, ht⟩ := h1
    have ht : Sp.tok l i = some (1, s, a) := ht
    rw [Sp.namesL, ht, optT, decide_eq_true rfl, cond_true, hup]
    cases Sp.short ns
    · exact .inl rfl
    · rw [must, cond_true]
      rcases namesL_ok hq nms r (i + 1) (ns ++ [.str s]) h2 with h | h
      · exact .inl h
      · refine .inr ?_
        rw [h, List.append_assoc, List.map_cons, List.length_cons]
        show some (PN.ok (ns ++ D.str s :: nms.map .str) (i + 1 + nms.length)) = some (PN.ok (ns ++ D.str s :: nms.map .str) (i + ((nms.length + 1 : Nat) : Int)))
        rw [show i + 1 + (nms.length : Int) = i + ((nms.length + 1 : Nat) : Int) by omega]
theorem callN_ok {k : Nat} {l : List D} {i : Int} {nms : List (List UInt8)} {q : Kt} {K} {P} (hne : nms ≠ []) (h : Has l i (kNames nms ++ [q])) (hq : q.1 ≠ 1) (hK : Ans (K (nms.map .str) (i + nms.length)) P) : Ans (Sp.callN ((Sp.tbl k).names l i) K) P := by
  cases k with
  | zero => exact .inl .none
  | succ k =>
    cases nms with
    | nil => exact absurd rfl hne
    | cons s nms =>
      obtain ⟨h1, h2⟩ := h
      have hup := tokIs_up h1
      obtain ⟨a, ht⟩ := h1
      have ht : Sp.tok l i = some (1, s, a) := ht
      show Ans (Sp.callN (Sp.namesG k l i) K) P
      rw [Sp.namesG, ht, optT, decide_eq_true rfl, cond_true, hup]
      rcases namesL_ok hq nms k (i + 1) [.str s] h2 with h | h
      · rw [h]; exact .inl .none
      · rw [h]
        have e : i + 1 + (nms.length : Int) = i + ((s :: nms).length : Int) := by rw [List.length_cons]; omega
        rw [e]
        show Ans (optK (some _) _) P
        rw [optT]
        exact hK

/-- Faces. -/
theorem faceL_ok {l : List D} {q : Kt} (hq : q ≠ (2, [40])) (a : Int) : ∀ (kids : List T) (r : Nat) (i : Int) (acc : List D), kids ≠ [] → (∀ t ∈ kids, Sp.eqn t = true) → Has l i ((kids.map kEq).flatten ++ [q]) →
    Ans (Sp.faceL r l i acc a) fun u j => j = i + (kids.map kEq).flatten.length ∧ ∃ ds, u = ⟨12, [], acc ++ ds, [], a⟩ ∧ simL kids ds
  | _, 0, _, _, _, _, _ => .inl .none
  | [], _ + 1, _, _, h, _, _ => absurd rfl h
  | t :: kids, r + 1, i, acc, _, he, h => by
    obtain ⟨k, nm, ts, nms, pl⟩ := t
    have ht := he _ (List.mem_cons_self ..)
    rcases ts with _ | ⟨b, ts⟩ <;> rcases nms with _ | ⟨x, _ | ⟨y, nms⟩⟩ <;> simp only [Sp.eqn, Bool.and_eq_true, Bool.false_eq_true] at ht
    obtain ⟨⟨hk, hn⟩, hx⟩ := ht
    have hk := of_decide_eq_true hk; subst hk
    have h : Has l i ([sg 40, nmK nm, sg 61, (2, x), sg 41] ++ ((kids.map kEq).flatten ++ [q])) := by
      have e : (List.map kEq (.mk 13 nm [] [x] pl :: kids)).flatten ++ [q] = [sg 40, nmK nm, sg 61, (2, x), sg 41] ++ ((kids.map kEq).flatten ++ [q]) := by simp [kEq, Sp.at, T.nm, T.nms]
      rw [← e]; exact h
    obtain ⟨⟨h1, h2, h3, h4, h5, _⟩, h6⟩ := has_two h
    have hup := tokIs_up h1
    obtain ⟨a1, ht⟩ := h1
    have ht : Sp.tok l i = some (2, [40], a1) := ht
    rw [Sp.faceL, ht, optT, isS_eq, decide_eq_true rfl, decide_eq_true rfl, Bool.and_self, cond_true, hup]
    refine name_ok h2 (want_ok h3 ?_)
    have hup4 := tokIs_up h4
    obtain ⟨a4, ht4⟩ := h4
    have ht4 : Sp.tok l (i + 1 + 1 + 1) = some (2, x, a4) := ht4
    rw [ht4, optT]
    have hb : (Sp.isS (2, x, a4) [48] || Sp.isS (2, x, a4) [49]) = true := by
      rw [isS_eq, isS_eq, decide_eq_true rfl, Bool.true_and, Bool.true_and]; exact hx
    rw [hb, cond_true, hup4]
    refine want_ok h5 ?_
    cases Sp.short acc
    · exact .inl .none
    · rw [must, cond_true]
      have e5 : i + (([sg 40, nmK nm, sg 61, (2, x), sg 41] : List Kt).length : Int) = i + 1 + 1 + 1 + 1 + 1 := by
        simp only [List.length_cons, List.length_nil]; omega
      rw [e5] at h6
      have el : ((List.map kEq (.mk 13 nm [] [x] pl :: kids)).flatten.length : Int) = 5 + ((kids.map kEq).flatten.length : Int) := by
        simp only [List.map_cons, List.flatten_cons, List.length_append, kEq, List.length_cons, List.length_nil]; omega
      cases kids with
      | nil =>
        obtain ⟨⟨b, hb⟩, _⟩ := h6
        rw [hb, optT, isS_ne hq, cond_false]
        refine .ok ⟨?_, [trD ⟨13, nm, [], [.str x], a1⟩], rfl, _, _, rfl, ⟨rfl, rfl, rfl, rfl⟩, rfl⟩
        rw [el]
        simp only [List.map_nil, List.flatten_nil, List.length_nil]
        omega
      | cons t2 kids =>
        have hq2 : ∃ z, Sp.tok l (i + 1 + 1 + 1 + 1 + 1) = some (2, [40], z) := by
          obtain ⟨g1, _⟩ := has_two h6
          simp only [List.map_cons, List.flatten_cons, kEq, List.append_assoc] at g1
          exact g1.1
        obtain ⟨z, hz⟩ := hq2
        rw [hz, optT, isS_eq, decide_eq_true rfl, decide_eq_true rfl, Bool.and_self, cond_true]
        refine (faceL_ok hq a (t2 :: kids) r _ _ (by simp) (fun u hu => he u (List.mem_cons_of_mem _ hu)) h6).mono ?_
        rintro u j ⟨rfl, ds, rfl, hs⟩
        refine ⟨?_, trD ⟨13, nm, [], [.str x], a1⟩ :: ds, ?_, _, _, rfl, ⟨rfl, rfl, rfl, rfl⟩, hs⟩
        · rw [el]; omega
        · simp
theorem face_ok {f : T} (hf : Sp.faceB f = true) (k : Nat) (l : List D) (i : Int) (q : Kt) (h : Has l i (kFace f ++ [q])) (hq : q ≠ (2, [40])) : Ans ((Sp.tbl k).face l i) fun u j => j = i + (kFace f).length ∧ simT f u := by
  obtain ⟨kk, nm, kids, nms, pl⟩ := f
  simp only [Sp.faceB, Bool.and_eq_true] at hf
  obtain ⟨⟨⟨hk, hn⟩, hm⟩, he⟩ := hf
  have hk := of_decide_eq_true hk; subst hk
  have hn := of_decide_eq_true hn; subst hn
  have hm := of_decide_eq_true hm; subst hm
  cases k with
  | zero => exact .inl .none
  | succ k =>
    show Ans (Sp.faceG k l i) _
    cases kids with
    | nil =>
      have h : Has l i [sg 49, q] := h
      have hup := tokIs_up h.1
      obtain ⟨⟨a, ht⟩, _⟩ := h
      have ht : Sp.tok l i = some (2, [49], a) := ht
      rw [Sp.faceG, ht, optT, isS_eq, decide_eq_true rfl, decide_eq_true rfl, Bool.and_self, cond_true]
      exact .ok ⟨hup, rfl, rfl, rfl, rfl⟩
    | cons t kids =>
      have h : Has l i (((t :: kids).map kEq).flatten ++ [q]) := h
      have hp : ∃ z, Sp.tok l i = some (2, [40], z) := by
        have g := (has_two h).1
        simp only [List.map_cons, List.flatten_cons, kEq, List.append_assoc] at g
        exact g.1
      obtain ⟨z, hz⟩ := hp
      rw [Sp.faceG, hz, optT, isS_ne (q := (2, [40])) (by decide), cond_false]
      refine (faceL_ok hq z (t :: kids) k i [] (by simp) (List.all_eq_true.1 he) h).mono ?_
      rintro u j ⟨rfl, ds, rfl, hs⟩
      exact ⟨rfl, rfl, rfl, rfl, hs⟩
end Go.Vai
end

section
namespace Go.Vai
open Go.Proofs

theorem cls_lt (k : Int) : decide (Sp.cls k < 0) = false := by
  refine decide_eq_false ?_
  unfold Sp.cls
  cases (decide (k = 2) || decide (k = 3) || decide (k = 4) || decide (k = 5)) <;> cases (decide (k = 6) || decide (k = 7)) <;> simp
theorem kText0 (t : T) : kText t 0 = kBare t := by
  unfold kText
  rw [cls_lt]
  rfl
theorem len_brk (l : List Kt) : (([sg 40] ++ l ++ [sg 41] : List Kt).length : Int) = l.length + 2 := by
  simp only [List.length_append, List.length_cons, List.length_nil]; omega

theorem has_three {l : List D} {i : Int} {a b c : List Kt} (h : Has l i (a ++ b ++ c)) : Has l i a ∧ Has l (i + a.length) (b ++ c) := by
  rw [List.append_assoc] at h
  exact has_two h

/-- Behind a bracket and a term. -/
def parenK (g : Tb) (l : List D) (v a : Int) (t : Tr) (j : Int) : Option PR := optK (Sp.tok l j) fun q =>
    bif Sp.isS q [44] then Sp.call (g.term l (up j) (up v)) fun u j => Sp.want l j [41] fun j => some (.ok ⟨8, [], [trD t, trD u], [], a⟩ j)
    else bif Sp.isS q [58] then Sp.call (g.term l (up j) (up v)) fun u j => Sp.want l j [41] fun j => some (.ok ⟨9, [], [trD t, trD u], [], a⟩ j)
    else bif Sp.isS q [41] then some (.ok t (up j)) else some (.bad q.2.2 61 j)
theorem atomG_40 {g : Tb} {l : List D} {i v a : Int} (ht : Sp.tok l i = some (2, [40], a)) : Sp.atomG g l i v = Sp.call (g.term l (up i) (up v)) fun t j => parenK g l v a t j := by
  unfold Sp.atomG
  rw [ht, optT]
  rfl
theorem atomG_91 {g : Tb} {l : List D} {i v a : Int} (ht : Sp.tok l i = some (2, [91], a)) : Sp.atomG g l i v = g.box l i v := by
  unfold Sp.atomG
  rw [ht, optT]
  rfl
theorem parenK_44 {g : Tb} {l : List D} {v a b j : Int} {t : Tr} (ht : Sp.tok l j = some (2, [44], b)) : parenK g l v a t j = Sp.call (g.term l (up j) (up v)) fun u j => Sp.want l j [41] fun j => some (.ok ⟨8, [], [trD t, trD u], [], a⟩ j) := by
  unfold parenK
  rw [ht, optT]
  rfl
theorem parenK_58 {g : Tb} {l : List D} {v a b j : Int} {t : Tr} (ht : Sp.tok l j = some (2, [58], b)) : parenK g l v a t j = Sp.call (g.term l (up j) (up v)) fun u j => Sp.want l j [41] fun j => some (.ok ⟨9, [], [trD t, trD u], [], a⟩ j) := by
  unfold parenK
  rw [ht, optT]
  rfl
theorem parenK_41 {g : Tb} {l : List D} {v a b j : Int} {t : Tr} (ht : Sp.tok l j = some (2, [41], b)) : parenK g l v a t j = some (.ok t (up j)) := by
  unfold parenK
  rw [ht, optT]
  rfl

section atoms
variable {k : Nat} {l : List D} {i v : Int}

/-- A term in brackets. -/
theorem atom_paren {t : T} (h : termR t) (k : Nat) (l : List D) (i v : Int) (hh : Has l i ([sg 40] ++ kText t 0 ++ [sg 41])) : Ans ((Sp.tbl k).atom l i v) fun u j => j = i + (([sg 40] ++ kText t 0 ++ [sg 41] : List Kt).length : Int) ∧ simT t u := by
  cases k with
  | zero => exact .inl .none
  | succ k =>
    obtain ⟨h1, h2⟩ := has_three hh
    have hup := tokIs_up h1.1
    obtain ⟨⟨a, ht⟩, _⟩ := h1
    have ht : Sp.tok l i = some (2, [40], a) := ht
    show Ans (Sp.atomG (Sp.tbl k) l i v) _
    rw [atomG_40 ht, hup]
    refine (h k l (i + 1) (up v) (sg 41) h2 rfl).call fun u j ⟨hj, hs⟩ => ?_
    subst hj
    have h3 : TokIs l (i + 1 + (kText t 0).length) (2, [41]) := (has_two h2).2.1
    have hup3 := tokIs_up h3
    obtain ⟨b, h3⟩ := h3
    have h3 : Sp.tok l (i + 1 + (kText t 0).length) = some (2, [41], b) := h3
    rw [parenK_41 h3]
    refine .ok ⟨?_, hs⟩
    rw [hup3, len_brk]
    omega
theorem atom_brk {t : T} (h : termR t) (e : kText t 2 = [sg 40] ++ kText t 0 ++ [sg 41]) : atomR t := fun k l i v hh => by
  rw [e] at hh ⊢
  exact atom_paren h k l i v hh
theorem atom_name {nm : List UInt8} {pl : Int} : atomR (.mk 1 nm [] [] pl) := fun k l i v hh => by
  cases k with
  | zero => exact .inl .none
  | succ k =>
    have hup := tokIs_up hh.1
    obtain ⟨⟨a, ht⟩, _⟩ := hh
    have ht : Sp.tok l i = some (1, nm, a) := ht
    show Ans (Sp.atomG (Sp.tbl k) l i v) _
    unfold Sp.atomG
    rw [ht, optT]
    exact .ok ⟨hup, rfl, rfl, rfl, rfl⟩
theorem atom_pair {x y : T} {pl : Int} (hx : termR x) (hy : termR y) : atomR (.mk 8 [] [x, y] [] pl) := fun k l i v hh => by
  cases k with
  | zero => exact .inl .none
  | succ k =>
    have hh : Has l i ([sg 40] ++ (kText x 0 ++ [sg 44]) ++ (kText y 0 ++ [sg 41])) := by
      have e : kText (.mk 8 [] [x, y] [] pl) 2 = [sg 40] ++ (kText x 0 ++ [sg 44]) ++ (kText y 0 ++ [sg 41]) := by
        show [sg 40] ++ kText x 0 ++ [sg 44] ++ kText y 0 ++ [sg 41] = _
        simp
      rw [← e]; exact hh
    obtain ⟨h0, h2⟩ := has_two hh
    obtain ⟨h1, h0⟩ := has_two h0
    have hup := tokIs_up h1.1
    obtain ⟨⟨a, ht⟩, _⟩ := h1
    have ht : Sp.tok l i = some (2, [40], a) := ht
    show Ans (Sp.atomG (Sp.tbl k) l i v) _
    rw [atomG_40 ht, hup]
    refine (hx k l (i + 1) (up v) (sg 44) h0 rfl).call fun u j ⟨hj, hs⟩ => ?_
    subst hj
    have h3 := (has_two h0).2.1
    have h3 : TokIs l (i + 1 + (kText x 0).length) (2, [44]) := h3
    have hup3 := tokIs_up h3
    obtain ⟨b, h3⟩ := h3
    have h3 : Sp.tok l (i + 1 + (kText x 0).length) = some (2, [44], b) := h3
    rw [parenK_44 h3, hup3]
    have e2 : i + (([sg 40] ++ (kText x 0 ++ [sg 44]) : List Kt).length : Int) = i + 1 + (kText x 0).length + 1 := by
      simp only [List.length_append, List.length_cons, List.length_nil]; omega
    rw [e2] at h2
    refine (hy k l _ (up v) (sg 41) h2 rfl).call fun w j ⟨hj, hw⟩ => ?_
    subst hj
    refine want_ok (has_two h2).2.1 (.ok ⟨?_, rfl, rfl, rfl, _, _, rfl, hs, _, _, rfl, hw, rfl⟩)
    show _ = i + (([sg 40] ++ kText x 0 ++ [sg 44] ++ kText y 0 ++ [sg 41] : List Kt).length : Int)
    simp only [List.length_append, List.length_cons, List.length_nil]; omega
theorem atom_ann {x y : T} {pl : Int} (hx : termR x) (hy : termR y) : atomR (.mk 9 [] [x, y] [] pl) := fun k l i v hh => by
  cases k with
  | zero => exact .inl .none
  | succ k =>
    have hh : Has l i ([sg 40] ++ (kText x 0 ++ [sg 58]) ++ (kText y 0 ++ [sg 41])) := by
      have e : kText (.mk 9 [] [x, y] [] pl) 2 = [sg 40] ++ (kText x 0 ++ [sg 58]) ++ (kText y 0 ++ [sg 41]) := by
        show [sg 40] ++ kText x 0 ++ [sg 58] ++ kText y 0 ++ [sg 41] = _
        simp
      rw [← e]; exact hh
    obtain ⟨h0, h2⟩ := has_two hh
    obtain ⟨h1, h0⟩ := has_two h0
    have hup := tokIs_up h1.1
    obtain ⟨⟨a, ht⟩, _⟩ := h1
    have ht : Sp.tok l i = some (2, [40], a) := ht
    show Ans (Sp.atomG (Sp.tbl k) l i v) _
    rw [atomG_40 ht, hup]
    refine (hx k l (i + 1) (up v) (sg 58) h0 rfl).call fun u j ⟨hj, hs⟩ => ?_
    subst hj
    have h3 := (has_two h0).2.1
    have h3 : TokIs l (i + 1 + (kText x 0).length) (2, [58]) := h3
    have hup3 := tokIs_up h3
    obtain ⟨b, h3⟩ := h3
    have h3 : Sp.tok l (i + 1 + (kText x 0).length) = some (2, [58], b) := h3
    rw [parenK_58 h3, hup3]
    have e2 : i + (([sg 40] ++ (kText x 0 ++ [sg 58]) : List Kt).length : Int) = i + 1 + (kText x 0).length + 1 := by
      simp only [List.length_append, List.length_cons, List.length_nil]; omega
    rw [e2] at h2
    refine (hy k l _ (up v) (sg 41) h2 rfl).call fun w j ⟨hj, hw⟩ => ?_
    subst hj
    refine want_ok (has_two h2).2.1 (.ok ⟨?_, rfl, rfl, rfl, _, _, rfl, hs, _, _, rfl, hw, rfl⟩)
    show _ = i + (([sg 40] ++ kText x 0 ++ [sg 58] ++ kText y 0 ++ [sg 41] : List Kt).length : Int)
    simp only [List.length_append, List.length_cons, List.length_nil]; omega

/-- An element: a face, and perhaps a term that is read back. -/
def elR : T → Prop
  | .mk _ _ [_, u] _ _ => termR u
  | _ => True
/-- A face's first token. -/
theorem face_first (f : T) (hf : Sp.faceB f = true) : ∃ q ks, kFace f = q :: ks ∧ (q = sg 49 ∨ q = sg 40) := by
  obtain ⟨kk, nm, kids, nms, pl⟩ := f
  cases kids with
  | nil => exact ⟨_, _, rfl, .inl rfl⟩
  | cons t kids => exact ⟨sg 40, _, rfl, .inr rfl⟩
theorem el_first (e : T) (he : Sp.elem e = true) : ∃ q ks, kEl e = q :: ks ∧ (q = sg 49 ∨ q = sg 40) := by
  obtain ⟨kk, nm, kids, nms, pl⟩ := e
  rcases kids with _ | ⟨f, _ | ⟨u, _ | ⟨w, r⟩⟩⟩ <;> simp only [Sp.elem, Bool.and_eq_true, Bool.false_eq_true] at he
  · obtain ⟨q, ks, e, h⟩ := face_first f he.2
    exact ⟨q, _, by show kFace f ++ _ = _; rw [e]; rfl, h⟩
  · obtain ⟨q, ks, e, h⟩ := face_first f he.1.2
    exact ⟨q, _, by show kFace f ++ _ = _; rw [e]; rfl, h⟩

theorem boxL_ok (k : Nat) (l : List D) (v a : Int) : ∀ (els : List T) (r : Nat) (i : Int) (kids : List D) (b : Bool), b = decide (kids.length = 0) → (∀ e ∈ els, Sp.elem e = true ∧ elR e) → Has l i (kBox b els ++ [sg 93]) →
    Ans (Sp.boxL (Sp.tbl k) r l i v kids a) fun u j => j = i + (kBox b els).length + 1 ∧ ∃ ds, u = ⟨10, [], kids ++ ds, [], a⟩ ∧ simL els ds
  | _, 0, _, _, _, _, _, _ => .inl .none
  | [], r + 1, i, kids, b, _, _, h => by
    have hup := tokIs_up h.1
    obtain ⟨⟨z, ht⟩, _⟩ := h
    have ht : Sp.tok l i = some (2, [93], z) := ht
    rw [Sp.boxL, ht, optT]
    refine .ok ⟨?_, [], by simp, rfl⟩
    rw [hup]
    show _ = i + ((0 : Nat) : Int) + 1
    omega
  | e :: els, r + 1, i, kids, b, hb, he, h => by
    obtain ⟨he1, he2⟩ := he e (List.mem_cons_self ..)
    obtain ⟨q0, ks0, eq0, hq0⟩ := el_first e he1
    have h : Has l i ((bif b then [] else [sg 44]) ++ (kEl e ++ (kBox false els ++ [sg 93]))) := by
      have ee : kBox b (e :: els) ++ [sg 93] = (bif b then [] else [sg 44]) ++ (kEl e ++ (kBox false els ++ [sg 93])) := by simp [kBox]
      rw [← ee]; exact h
    obtain ⟨h1, h2⟩ := has_two h
    -- the first token is no bracket's end
    have hne : ∃ p, Sp.tok l i = some p ∧ Sp.isS p [93] = false := by
      cases b
      · obtain ⟨z, hz⟩ := h1.1
        exact ⟨_, hz, rfl⟩
      · rw [cond_true, List.length_nil, Int.natCast_zero, Int.add_zero, eq0] at h2
        obtain ⟨z, hz⟩ := h2.1
        exact ⟨_, hz, isS_ne (by rcases hq0 with rfl | rfl <;> decide)⟩
    obtain ⟨p, hp, hpn⟩ := hne
    rw [Sp.boxL, hp, optT, hpn, cond_false]
    obtain ⟨j0, hj0⟩ : ∃ j0, j0 = i + ((bif b then ([] : List Kt) else [sg 44]).length : Int) := ⟨_, rfl⟩
    rw [← hj0] at h2
    have hcomma : ∀ (K : Int → Option PR) P, Ans (K j0) P → Ans (Sp.comma kids l i K) P := fun K P hK => by
      unfold Sp.comma
      cases b
      · have hlen : (0 : Int) < kids.length := by have := of_decide_eq_false hb.symm; omega
        rw [decide_eq_true hlen, cond_true]
        refine want_ok h1.1 ?_
        rw [hj0] at hK
        exact hK
      · have hlen : ¬ (0 : Int) < kids.length := by have := of_decide_eq_true hb.symm; omega
        rw [decide_eq_false hlen, cond_false]
        rw [hj0] at hK
        simpa using hK
    refine hcomma _ _ ?_
    obtain ⟨g1, g2⟩ := has_two h2
    have hq : ∃ z, Sp.tok l j0 = some (q0.1, q0.2, z) := by rw [eq0] at g1; exact g1.1
    obtain ⟨z, hz⟩ := hq
    rw [hz, optT]
    -- what follows the element
    have hnext : ∃ c js, kBox false els ++ [sg 93] = c :: js ∧ (c = sg 44 ∨ c = sg 93) := by
      cases els with
      | nil => exact ⟨_, _, rfl, .inr rfl⟩
      | cons e2 els => exact ⟨sg 44, _, rfl, .inl rfl⟩
    obtain ⟨c, js, ec, hc⟩ := hnext
    have hrec := fun (kid : D) => boxL_ok k l v a els r (j0 + (kEl e).length) (kids ++ [kid]) false (by simp) (fun x hx => he x (List.mem_cons_of_mem _ hx)) g2
    have elen : ((kBox b (e :: els)).length : Int) = ((bif b then ([] : List Kt) else [sg 44]).length : Int) + (kEl e).length + (kBox false els).length := by
      show (((bif b then ([] : List Kt) else [sg 44]) ++ kEl e ++ kBox false els).length : Int) = _
      simp only [List.length_append]; omega
    obtain ⟨kk, nm, ts, nms, pl⟩ := e
    rcases ts with _ | ⟨f, _ | ⟨u, _ | ⟨w, rr⟩⟩⟩ <;> simp only [Sp.elem, Bool.and_eq_true, Bool.false_eq_true] at he1
    · -- a face alone
      obtain ⟨⟨⟨hk, hn⟩, hm⟩, hf⟩ := he1
      have hk := of_decide_eq_true hk; subst hk
      have hn := of_decide_eq_true hn; subst hn
      have hm := of_decide_eq_true hm; subst hm
      have eel : kEl (.mk 11 [] [f] [] pl) = kFace f := by show kFace f ++ [] = _; rw [List.append_nil]
      rw [eel] at g1 g2 hrec elen
      rw [ec] at g2
      have hface : Has l j0 (kFace f ++ [c]) := (has_app _ _ _).2 ⟨g1, g2.1, trivial⟩
      refine (face_ok hf k l j0 c hface (by rcases hc with rfl | rfl <;> decide)).call fun uf j ⟨hj, hs⟩ => ?_
      subst hj
      obtain ⟨zc, hzc⟩ := g2.1
      rw [hzc, optT, isS_ne (q := c) (by rcases hc with rfl | rfl <;> decide), cond_false]
      cases Sp.short kids
      · exact .inl .none
      · rw [must, cond_true]
        refine (hrec (trD ⟨11, [], [trD uf], [], z⟩)).mono ?_
        rintro u' j ⟨rfl, ds, rfl, hd⟩
        refine ⟨by rw [elen, hj0]; omega, trD ⟨11, [], [trD uf], [], z⟩ :: ds, by simp, _, _, rfl, ⟨rfl, rfl, rfl, _, _, rfl, hs, rfl⟩, hd⟩
    · -- a face and a term
      obtain ⟨⟨⟨⟨hk, hn⟩, hm⟩, hf⟩, hu⟩ := he1
      have hk := of_decide_eq_true hk; subst hk
      have hn := of_decide_eq_true hn; subst hn
      have hm := of_decide_eq_true hm; subst hm
      have hR : termR u := he2
      have eel : kEl (.mk 11 [] [f, u] [] pl) = (kFace f ++ [(2, [45, 62])]) ++ kText u 0 := by
        show kFace f ++ ([(2, [45, 62])] ++ kText u 0) = _
        rw [List.append_assoc]
      rw [eel] at g1 g2 hrec elen
      rw [ec] at g2
      obtain ⟨f1, f2⟩ := has_two g1
      have f3 := (has_two f1).2.1
      have hupf := tokIs_up f3
      refine (face_ok hf k l j0 _ f1 (by decide)).call fun uf j ⟨hj, hs⟩ => ?_
      subst hj
      obtain ⟨zc, hzc⟩ := f3
      have hzc : Sp.tok l (j0 + (kFace f).length) = some (2, [45, 62], zc) := hzc
      rw [hzc, optT, isS_eq, decide_eq_true rfl, decide_eq_true rfl, Bool.and_self, cond_true, hupf]
      have e3 : j0 + ((kFace f ++ [(2, [45, 62])] : List Kt).length : Int) = j0 + (kFace f).length + 1 := by
        simp only [List.length_append, List.length_cons, List.length_nil]; omega
      rw [e3] at f2
      have e4 : j0 + ((kFace f ++ [(2, [45, 62])] ++ kText u 0 : List Kt).length : Int) = j0 + (kFace f).length + 1 + (kText u 0).length := by
        simp only [List.length_append, List.length_cons, List.length_nil]; omega
      rw [e4] at g2 hrec
      have hterm : Has l (j0 + (kFace f).length + 1) (kText u 0 ++ [c]) := (has_app _ _ _).2 ⟨f2, g2.1, trivial⟩
      refine (hR k l _ (up v) c hterm (by rcases hc with rfl | rfl <;> decide)).call fun ut j ⟨hj, hs2⟩ => ?_
      subst hj
      cases Sp.short kids
      · exact .inl .none
      · rw [must, cond_true]
        refine (hrec (trD ⟨11, [], [trD uf, trD ut], [], z⟩)).mono ?_
        rintro u' j ⟨rfl, ds, rfl, hd⟩
        refine ⟨?_, trD ⟨11, [], [trD uf, trD ut], [], z⟩ :: ds, by simp, _, _, rfl, ⟨rfl, rfl, rfl, _, _, rfl, hs, _, _, rfl, hs2, rfl⟩, hd⟩
        rw [elen, hj0]
        simp only [List.length_append, List.length_cons, List.length_nil]
        omega
theorem atom_box {els : List T} {pl : Int} (he : ∀ e ∈ els, Sp.elem e = true ∧ elR e) : atomR (.mk 10 [] els [] pl) := fun k l i v hh => by
  cases k with
  | zero => exact .inl .none
  | succ k =>
    have hh : Has l i ([sg 91] ++ (kBox true els ++ [sg 93])) := by
      have e : kText (.mk 10 [] els [] pl) 2 = [sg 91] ++ (kBox true els ++ [sg 93]) := by
        show [sg 91] ++ kBox true els ++ [sg 93] = _
        simp
      rw [← e]; exact hh
    obtain ⟨h1, h2⟩ := has_two hh
    have hup := tokIs_up h1.1
    obtain ⟨⟨a, ht⟩, _⟩ := h1
    have ht : Sp.tok l i = some (2, [91], a) := ht
    show Ans (Sp.atomG (Sp.tbl k) l i v) _
    rw [atomG_91 ht]
    cases k with
    | zero => exact .inl .none
    | succ k =>
      show Ans (Sp.boxG (Sp.tbl k) k l i v) _
      unfold Sp.boxG
      rw [ht, optT, hup]
      refine (boxL_ok k l v a els k (i + 1) [] true rfl he h2).mono ?_
      rintro u j ⟨rfl, ds, rfl, hs⟩
      refine ⟨?_, rfl, rfl, rfl, hs⟩
      show _ = i + (([sg 91] ++ kBox true els ++ [sg 93] : List Kt).length : Int)
      simp only [List.length_append, List.length_cons, List.length_nil]; omega
end atoms
end Go.Vai
end

section
namespace Go.Vai
open Go.Proofs

section steps
variable {g : Tb} {l : List D} {i v j a : Int} {r : Nat} {t : Tr} {q : Kt}
theorem termG_deep (hv : (200 : Int) < v) {p : Tk3} (ht : Sp.tok l i = some p) : Bad (Sp.termG g l i v) := by
  unfold Sp.termG
  rw [ht, optT, decide_eq_true hv, cond_true]
  exact .inr ⟨_, _, rfl⟩
theorem termG_92 (hv : ¬ (200 : Int) < v) (ht : Sp.tok l i = some (2, [92], a)) : Sp.termG g l i v = Sp.callN (g.names l (up i)) fun ns j => Sp.want l j [46] fun j => Sp.call (g.term l j (up v)) fun t j => some (.ok ⟨2, [], [trD t], ns, a⟩ j) := by
  unfold Sp.termG
  rw [ht, optT, decide_eq_false hv]
  rfl
theorem termG_60 (hv : ¬ (200 : Int) < v) (ht : Sp.tok l i = some (2, [60], a)) : Sp.termG g l i v = Sp.callN (g.names l (up i)) fun ns j => Sp.want l j [62] fun j => Sp.call (g.term l j (up v)) fun t j => some (.ok ⟨3, [], [trD t], ns, a⟩ j) := by
  unfold Sp.termG
  rw [ht, optT, decide_eq_false hv]
  rfl
theorem termG_start {k : Nat} (hv : ¬ (200 : Int) < v) {p : Tk3} (ht : Sp.tok l i = some p) (h1 : Sp.isS p [92] = false) (h2 : Sp.isS p [60] = false) : Sp.termG (Sp.tbl (k + 1)) l i v = startG (k + 1) k k l i v p.2.2 := by
  unfold Sp.termG startG
  rw [ht, optT, decide_eq_false hv, h1, h2]
  rfl
theorem termG_zero (hv : ¬ (200 : Int) < v) {p : Tk3} (ht : Sp.tok l i = some p) (h1 : Sp.isS p [92] = false) (h2 : Sp.isS p [60] = false) : Sp.termG (Sp.tbl 0) l i v = none := by
  unfold Sp.termG
  rw [ht, optT, decide_eq_false hv, h1, h2]
  simp only [cond_false]
  cases Sp.binds l i with
  | none => rfl
  | some b =>
    rw [optT]
    cases b
    · rfl
    · rw [cond_true]
      cases Sp.tok l (up i) with
      | none => rfl
      | some x => rfl
theorem afterG_stop (h : stopT q = true) (ht : Sp.tok l j = some (q.1, q.2, a)) : Sp.afterG g (r + 1) l j v t = some (.ok t j) := by
  unfold stopT at h
  simp only [Bool.and_eq_true, Bool.not_eq_true', decide_eq_false_iff_not] at h
  obtain ⟨⟨⟨⟨⟨h1, h2⟩, h3⟩, h4⟩, h5⟩, h6⟩ := h
  rw [Sp.afterG, ht, optT, isS_ne h2, isS_ne h3, isS_ne h4, decide_eq_false h1]
  unfold Sp.arr
  rw [isS_ne h5, isS_ne h6]
  rfl
theorem afterG_64 (ht : Sp.tok l j = some (2, [64], a)) : Sp.afterG g (r + 1) l j v t = Sp.call (g.dim l (up j) (up v)) fun u j => Sp.afterG g r l j v ⟨7, [], [trD t, trD u], [], t.pl⟩ := by
  rw [Sp.afterG, ht, optT]; rfl
theorem afterG_pi (ht : Sp.tok l j = some (2, [45, 62], a)) : Sp.afterG g (r + 1) l j v t = Sp.call (g.term l (up j) (up v)) fun u j => some (.ok ⟨4, [], [trD t, trD u], [], t.pl⟩ j) := by
  rw [Sp.afterG, ht, optT]; rfl
theorem afterG_sig (ht : Sp.tok l j = some (2, [42], a)) : Sp.afterG g (r + 1) l j v t = Sp.call (g.term l (up j) (up v)) fun u j => some (.ok ⟨5, [], [trD t, trD u], [], t.pl⟩ j) := by
  rw [Sp.afterG, ht, optT]; rfl
def startQ (q : Kt) : Prop := (q.1 = 1 ∧ q.2 ≠ [58]) ∨ q = sg 40 ∨ q = sg 91
theorem afterG_atom (h : startQ q) (ht : Sp.tok l j = some (q.1, q.2, a)) : Sp.afterG g (r + 1) l j v t = Sp.call (g.atom l j v) fun u j => Sp.afterG g r l j v ⟨6, [], [trD t, trD u], [], t.pl⟩ := by
  rcases h with ⟨h1, _⟩ | rfl | rfl
  · obtain ⟨k, s⟩ := q
    have h1 : k = 1 := h1
    subst h1
    rw [Sp.afterG, ht, optT]; rfl
  · have ht : Sp.tok l j = some (2, [40], a) := ht
    rw [Sp.afterG, ht, optT]; rfl
  · have ht : Sp.tok l j = some (2, [91], a) := ht
    rw [Sp.afterG, ht, optT]; rfl
theorem binds_no (h : TokIs l i q) (hq : q ≠ (2, [40])) : Sp.binds l i = some false := by
  obtain ⟨a, h⟩ := h
  unfold Sp.binds
  rw [h, optT, isS_ne hq, cond_false]
theorem binds_val {q3 : Kt} (h : TokIs l i (sg 40)) (h2 : TokIs l (i + 1) q) (h3 : TokIs l (i + 2) q3) : Sp.binds l i = some (decide (q.1 = 1) && decide (q3.2 = [58])) := by
  obtain ⟨a, h⟩ := h
  obtain ⟨b, h2⟩ := h2
  obtain ⟨c, h3⟩ := h3
  have h : Sp.tok l i = some (2, [40], a) := h
  unfold Sp.binds
  rw [h, optT, isS_eq, decide_eq_true rfl, decide_eq_true rfl, Bool.and_self, cond_true, h2, optT]
  by_cases h1 : q.1 = 1
  · rw [decide_eq_true h1, cond_true, h3, optT, Bool.true_and]
  · rw [decide_eq_false h1, cond_false, Bool.false_and]
end steps

theorem startQ_arr {q : Kt} (h : startQ q) : arrQ q = false := by
  rcases h with ⟨h1, _⟩ | rfl | rfl
  · obtain ⟨k, s⟩ := q
    have h1 : k = 1 := h1
    subst h1
    simp [arrQ]
  · rfl
  · rfl
theorem nm_not {s : List UInt8} (h : Sp.named s = true) : s ≠ [58] := by
  rintro rfl
  obtain ⟨b, t, e, hb, _⟩ := named_nm h
  cases e
  exact absurd hb (by decide)
theorem brk_first (l : List Kt) : ∃ ks, ([sg 40] ++ l ++ [sg 41] : List Kt) = sg 40 :: ks := ⟨l ++ [sg 41], by simp⟩
/-- A text's first token. -/
theorem first1 : ∀ x : T, Sp.right x = true → ∃ q ks, kText x 1 = q :: ks ∧ startQ q
  | .mk k nm [] nms pl, h => by
    simp only [Sp.right, Bool.and_eq_true, Bool.or_eq_true] at h
    obtain ⟨_, ⟨h1, h2⟩ | ⟨h1, h2⟩⟩ := h
    · have hk := of_decide_eq_true h1; subst hk; exact ⟨_, _, rfl, .inl ⟨rfl, nm_not h2⟩⟩
    · have hk := of_decide_eq_true h1; subst hk; exact ⟨_, _, rfl, .inr (.inr rfl)⟩
  | .mk k nm [a] nms pl, h => by
    simp only [Sp.right, Bool.and_eq_true, Bool.or_eq_true] at h
    obtain ⟨_, ⟨⟨⟨h1, h2⟩, h3⟩, h4⟩ | ⟨⟨h1, _⟩, h2⟩⟩ := h
    · rcases h1 with h1 | h1 <;> (have hk := of_decide_eq_true h1; subst hk; exact ⟨_, _, rfl, .inr (.inl rfl)⟩)
    · have hk := of_decide_eq_true h1; subst hk; exact ⟨_, _, rfl, .inr (.inr rfl)⟩
  | .mk k nm [a, b] nms pl, h => by
    simp only [Sp.right, Bool.and_eq_true, Bool.or_eq_true] at h
    obtain ⟨_, ((⟨⟨⟨⟨h1, h2⟩, h3⟩, h4⟩, h5⟩ | ⟨⟨⟨h1, h2⟩, h3⟩, h4⟩) | ⟨⟨⟨h1, h2⟩, h3⟩, h4⟩) | ⟨⟨⟨h1, h2⟩, h3⟩, h4⟩⟩ := h
    · rcases h1 with h1 | h1 <;> (have hk := of_decide_eq_true h1; subst hk; exact ⟨_, _, rfl, .inr (.inl rfl)⟩)
    · rcases h1 with (h1 | h1) | h1
      · have hk := of_decide_eq_true h1; subst hk
        obtain ⟨q, ks, e, hq⟩ := first1 a h3
        exact ⟨q, _, by show kText a 1 ++ [] ++ kText b 2 = _; rw [e]; rfl, hq⟩
      · have hk := of_decide_eq_true h1; subst hk; exact ⟨_, _, rfl, .inr (.inl rfl)⟩
      · have hk := of_decide_eq_true h1; subst hk; exact ⟨_, _, rfl, .inr (.inl rfl)⟩
    · have hk := of_decide_eq_true h1; subst hk
      obtain ⟨q, ks, e, hq⟩ := first1 a h3
      exact ⟨q, _, by show kText a 1 ++ [sg 64] ++ kFm b 2 = _; rw [e]; rfl, hq⟩
    · have hk := of_decide_eq_true h1; subst hk; exact ⟨_, _, rfl, .inr (.inr rfl)⟩
  | .mk k nm (a :: b :: c :: l) nms pl, h => by
    simp only [Sp.right, Bool.and_eq_true] at h
    have hk := of_decide_eq_true h.1.1.2; subst hk
    exact ⟨_, _, rfl, .inr (.inr rfl)⟩
theorem cls_three (k : Int) : Sp.cls k = 0 ∨ Sp.cls k = 1 ∨ Sp.cls k = 2 := by
  unfold Sp.cls
  cases (decide (k = 2) || decide (k = 3) || decide (k = 4) || decide (k = 5)) <;> cases (decide (k = 6) || decide (k = 7)) <;> simp
theorem first2 (x : T) (h : Sp.right x = true) : ∃ q ks, kText x 2 = q :: ks ∧ startQ q := by
  obtain ⟨q, ks, e, hq⟩ := first1 x h
  rcases cls_three x.k with hc | hc | hc
  · obtain ⟨js, ej⟩ := brk_first (kBare x)
    refine ⟨sg 40, js, ?_, .inr (.inl rfl)⟩
    unfold kText
    rw [hc]; exact ej
  · obtain ⟨js, ej⟩ := brk_first (kBare x)
    refine ⟨sg 40, js, ?_, .inr (.inl rfl)⟩
    unfold kText
    rw [hc]; exact ej
  · refine ⟨q, ks, ?_, hq⟩
    rw [← e]
    unfold kText
    rw [hc]; rfl

/-- Behind a bracket stands no name with a colon behind it, but where the tree is a name. -/
theorem no_bind : ∀ (x : T), Sp.right x = true → ∀ (c : Kt) (js : List Kt) (q2 q3 : Kt) (rest : List Kt), (x.k = 1 → c.2 ≠ [58]) → kBare x ++ c :: js = q2 :: q3 :: rest → q2.1 = 1 → q3.2 ≠ [58]
  | .mk k nm [] nms pl, h, c, js, q2, q3, rest, hc, e, h2 => by
    simp only [Sp.right, Bool.and_eq_true, Bool.or_eq_true] at h
    obtain ⟨_, ⟨h1, _⟩ | ⟨h1, _⟩⟩ := h
    · have hk := of_decide_eq_true h1; subst hk
      have e : nmK nm :: c :: js = q2 :: q3 :: rest := e
      cases e; exact hc rfl
    · have hk := of_decide_eq_true h1; subst hk
      have e : sg 91 :: sg 93 :: c :: js = q2 :: q3 :: rest := e
      cases e; exact absurd h2 (by decide)
  | .mk k nm [a] nms pl, h, c, js, q2, q3, rest, hc, e, h2 => by
    simp only [Sp.right, Bool.and_eq_true, Bool.or_eq_true] at h
    obtain ⟨_, ⟨⟨⟨h1, _⟩, _⟩, _⟩ | ⟨⟨h1, _⟩, _⟩⟩ := h
    · rcases h1 with h1 | h1
      · have hk := of_decide_eq_true h1; subst hk
        have e : (sg 92 :: (_ : List Kt)) = q2 :: q3 :: rest := e
        cases (List.cons.inj e).1; exact absurd h2 (by decide)
      · have hk := of_decide_eq_true h1; subst hk
        have e : (sg 60 :: (_ : List Kt)) = q2 :: q3 :: rest := e
        cases (List.cons.inj e).1; exact absurd h2 (by decide)
    · have hk := of_decide_eq_true h1; subst hk
      have e : (sg 91 :: (_ : List Kt)) = q2 :: q3 :: rest := e
      cases (List.cons.inj e).1; exact absurd h2 (by decide)
  | .mk k nm [a, b] nms pl, h, c, js, q2, q3, rest, hc, e, h2 => by
    have lev : ∀ (c' : Kt) (js' : List Kt), c'.2 ≠ [58] → Sp.right a = true → kText a 1 ++ c' :: js' = q2 :: q3 :: rest → q3.2 ≠ [58] := fun c' js' hc' ha e' => by
      unfold kText at e'
      cases hb : decide (Sp.cls a.k < 1) <;> rw [hb] at e'
      · exact no_bind a ha c' js' q2 q3 rest (fun _ => hc') e' h2
      · have e' : (sg 40 :: (_ : List Kt)) = q2 :: q3 :: rest := e'
        cases (List.cons.inj e').1; exact absurd h2 (by decide)
    simp only [Sp.right, Bool.and_eq_true, Bool.or_eq_true] at h
    obtain ⟨_, ((⟨⟨⟨⟨h1, _⟩, _⟩, h4⟩, _⟩ | ⟨⟨⟨h1, _⟩, h3⟩, h4⟩) | ⟨⟨⟨h1, _⟩, h3⟩, _⟩) | ⟨⟨⟨h1, _⟩, _⟩, _⟩⟩ := h
    · have pi : ∀ (ar : Kt), ar.2 ≠ [58] → ((bif decide (nms.length = 1) then [sg 40] ++ [nmK (Sp.at nms 0)] ++ [sg 58] ++ kText a 0 ++ [sg 41] else kBrk (Sp.annN [a, b]) (kText a 1)) ++ [ar] ++ kText b 0) ++ c :: js = q2 :: q3 :: rest → q3.2 ≠ [58] := fun ar har e => by
        cases hn : decide (nms.length = 1) <;> rw [hn] at e
        · cases hx : Sp.annN [a, b] <;> rw [hx] at e
          · refine lev ar (kText b 0 ++ c :: js) har h4 ?_
            rw [← e]; simp [kBrk]
          · have e : (sg 40 :: (_ : List Kt)) = q2 :: q3 :: rest := e
            cases (List.cons.inj e).1; exact absurd h2 (by decide)
        · have e : (sg 40 :: (_ : List Kt)) = q2 :: q3 :: rest := e
          cases (List.cons.inj e).1; exact absurd h2 (by decide)
      rcases h1 with h1 | h1
      · have hk := of_decide_eq_true h1; subst hk
        exact pi (2, [45, 62]) (by decide) e
      · have hk := of_decide_eq_true h1; subst hk
        exact pi (sg 42) (by decide) e
    · rcases h1 with (h1 | h1) | h1
      · have hk := of_decide_eq_true h1; subst hk
        obtain ⟨q, ks, eq, hq⟩ := first2 b h4
        have e : (kText a 1 ++ [] ++ kText b 2) ++ c :: js = q2 :: q3 :: rest := e
        refine lev q (ks ++ c :: js) ?_ h3 ?_
        · rcases hq with ⟨_, h⟩ | rfl | rfl
          · exact h
          · decide
          · decide
        · rw [← e, eq]; simp
      · have hk := of_decide_eq_true h1; subst hk
        have e : (sg 40 :: (_ : List Kt)) = q2 :: q3 :: rest := e
        cases (List.cons.inj e).1; exact absurd h2 (by decide)
      · have hk := of_decide_eq_true h1; subst hk
        have e : (sg 40 :: (_ : List Kt)) = q2 :: q3 :: rest := e
        cases (List.cons.inj e).1; exact absurd h2 (by decide)
    · have hk := of_decide_eq_true h1; subst hk
      have e : (kText a 1 ++ [sg 64] ++ kFm b 2) ++ c :: js = q2 :: q3 :: rest := e
      refine lev (sg 64) (kFm b 2 ++ c :: js) (by decide) h3 ?_
      rw [← e]; simp
    · have hk := of_decide_eq_true h1; subst hk
      have e : (sg 91 :: (_ : List Kt)) = q2 :: q3 :: rest := e
      cases (List.cons.inj e).1; exact absurd h2 (by decide)
  | .mk k nm (a :: b :: d :: l) nms pl, h, c, js, q2, q3, rest, hc, e, h2 => by
    simp only [Sp.right, Bool.and_eq_true] at h
    have hk := of_decide_eq_true h.1.1.2; subst hk
    have e : (sg 91 :: (_ : List Kt)) = q2 :: q3 :: rest := e
    cases (List.cons.inj e).1; exact absurd h2 (by decide)
end Go.Vai
end

section
namespace Go.Vai
open Go.Proofs

theorem cls_zero {k : Int} (h : Sp.cls k < 1) : k = 2 ∨ k = 3 ∨ k = 4 ∨ k = 5 := by
  unfold Sp.cls at h
  cases c : (decide (k = 2) || decide (k = 3) || decide (k = 4) || decide (k = 5)) <;> rw [c] at h
  · rw [cond_false] at h
    cases d : (decide (k = 6) || decide (k = 7)) <;> rw [d] at h
    · exact absurd h (by decide)
    · exact absurd h (by decide)
  · simp only [Bool.or_eq_true, decide_eq_true_eq] at c
    omega
theorem two_first (x : T) (h : Sp.right x = true) (c : Kt) (js : List Kt) : ∃ q2 q3 rest, kBare x ++ c :: js = q2 :: q3 :: rest := by
  have e : ∃ q ks, kBare x = q :: ks := by
    obtain ⟨q, ks, e, _⟩ := first1 x h
    unfold kText at e
    cases hb : decide (Sp.cls x.k < 1) <;> rw [hb] at e
    · exact ⟨q, ks, e⟩
    · obtain ⟨k, nm, kids, nms, pl⟩ := x
      have hk : k = 2 ∨ k = 3 ∨ k = 4 ∨ k = 5 := cls_zero (of_decide_eq_true hb)
      rcases hk with rfl | rfl | rfl | rfl
      · exact ⟨_, _, rfl⟩
      · exact ⟨_, _, rfl⟩
      · rcases kids with _ | ⟨a, _ | ⟨b, _ | ⟨c, l⟩⟩⟩ <;> simp [Sp.right] at h
        obtain ⟨qa, ka, ea, _⟩ := first1 a h.2.1.2
        show ∃ q ks, (bif decide (nms.length = 1) then [sg 40] ++ [nmK (Sp.at nms 0)] ++ [sg 58] ++ kText a 0 ++ [sg 41] else kBrk (Sp.annN [a, b]) (kText a 1)) ++ [(2, [45, 62])] ++ kText b 0 = q :: ks
        cases decide (nms.length = 1)
        · cases Sp.annN [a, b]
          · exact ⟨qa, _, by show kText a 1 ++ _ ++ _ = _; rw [ea]; rfl⟩
          · exact ⟨_, _, rfl⟩
        · exact ⟨_, _, rfl⟩
      · rcases kids with _ | ⟨a, _ | ⟨b, _ | ⟨c, l⟩⟩⟩ <;> simp [Sp.right] at h
        obtain ⟨qa, ka, ea, _⟩ := first1 a h.2.1.2
        show ∃ q ks, (bif decide (nms.length = 1) then [sg 40] ++ [nmK (Sp.at nms 0)] ++ [sg 58] ++ kText a 0 ++ [sg 41] else kBrk (Sp.annN [a, b]) (kText a 1)) ++ [sg 42] ++ kText b 0 = q :: ks
        cases decide (nms.length = 1)
        · cases Sp.annN [a, b]
          · exact ⟨qa, _, by show kText a 1 ++ _ ++ _ = _; rw [ea]; rfl⟩
          · exact ⟨_, _, rfl⟩
        · exact ⟨_, _, rfl⟩
  obtain ⟨q, ks, e⟩ := e
  rw [e]
  cases ks with
  | nil => exact ⟨q, c, js, rfl⟩
  | cons q3 ks => exact ⟨q, q3, ks ++ c :: js, rfl⟩

/-- Behind an opened bracket: no binder. -/
theorem paren_no {x : T} (h : Sp.right x = true) {c : Kt} {js : List Kt} (hc : x.k = 1 → c.2 ≠ [58]) {l : List D} {i : Int} (hh : Has l i (sg 40 :: (kBare x ++ c :: js))) : Sp.binds l i = some false := by
  obtain ⟨q2, q3, rest, e⟩ := two_first x h c js
  have hn := no_bind x h c js q2 q3 rest hc e
  rw [e] at hh
  obtain ⟨h1, h2, h3, _⟩ := hh
  rw [show i + 1 + 1 = i + 2 by omega] at h3
  rw [binds_val h1 h2 h3]
  by_cases hk : q2.1 = 1
  · rw [decide_eq_false (hn hk), Bool.and_false]
  · rw [decide_eq_false hk, Bool.false_and]

theorem start_no {t : T} (hA : atomR t) (e : kText t 1 = kText t 2) (hb : ∀ (l : List D) (i : Int) (q : Kt), Has l i (kText t 1 ++ [q]) → Sp.binds l i = some false) : startR t := fun m k r l i v a q hh _ _ => by
  unfold startG
  rw [hb l i q hh, optT, cond_false]
  have h1 := (has_two hh).1
  rw [e] at h1 ⊢
  rcases hA m l i v h1 with hb | ⟨u, j, e2, rfl, hs⟩
  · exact .inl hb.call
  · rw [e2, call_ok]; exact .inr ⟨r, u, rfl, hs⟩

/-- An Ann of a name: the binder's way. -/
theorem start_annN {x : List UInt8} {y : T} {pl pl' : Int} (hy : termR y) : startR (.mk 9 [] [.mk 1 x [] [] pl', y] [] pl) := fun m k r l i v a q hh hq _ => by
  have hq := hq rfl
  have hh : Has l i (([sg 40, nmK x, sg 58] ++ (kText y 0 ++ [sg 41])) ++ [q]) := by
    have e : kText (.mk 9 [] [.mk 1 x [] [] pl', y] [] pl) 1 = [sg 40, nmK x, sg 58] ++ (kText y 0 ++ [sg 41]) := by
      show [sg 40] ++ [nmK x] ++ [sg 58] ++ kText y 0 ++ [sg 41] = _
      simp
    rw [← e]; exact hh
  obtain ⟨h1, h9⟩ := has_two hh
  obtain ⟨h2, h3⟩ := has_two h1
  obtain ⟨g1, g2, g3, _⟩ := h2
  have g3' : TokIs l (i + 2) (sg 58) := by rw [show i + 2 = i + 1 + 1 by omega]; exact g3
  have u1 := tokIs_up g1
  have u2 := tokIs_up g2
  have u3 := tokIs_up g3
  unfold startG
  rw [binds_val g1 g2 g3', optT]
  show Lands (bif true then _ else _) _ _ _
  rw [cond_true, u1]
  obtain ⟨b, g2⟩ := g2
  have g2 : Sp.tok l (i + 1) = some (1, x, b) := g2
  rw [g2, optT, u2, u3]
  have e3 : i + (([sg 40, nmK x, sg 58] : List Kt).length : Int) = i + 1 + 1 + 1 := by simp only [List.length_cons, List.length_nil]; omega
  rw [e3] at h3
  rcases hy m l _ (up v) (sg 41) h3 rfl with hb | ⟨w, j, e, rfl, hw⟩
  · exact .inl hb.call
  · rw [e, call_ok]
    have h4 : TokIs l (i + 1 + 1 + 1 + (kText y 0).length) (2, [41]) := (has_two h3).2.1
    have u4 := tokIs_up h4
    obtain ⟨b4, h4⟩ := h4
    unfold Sp.want
    rw [h4, optT, isS_eq, decide_eq_true rfl, decide_eq_true rfl, Bool.and_self, cond_true, u4]
    have e9 : i + (([sg 40, nmK x, sg 58] ++ (kText y 0 ++ [sg 41]) : List Kt).length : Int) = i + 1 + 1 + 1 + (kText y 0).length + 1 := by
      simp only [List.length_append, List.length_cons, List.length_nil]; omega
    rw [e9] at h9
    obtain ⟨⟨b9, h9⟩, _⟩ := h9
    dsimp only
    rw [h9, optT]
    have ha : Sp.arr (q.1, q.2, b9) = 0 := by
      unfold arrQ at hq
      rw [Bool.or_eq_false_iff] at hq
      unfold Sp.arr
      rw [isS_ne (of_decide_eq_false hq.1), isS_ne (of_decide_eq_false hq.2)]
      rfl
    rw [ha]
    refine .inr ⟨r, ⟨9, [], [trD ⟨1, x, [], [], b⟩, trD w], [], a⟩, ?_, rfl, rfl, rfl, _, _, rfl, ⟨rfl, rfl, rfl, rfl⟩, _, _, rfl, hw, rfl⟩
    show Sp.afterG _ _ _ _ _ _ = Sp.afterG _ _ _ _ _ _
    congr 1
    show _ = i + (([sg 40] ++ [nmK x] ++ [sg 58] ++ kText y 0 ++ [sg 41] : List Kt).length : Int)
    simp only [List.length_append, List.length_cons, List.length_nil]; omega

/-- One more argument. -/
theorem start_app {f x : T} {pl : Int} (hf : startR f) (hx : atomR x) (hr : Sp.right x = true) : startR (.mk 6 [] [f, x] [] pl) := fun m k r l i v a q hh _ ha => by
  obtain ⟨q1, ks, e1, hq1⟩ := first2 x hr
  have hh : Has l i ((kText f 1 ++ kText x 2) ++ [q]) := by
    have e : kText (.mk 6 [] [f, x] [] pl) 1 = kText f 1 ++ kText x 2 := by
      show kText f 1 ++ [] ++ kText x 2 = _
      simp
    rw [← e]; exact hh
  obtain ⟨h1, _⟩ := has_two hh
  obtain ⟨h2, h3⟩ := has_two h1
  have h4 : TokIs l (i + (kText f 1).length) q1 := by rw [e1] at h3; exact h3.1
  have h5 : Has l i (kText f 1 ++ [q1]) := (has_app _ _ _).2 ⟨h2, h4, trivial⟩
  rcases hf m k r l i v a q1 h5 (fun _ => startQ_arr hq1) ha with hb | ⟨r', u, e, hs⟩
  · exact .inl hb
  · rw [e]
    dsimp only
    cases r' with
    | zero => exact .inl .none
    | succ r' =>
      obtain ⟨b, h4⟩ := h4
      rw [afterG_atom hq1 h4]
      rcases hx k l _ v h3 with hb | ⟨w, j, e, rfl, hw⟩
      · exact .inl hb.call
      · rw [e, call_ok]
        refine .inr ⟨r', ⟨6, [], [trD u, trD w], [], u.pl⟩, ?_, rfl, rfl, rfl, _, _, rfl, hs, _, _, rfl, hw, rfl⟩
        congr 1
        show _ = i + ((kText f 1 ++ [] ++ kText x 2 : List Kt).length : Int)
        simp only [List.length_append, List.length_nil]; omega
theorem start_at {f x : T} {pl : Int} (hf : startR f) (hx : dimR x) : startR (.mk 7 [] [f, x] [] pl) := fun m k r l i v a q hh _ ha => by
  have hh : Has l i ((kText f 1 ++ [sg 64] ++ kFm x 2) ++ [q]) := hh
  obtain ⟨h1, _⟩ := has_two hh
  obtain ⟨h2, h3⟩ := has_two h1
  have h4 : TokIs l (i + (kText f 1).length) (sg 64) := (has_two h2).2.1
  rcases hf m k r l i v a (sg 64) h2 (fun _ => rfl) ha with hb | ⟨r', u, e, hs⟩
  · exact .inl hb
  · rw [e]
    dsimp only
    cases r' with
    | zero => exact .inl .none
    | succ r' =>
      have hup := tokIs_up h4
      obtain ⟨b, h4⟩ := h4
      rw [afterG_64 h4, hup]
      have e3 : i + ((kText f 1 ++ [sg 64] : List Kt).length : Int) = i + (kText f 1).length + 1 := by
        simp only [List.length_append, List.length_cons, List.length_nil]; omega
      rw [e3] at h3
      rcases hx k l _ (up v) h3 with hb | ⟨w, j, e, rfl, hw⟩
      · exact .inl hb.call
      · rw [e, call_ok]
        refine .inr ⟨r', ⟨7, [], [trD u, trD w], [], u.pl⟩, ?_, rfl, rfl, rfl, _, _, rfl, hs, _, _, rfl, hw, rfl⟩
        congr 1
        show _ = i + ((kText f 1 ++ [sg 64] ++ kFm x 2 : List Kt).length : Int)
        simp only [List.length_append, List.length_cons, List.length_nil]; omega

/-- A term that is a spine. -/
theorem first_not {l : List D} {i : Int} {q : Kt} {ks : List Kt} {js : List Kt} (hq : startQ q) (h : Has l i (q :: ks ++ js)) : ∃ p, Sp.tok l i = some p ∧ Sp.isS p [92] = false ∧ Sp.isS p [60] = false := by
  obtain ⟨⟨a, ht⟩, _⟩ := h
  refine ⟨_, ht, ?_, ?_⟩
  · rcases hq with ⟨h1, _⟩ | rfl | rfl
    · rw [isS_eq, h1]; rfl
    · rfl
    · rfl
  · rcases hq with ⟨h1, _⟩ | rfl | rfl
    · rw [isS_eq, h1]; rfl
    · rfl
    · rfl
theorem term_start {t : T} (hr : Sp.right t = true) (h : startR t) (e : kText t 0 = kText t 1) : termR t := fun k l i v q hh hq => by
  cases k with
  | zero => exact .inl .none
  | succ k =>
    rw [e] at hh ⊢
    obtain ⟨q1, ks, e1, hq1⟩ := first1 t hr
    obtain ⟨p, hp, h1, h2⟩ := first_not hq1 (by rw [← e1]; exact hh)
    show Ans (Sp.termG (Sp.tbl k) l i v) _
    by_cases hv : (200 : Int) < v
    · exact .inl (termG_deep hv hp)
    · cases k with
      | zero => rw [termG_zero hv hp h1 h2]; exact .inl .none
      | succ k =>
        rw [termG_start hv hp h1 h2]
        have hq2 : arrQ q = false := by
          unfold stopT at hq
          simp only [Bool.and_eq_true, Bool.not_eq_true'] at hq
          unfold arrQ
          rw [hq.1.2, hq.2]; rfl
        rcases h (k + 1) k k l i v p.2.2 q hh (fun _ => hq2) ⟨p, hp, rfl⟩ with hb | ⟨r', u, e, hs⟩
        · exact .inl hb
        · rw [e]
          dsimp only
          cases r' with
          | zero => exact .inl .none
          | succ r' =>
            obtain ⟨⟨b, hb⟩, _⟩ := (has_two hh).2
            rw [afterG_stop hq hb]
            exact .ok ⟨rfl, hs⟩
end Go.Vai
end

section
namespace Go.Vai
open Go.Proofs

/-- An arrow, and what it makes. -/
def arrK (kk : Int) (ar : Kt) : Prop := (kk = 4 ∧ ar = (2, [45, 62])) ∨ (kk = 5 ∧ ar = sg 42)
theorem arrK_val {kk : Int} {ar : Kt} (h : arrK kk ar) (a : Int) : Sp.arr (ar.1, ar.2, a) = kk := by
  rcases h with ⟨rfl, rfl⟩ | ⟨rfl, rfl⟩ <;> rfl
theorem pi_tail {kk : Int} {ar q : Kt} {x y : T} {pl : Int} {o : Option PR} {k : Nat} {l : List D} {j v : Int} (hk : arrK kk ar) (h : Lands o (fun r j u => Sp.afterG (Sp.tbl k) r l j v u) j x) (h1 : TokIs l j ar) (h2 : Has l (j + 1) (kText y 0 ++ [q])) (hq : stopT q = true) (hy : termR y) :
    Ans o fun u j' => j' = j + 1 + (kText y 0).length ∧ simT (.mk kk [] [x, y] [] pl) u := by
  rcases h with hb | ⟨r, u, e, hs⟩
  · exact .inl hb
  · rw [e]
    dsimp only
    cases r with
    | zero => exact .inl .none
    | succ r =>
      have hup := tokIs_up h1
      obtain ⟨b, h1⟩ := h1
      rcases hk with ⟨rfl, rfl⟩ | ⟨rfl, rfl⟩
      · rw [afterG_pi h1, hup]
        exact (hy k l _ (up v) q h2 hq).call fun w j ⟨hj, hw⟩ => .ok ⟨hj, rfl, rfl, rfl, _, _, rfl, hs, _, _, rfl, hw, rfl⟩
      · rw [afterG_sig h1, hup]
        exact (hy k l _ (up v) q h2 hq).call fun w j ⟨hj, hw⟩ => .ok ⟨hj, rfl, rfl, rfl, _, _, rfl, hs, _, _, rfl, hw, rfl⟩

theorem pi_text {kk : Int} {ar : Kt} (hk : arrK kk ar) (x y : T) (nms : List (List UInt8)) (pl : Int) :
    kText (.mk kk [] [x, y] nms pl) 0 = (bif decide (nms.length = 1) then [sg 40] ++ [nmK (Sp.at nms 0)] ++ [sg 58] ++ kText x 0 ++ [sg 41] else kBrk (Sp.annN [x, y]) (kText x 1)) ++ [ar] ++ kText y 0 := by
  rcases hk with ⟨rfl, rfl⟩ | ⟨rfl, rfl⟩ <;> rfl

theorem pi_plain {kk : Int} {ar : Kt} (hk : arrK kk ar) {x y : T} {pl : Int} (hx : Sp.right x = true) (tx : termR x) (sx : startR x) (ty : termR y) : termR (.mk kk [] [x, y] [] pl) := fun k l i v q hh hq => by
  cases k with
  | zero => exact .inl .none
  | succ k =>
    rw [pi_text hk] at hh ⊢
    have hh : Has l i ((kBrk (Sp.annN [x, y]) (kText x 1) ++ [ar]) ++ (kText y 0 ++ [q])) := by
      have e : ((kBrk (Sp.annN [x, y]) (kText x 1) ++ [ar] ++ kText y 0) ++ [q]) = (kBrk (Sp.annN [x, y]) (kText x 1) ++ [ar]) ++ (kText y 0 ++ [q]) := by simp
      rw [← e]; exact hh
    obtain ⟨h1, h2⟩ := has_two hh
    obtain ⟨_, h3⟩ := has_two h1
    have h3 := h3.1
    show Ans (Sp.termG (Sp.tbl k) l i v) _
    have hfirst : ∃ q1 ks, kBrk (Sp.annN [x, y]) (kText x 1) = q1 :: ks ∧ startQ q1 := by
      cases Sp.annN [x, y]
      · exact first1 x hx
      · exact ⟨_, _, rfl, .inr (.inl rfl)⟩
    obtain ⟨q1, ks, e1, hq1⟩ := hfirst
    obtain ⟨p, hp, n1, n2⟩ := first_not hq1 (js := [ar]) (by rw [← e1]; exact h1)
    by_cases hv : (200 : Int) < v
    · exact .inl (termG_deep hv hp)
    · cases k with
      | zero => rw [termG_zero hv hp n1 n2]; exact .inl .none
      | succ k =>
        rw [termG_start hv hp n1 n2]
        have e2 : i + ((kBrk (Sp.annN [x, y]) (kText x 1) ++ [ar] : List Kt).length : Int) = i + (kBrk (Sp.annN [x, y]) (kText x 1)).length + 1 := by
          simp only [List.length_append, List.length_cons, List.length_nil]; omega
        rw [e2] at h2
        have hL : Lands (startG (k + 1) k k l i v p.2.2) (fun r j u => Sp.afterG (Sp.tbl k) r l j v u) (i + (kBrk (Sp.annN [x, y]) (kText x 1)).length) x := by
          cases hn : Sp.annN [x, y]
          · rw [hn] at h1
            refine sx (k + 1) k k l i v p.2.2 ar h1 (fun ha => ?_) ⟨p, hp, rfl⟩
            have : Sp.annN [x, y] = annT x := by
              obtain ⟨k1, n1, ts, ns, p1⟩ := x
              cases ts with
              | nil => rfl
              | cons t ts => cases t; rfl
            rw [this, ha] at hn; cases hn
          · rw [hn] at h1
            have hx9 : x.k = 9 ∧ kText x 1 = kText x 0 := by
              obtain ⟨k1, n1, ts, ns, p1⟩ := x
              cases ts with
              | nil => cases hn
              | cons t ts =>
                cases t
                have hn : (decide (k1 = 9) && decide (_ = (1 : Int))) = true := hn
                rw [Bool.and_eq_true] at hn
                have := of_decide_eq_true hn.1; subst this
                exact ⟨rfl, rfl⟩
            have hb : Has l i ([sg 40] ++ kText x 0 ++ [sg 41] ++ [ar]) := by rw [← hx9.2]; exact h1
            have hb2 : Sp.binds l i = some false := by
              refine paren_no (x := x) hx (c := sg 41) (js := [ar]) (fun _ => by decide) ?_
              rw [← kText0]
              have e : [sg 40] ++ kText x 0 ++ [sg 41] ++ [ar] = sg 40 :: (kText x 0 ++ sg 41 :: [ar]) := by simp
              rw [← e]; exact hb
            unfold startG
            rw [hb2, optT, cond_false]
            show Lands _ _ (i + (([sg 40] ++ kText x 1 ++ [sg 41] : List Kt).length : Int)) _
            rw [hx9.2]
            rcases atom_paren tx (k + 1) l i v (has_two hb).1 with hb | ⟨u, j, e2, rfl, hs⟩
            · exact .inl hb.call
            · rw [e2, call_ok]; exact .inr ⟨k, u, rfl, hs⟩
        refine (pi_tail (pl := pl) hk hL h3 h2 hq ty).mono ?_
        rintro u j ⟨rfl, hs⟩
        refine ⟨?_, hs⟩
        show _ = i + ((kBrk (Sp.annN [x, y]) (kText x 1) ++ [ar] ++ kText y 0 : List Kt).length : Int)
        simp only [List.length_append, List.length_cons, List.length_nil]; omega

theorem pi_named {kk : Int} {ar : Kt} (hk : arrK kk ar) {s : List UInt8} {x y : T} {pl : Int} (tx : termR x) (ty : termR y) : termR (.mk kk [] [x, y] [s] pl) := fun k l i v q hh hq => by
  cases k with
  | zero => exact .inl .none
  | succ k =>
    rw [pi_text hk] at hh ⊢
    have hh : Has l i (([sg 40, nmK s, sg 58] ++ (kText x 0 ++ [sg 41])) ++ ([ar] ++ (kText y 0 ++ [q]))) := by
      have e : (([sg 40] ++ [nmK s] ++ [sg 58] ++ kText x 0 ++ [sg 41]) ++ [ar] ++ kText y 0) ++ [q] = ([sg 40, nmK s, sg 58] ++ (kText x 0 ++ [sg 41])) ++ ([ar] ++ (kText y 0 ++ [q])) := by simp
      rw [← e]; exact hh
    obtain ⟨h1, h9⟩ := has_two hh
    obtain ⟨h2, h3⟩ := has_two h1
    obtain ⟨g1, g2, g3, _⟩ := h2
    have g3' : TokIs l (i + 2) (sg 58) := by rw [show i + 2 = i + 1 + 1 by omega]; exact g3
    have u1 := tokIs_up g1
    have u2 := tokIs_up g2
    have u3 := tokIs_up g3
    show Ans (Sp.termG (Sp.tbl k) l i v) _
    have hb := binds_val g1 g2 g3'
    obtain ⟨a, g1⟩ := g1
    have g1 : Sp.tok l i = some (2, [40], a) := g1
    by_cases hv : (200 : Int) < v
    · exact .inl (termG_deep hv g1)
    · cases k with
      | zero => rw [termG_zero hv g1 rfl rfl]; exact .inl .none
      | succ k =>
        rw [termG_start hv g1 rfl rfl]
        unfold startG
        rw [hb, optT]
        show Ans (bif true then _ else _) _
        rw [cond_true, u1]
        obtain ⟨b, g2⟩ := g2
        have g2 : Sp.tok l (i + 1) = some (1, s, b) := g2
        rw [g2, optT, u2, u3]
        have e3 : i + (([sg 40, nmK s, sg 58] : List Kt).length : Int) = i + 1 + 1 + 1 := by simp only [List.length_cons, List.length_nil]; omega
        rw [e3] at h3
        refine (tx (k + 1) l _ (up v) (sg 41) h3 rfl).call fun w j ⟨hj, hw⟩ => ?_
        subst hj
        refine want_ok (has_two h3).2.1 ?_
        have e9 : i + (([sg 40, nmK s, sg 58] ++ (kText x 0 ++ [sg 41]) : List Kt).length : Int) = i + 1 + 1 + 1 + (kText x 0).length + 1 := by
          simp only [List.length_append, List.length_cons, List.length_nil]; omega
        rw [e9] at h9
        obtain ⟨h9, h8⟩ := has_two h9
        have h9 := h9.1
        have u9 := tokIs_up h9
        obtain ⟨b9, h9⟩ := h9
        rw [h9, optT, arrK_val hk b9, u9]
        have hne : (!decide (kk = 0)) = true := by rcases hk with ⟨rfl, _⟩ | ⟨rfl, _⟩ <;> rfl
        rw [hne, cond_true]
        have e8 : i + 1 + 1 + 1 + ((kText x 0).length : Int) + 1 + (([ar] : List Kt).length : Int) = i + 1 + 1 + 1 + (kText x 0).length + 1 + 1 := by simp only [List.length_cons, List.length_nil]; omega
        rw [e8] at h8
        refine (ty (k + 1) l _ (up v) q h8 hq).call fun z j ⟨hj, hz⟩ => ?_
        subst hj
        refine .ok ⟨?_, rfl, rfl, rfl, _, _, rfl, hw, _, _, rfl, hz, rfl⟩
        show _ = i + ((([sg 40] ++ [nmK s] ++ [sg 58] ++ kText x 0 ++ [sg 41]) ++ [ar] ++ kText y 0 : List Kt).length : Int)
        simp only [List.length_append, List.length_cons, List.length_nil]; omega

theorem lam_ok {nms : List (List UInt8)} {x : T} {pl : Int} (hn : nms ≠ []) (tx : termR x) : termR (.mk 2 [] [x] nms pl) := fun k l i v q hh hq => by
  cases k with
  | zero => exact .inl .none
  | succ k =>
    have hh : Has l i ([sg 92] ++ ((kNames nms ++ [sg 46]) ++ (kText x 0 ++ [q]))) := by
      have e : kText (.mk 2 [] [x] nms pl) 0 ++ [q] = [sg 92] ++ ((kNames nms ++ [sg 46]) ++ (kText x 0 ++ [q])) := by
        show ([sg 92] ++ kNames nms ++ [sg 46] ++ kText x 0) ++ [q] = _
        simp
      rw [← e]; exact hh
    obtain ⟨h1, h2⟩ := has_two hh
    obtain ⟨h2, h3⟩ := has_two h2
    have u1 := tokIs_up h1.1
    obtain ⟨⟨a, h1⟩, _⟩ := h1
    have h1 : Sp.tok l i = some (2, [92], a) := h1
    show Ans (Sp.termG (Sp.tbl k) l i v) _
    by_cases hv : (200 : Int) < v
    · exact .inl (termG_deep hv h1)
    · rw [termG_92 hv h1, u1]
      have el : ((kNames nms).length : Int) = nms.length := by simp [kNames]
      refine callN_ok hn h2 (by decide) (want_ok (by rw [← el]; exact (has_two h2).2.1) ?_)
      have e3 : i + (([sg 92] : List Kt).length : Int) + ((kNames nms ++ [sg 46] : List Kt).length : Int) = i + 1 + nms.length + 1 := by
        simp only [List.length_append, List.length_cons, List.length_nil]; omega
      rw [e3] at h3
      refine (tx k l _ (up v) q h3 hq).call fun w j ⟨hj, hw⟩ => ?_
      subst hj
      refine .ok ⟨?_, rfl, rfl, rfl, _, _, rfl, hw, rfl⟩
      show _ = i + (([sg 92] ++ kNames nms ++ [sg 46] ++ kText x 0 : List Kt).length : Int)
      simp only [List.length_append, List.length_cons, List.length_nil]; omega
theorem plam_ok {nms : List (List UInt8)} {x : T} {pl : Int} (hn : nms ≠ []) (tx : termR x) : termR (.mk 3 [] [x] nms pl) := fun k l i v q hh hq => by
  cases k with
  | zero => exact .inl .none
  | succ k =>
    have hh : Has l i ([sg 60] ++ ((kNames nms ++ [sg 62]) ++ (kText x 0 ++ [q]))) := by
      have e : kText (.mk 3 [] [x] nms pl) 0 ++ [q] = [sg 60] ++ ((kNames nms ++ [sg 62]) ++ (kText x 0 ++ [q])) := by
        show ([sg 60] ++ kNames nms ++ [sg 62] ++ kText x 0) ++ [q] = _
        simp
      rw [← e]; exact hh
    obtain ⟨h1, h2⟩ := has_two hh
    obtain ⟨h2, h3⟩ := has_two h2
    have u1 := tokIs_up h1.1
    obtain ⟨⟨a, h1⟩, _⟩ := h1
    have h1 : Sp.tok l i = some (2, [60], a) := h1
    show Ans (Sp.termG (Sp.tbl k) l i v) _
    by_cases hv : (200 : Int) < v
    · exact .inl (termG_deep hv h1)
    · rw [termG_60 hv h1, u1]
      have el : ((kNames nms).length : Int) = nms.length := by simp [kNames]
      refine callN_ok hn h2 (by decide) (want_ok (by rw [← el]; exact (has_two h2).2.1) ?_)
      have e3 : i + (([sg 60] : List Kt).length : Int) + ((kNames nms ++ [sg 62] : List Kt).length : Int) = i + 1 + nms.length + 1 := by
        simp only [List.length_append, List.length_cons, List.length_nil]; omega
      rw [e3] at h3
      refine (tx k l _ (up v) q h3 hq).call fun w j ⟨hj, hw⟩ => ?_
      subst hj
      refine .ok ⟨?_, rfl, rfl, rfl, _, _, rfl, hw, rfl⟩
      show _ = i + (([sg 60] ++ kNames nms ++ [sg 62] ++ kText x 0 : List Kt).length : Int)
      simp only [List.length_append, List.length_cons, List.length_nil]; omega

def Backs (t : T) : Prop := termR t ∧ atomR t ∧ startR t
/-- Of what stands in brackets but as a term. -/
theorem good_brk {t : T} (hr : Sp.right t = true) (hk : t.k ≠ 1) (h : termR t) (e1 : kText t 1 = kText t 2) (e2 : kText t 2 = [sg 40] ++ kText t 0 ++ [sg 41]) : Backs t := by
  have hA := atom_brk h e2
  refine ⟨h, hA, start_no hA e1 fun l i q hh => ?_⟩
  rw [e1, e2] at hh
  refine paren_no (x := t) hr (c := sg 41) (js := [q]) (fun h => absurd h hk) ?_
  rw [← kText0]
  have e : [sg 40] ++ kText t 0 ++ [sg 41] ++ [q] = sg 40 :: (kText t 0 ++ sg 41 :: [q]) := by simp
  rw [← e]; exact hh
theorem good_box {els : List T} {pl : Int} (hr : Sp.right (.mk 10 [] els [] pl) = true) (he : ∀ e ∈ els, Sp.elem e = true ∧ elR e) : Backs (.mk 10 [] els [] pl) := by
  have hA := atom_box (pl := pl) he
  have hS := start_no hA rfl fun l i q hh => binds_no (q := sg 91) hh.1 (by decide)
  exact ⟨term_start hr hS rfl, hA, hS⟩

mutual
theorem good : ∀ t : T, Sp.right t = true → Backs t
  | .mk k nm [] nms pl, h => by
    have hr := h
    simp only [Sp.right, Bool.and_eq_true, Bool.or_eq_true] at h
    obtain ⟨hn, ⟨h1, h2⟩ | ⟨h1, h2⟩⟩ := h
    · have hk := of_decide_eq_true h1; subst hk
      have hn := of_decide_eq_true hn; subst hn
      have hS := start_no (t := .mk 1 nm [] [] pl) atom_name rfl fun l i q hh => binds_no (q := nmK nm) hh.1 (by simp [nmK])
      exact ⟨term_start hr hS rfl, atom_name, hS⟩
    · have hk := of_decide_eq_true h1; subst hk
      have hn := of_decide_eq_true hn; subst hn
      have hm := of_decide_eq_true h2; subst hm
      exact good_box hr (by simp)
  | .mk k nm [a] nms pl, h => by
    have hr := h
    simp only [Sp.right, Bool.and_eq_true, Bool.or_eq_true] at h
    obtain ⟨hm, ⟨⟨⟨h1, h2⟩, h3⟩, h4⟩ | ⟨⟨h1, hn⟩, h2⟩⟩ := h
    · have hm := of_decide_eq_true hm; subst hm
      have hne : nms ≠ [] := by
        rintro rfl; exact absurd h2 (by decide)
      have ga := good a h4
      rcases h1 with h1 | h1
      · have hk := of_decide_eq_true h1; subst hk
        exact good_brk hr (by simp [T.k]) (lam_ok hne ga.1) rfl rfl
      · have hk := of_decide_eq_true h1; subst hk
        exact good_brk hr (by simp [T.k]) (plam_ok hne ga.1) rfl rfl
    · have hk := of_decide_eq_true h1; subst hk
      have hm := of_decide_eq_true hm; subst hm
      have hn := of_decide_eq_true hn; subst hn
      have g := good_el a h2
      refine good_box hr fun e he => ?_
      obtain rfl : e = a := by simpa using he
      exact ⟨h2, g⟩
  | .mk k nm [a, b] nms pl, h => by
    have hr := h
    simp only [Sp.right, Bool.and_eq_true, Bool.or_eq_true] at h
    obtain ⟨hm, ((⟨⟨⟨⟨h1, h2⟩, h3⟩, h4⟩, h5⟩ | ⟨⟨⟨h1, h2⟩, h3⟩, h4⟩) | ⟨⟨⟨h1, h2⟩, h3⟩, h4⟩) | ⟨⟨⟨h1, h2⟩, h3⟩, h4⟩⟩ := h
    · have hm := of_decide_eq_true hm; subst hm
      have ga := good a h4
      have gb := good b h5
      have h2 := of_decide_eq_true h2
      have hT : ∀ (ar : Kt), arrK k ar → termR (.mk k [] [a, b] nms pl) := fun ar hk => by
        rcases nms with _ | ⟨x, _ | ⟨y, r⟩⟩
        · exact pi_plain hk h4 ga.1 ga.2.2 gb.1
        · exact pi_named hk ga.1 gb.1
        · exact absurd h2 (by simp only [List.length_cons]; omega)
      rcases h1 with h1 | h1
      · have hk := of_decide_eq_true h1; subst hk
        exact good_brk hr (by simp [T.k]) (hT (2, [45, 62]) (.inl ⟨rfl, rfl⟩)) rfl rfl
      · have hk := of_decide_eq_true h1; subst hk
        exact good_brk hr (by simp [T.k]) (hT (sg 42) (.inr ⟨rfl, rfl⟩)) rfl rfl
    · have hm := of_decide_eq_true hm; subst hm
      have hn := of_decide_eq_true h2; subst hn
      have ga := good a h3
      have gb := good b h4
      rcases h1 with (h1 | h1) | h1
      · have hk := of_decide_eq_true h1; subst hk
        have hS := start_app (pl := pl) ga.2.2 gb.2.1 h4
        have hT := term_start hr hS rfl
        exact ⟨hT, atom_brk hT rfl, hS⟩
      · have hk := of_decide_eq_true h1; subst hk
        have hA := atom_pair (pl := pl) ga.1 gb.1
        have hS := start_no hA rfl fun l i q hh => by
          refine paren_no (x := a) h3 (c := sg 44) (js := kText b 0 ++ [sg 41] ++ [q]) (fun _ => by decide) ?_
          rw [← kText0]
          have hh : Has l i (([sg 40] ++ kText a 0 ++ [sg 44] ++ kText b 0 ++ [sg 41]) ++ [q]) := hh
          have e : ([sg 40] ++ kText a 0 ++ [sg 44] ++ kText b 0 ++ [sg 41]) ++ [q] = sg 40 :: (kText a 0 ++ sg 44 :: (kText b 0 ++ [sg 41] ++ [q])) := by simp
          rw [← e]; exact hh
        exact ⟨term_start hr hS rfl, hA, hS⟩
      · have hk := of_decide_eq_true h1; subst hk
        have hA := atom_ann (pl := pl) ga.1 gb.1
        have hS : startR (.mk 9 [] [a, b] [] pl) := by
          by_cases ha : a.k = 1
          · obtain ⟨k1, n1, ts, ns, p1⟩ := a
            have ha : k1 = 1 := ha
            subst ha
            rcases ts with _ | ⟨t1, _ | ⟨t2, _ | ⟨t3, ts⟩⟩⟩ <;> simp [Sp.right] at h3
            obtain ⟨rfl, _⟩ := h3
            exact start_annN gb.1
          · refine start_no hA rfl fun l i q hh => ?_
            refine paren_no (x := a) h3 (c := sg 58) (js := kText b 0 ++ [sg 41] ++ [q]) (fun h => absurd h ha) ?_
            rw [← kText0]
            have hh : Has l i (([sg 40] ++ kText a 0 ++ [sg 58] ++ kText b 0 ++ [sg 41]) ++ [q]) := hh
            have e : ([sg 40] ++ kText a 0 ++ [sg 58] ++ kText b 0 ++ [sg 41]) ++ [q] = sg 40 :: (kText a 0 ++ sg 58 :: (kText b 0 ++ [sg 41] ++ [q])) := by simp
            rw [← e]; exact hh
        exact ⟨term_start hr hS rfl, hA, hS⟩
    · have hm := of_decide_eq_true hm; subst hm
      have hn := of_decide_eq_true h2; subst hn
      have hk := of_decide_eq_true h1; subst hk
      have hS := start_at (pl := pl) (good a h3).2.2 (form_ok b h4).1
      have hT := term_start hr hS rfl
      exact ⟨hT, atom_brk hT rfl, hS⟩
    · have hm := of_decide_eq_true hm; subst hm
      have hn := of_decide_eq_true h2; subst hn
      have hk := of_decide_eq_true h1; subst hk
      refine good_box hr fun e he => ?_
      have g1 := good_el a h3
      have g2 := good_el b h4
      simp only [List.mem_cons, List.not_mem_nil, or_false] at he
      rcases he with rfl | rfl
      · exact ⟨h3, g1⟩
      · exact ⟨h4, g2⟩
  | .mk k nm (a :: b :: c :: l) nms pl, h => by
    have hr := h
    simp only [Sp.right, Bool.and_eq_true] at h
    obtain ⟨⟨⟨hm, h1⟩, hn⟩, ⟨⟨h2, h3⟩, h4⟩, h5⟩ := h
    have hm := of_decide_eq_true hm; subst hm
    have hn := of_decide_eq_true hn; subst hn
    have hk := of_decide_eq_true h1; subst hk
    have g1 := good_el a h2
    have g2 := good_el b h3
    have g3 := good_el c h4
    have g4 := good_els l h5
    refine good_box hr fun e he => ?_
    simp only [List.mem_cons] at he
    rcases he with rfl | rfl | rfl | he
    · exact ⟨h2, g1⟩
    · exact ⟨h3, g2⟩
    · exact ⟨h4, g3⟩
    · exact g4 e he
theorem good_el : ∀ e : T, Sp.elem e = true → elR e
  | .mk k nm [] nms pl, h => by simp [Sp.elem] at h
  | .mk k nm [f] nms pl, h => trivial
  | .mk k nm [f, u] nms pl, h => by
    simp only [Sp.elem, Bool.and_eq_true] at h
    exact (good u h.2).1
  | .mk k nm (a :: b :: c :: l) nms pl, h => by simp [Sp.elem] at h
theorem good_els : ∀ l : List T, Sp.elems l = true → ∀ e ∈ l, Sp.elem e = true ∧ elR e
  | [], _ => fun e he => by cases he
  | t :: l, h => by
    rw [Sp.elems, Bool.and_eq_true] at h
    have g1 := good_el t h.1
    have g2 := good_els l h.2
    intro e he
    cases he with
    | head => exact ⟨h.1, g1⟩
    | tail _ he => exact g2 e he
end
end Go.Vai
end

section
namespace Go.Vai
open Go.Proofs

mutual
def Sp.same : T → T → Bool
  | .mk k nm kids nms _, u => decide (u.k = k) && decide (u.nm = nm) && decide (u.nms = nms) && Sp.sames kids u.kids
def Sp.sames : List T → List T → Bool
  | [], l => l.isEmpty
  | t :: ts, l => match l with | u :: us => Sp.same t u && Sp.sames ts us | [] => false
end
def dec12D : List V → Option (D × D) | [.d x, .d y, .d (.bool false)] => some (x, y) | _ => none
theorem dec12D_some {a : List V} {x y : D} (h : dec12D a = some (x, y)) : a = [.d x, .d y, .d (.bool false)] := by
  unfold dec12D at h
  split at h
  · cases h; rfl
  · cases h
noncomputable def Sp.sm (m : Nat) : D × D → Option Unit | (x, y) => optK (Sp.toT m x) fun t => optK (Sp.toC y) fun u => must (Sp.same t u) (some ())
noncomputable def KS (m : Nat) : CK R1 := pureK 12 dec12D (Sp.sm m) (fun _ => mkB true) (CK.plain none1)

theorem g12s (n m : Nat) (k : Int) (nm : List UInt8) (kids : List T) (nms : List (List UInt8)) (pl : Int) (k' : Int) (nm' : List UInt8) (kids' : List T) (nms' : List (List UInt8)) (pl' : Int) : evBody cx (KS m) n 12 [.d (.agg [.int .i64 k, .str nm, .sl 5 (T.ds kids), .sl 1 (nms.map .str), .int .i64 pl]), .d (.agg [.int .i64 k', .str nm', .sl 5 (T.ds kids'), .sl 1 (nms'.map .str), .int .i64 pl']), .d (.bool false)] [] = bif !decide (k = k') then some (Out.ret (V.d (D.bool false)), []) else bif !decide (nm = nm') then some (Out.ret (V.d (D.bool false)), []) else bif !decide ((↑(T.ds kids).length : Int) = (↑(T.ds kids').length : Int)) then some (Out.ret (V.d (D.bool false)), []) else bif !decide ((↑(List.map D.str nms).length : Int) = (↑(List.map D.str nms').length : Int)) then some (Out.ret (V.d (D.bool false)), []) else LP cx (KS m) n 12 0 4 n [(2, V.d (D.bool false)), (3, V.ptr 3 0), (4, V.ptr 4 0), (7, V.d (D.int IntKind.i64 (0 : Int)))] [(3, Ob.val 5 (V.d (D.agg [D.int IntKind.i64 k, D.str nm, D.sl 5 (T.ds kids), D.sl 1 (List.map D.str nms), D.int IntKind.i64 pl]))), (4, Ob.val 5 (V.d (D.agg [D.int IntKind.i64 k', D.str nm', D.sl 5 (T.ds kids'), D.sl 1 (List.map D.str nms'), D.int IntKind.i64 pl'])))] (AK cx (KS m) n 12 0 4 (EK cx 12 0)) := by kernel_rfl

theorem h12s (n m r : Nat) (k : Int) (nm : List UInt8) (kids : List T) (nms : List (List UInt8)) (pl : Int) (k' : Int) (nm' : List UInt8) (kids' : List T) (nms' : List (List UInt8)) (pl' i : Int) : LP cx (KS m) n 12 0 4 (r + 1) [(2, V.d (D.bool false)), (3, V.ptr 3 0), (4, V.ptr 4 0), (7, V.d (D.int IntKind.i64 i))] [(3, Ob.val 5 (V.d (D.agg [D.int IntKind.i64 k, D.str nm, D.sl 5 (T.ds kids), D.sl 1 (List.map D.str nms), D.int IntKind.i64 pl]))), (4, Ob.val 5 (V.d (D.agg [D.int IntKind.i64 k', D.str nm', D.sl 5 (T.ds kids'), D.sl 1 (List.map D.str nms'), D.int IntKind.i64 pl'])))] (AK cx (KS m) n 12 0 4 (EK cx 12 0)) = bif decide (i < (↑(List.map D.str nms).length : Int)) then must (decide (0 ≤ i) && decide (i < (↑(List.map D.str nms).length : Int))) (nthD (List.map D.str nms) i.toNat fun y => nthD y.cells 0 fun c => match c with
 | D.str s => must (decide (0 ≤ i) && decide (i < (↑(List.map D.str nms').length : Int))) (nthD (List.map D.str nms') i.toNat fun y => nthD y.cells 0 fun c => match c with
  | D.str s_1 => bif !decide (s = s_1) then some (Out.ret (V.d (D.bool false)), []) else LP cx (KS m) n 12 0 4 r [(2, V.d (D.bool false)), (3, V.ptr 3 0), (4, V.ptr 4 0), (7, V.d (D.int IntKind.i64 (IntKind.i64.wrap (i + (1 : Int)))))] [(3, Ob.val 5 (V.d (D.agg [D.int IntKind.i64 k, D.str nm, D.sl 5 (T.ds kids), D.sl 1 (List.map D.str nms), D.int IntKind.i64 pl]))), (4, Ob.val 5 (V.d (D.agg [D.int IntKind.i64 k', D.str nm', D.sl 5 (T.ds kids'), D.sl 1 (List.map D.str nms'), D.int IntKind.i64 pl'])))] (AK cx (KS m) n 12 0 4 (EK cx 12 0))
  | x => none)
 | x => none) else LP cx (KS m) n 12 0 9 n [(2, V.d (D.bool false)), (3, V.ptr 3 0), (4, V.ptr 4 0), (8, V.d (D.int IntKind.i64 (0 : Int)))] [(3, Ob.val 5 (V.d (D.agg [D.int IntKind.i64 k, D.str nm, D.sl 5 (T.ds kids), D.sl 1 (List.map D.str nms), D.int IntKind.i64 pl]))), (4, Ob.val 5 (V.d (D.agg [D.int IntKind.i64 k', D.str nm', D.sl 5 (T.ds kids'), D.sl 1 (List.map D.str nms'), D.int IntKind.i64 pl'])))] (AK cx (KS m) n 12 0 9 (EK cx 12 0)) := by kernel_rfl

theorem j12s (n m r : Nat) (k : Int) (nm : List UInt8) (kids : List T) (nms : List (List UInt8)) (pl : Int) (k' : Int) (nm' : List UInt8) (kids' : List T) (nms' : List (List UInt8)) (pl' i : Int) : LP cx (KS m) n 12 0 9 (r + 1) [(2, V.d (D.bool false)), (3, V.ptr 3 0), (4, V.ptr 4 0), (8, V.d (D.int IntKind.i64 i))] [(3, Ob.val 5 (V.d (D.agg [D.int IntKind.i64 k, D.str nm, D.sl 5 (T.ds kids), D.sl 1 (List.map D.str nms), D.int IntKind.i64 pl]))), (4, Ob.val 5 (V.d (D.agg [D.int IntKind.i64 k', D.str nm', D.sl 5 (T.ds kids'), D.sl 1 (List.map D.str nms'), D.int IntKind.i64 pl'])))] (AK cx (KS m) n 12 0 9 (EK cx 12 0)) = bif decide (i < (↑(T.ds kids).length : Int)) then must (decide (0 ≤ i) && decide (i < (↑(T.ds kids).length : Int))) (nthD (T.ds kids) i.toNat fun y => nthD y.cells 0 fun c => nthD y.cells 1 fun c_1 => nthD y.cells 2 fun c_2 => nthD y.cells 3 fun c_3 => nthD y.cells 4 fun c_4 => must (decide (0 ≤ i) && decide (i < (↑(T.ds kids').length : Int))) (nthD (T.ds kids') i.toNat fun y => nthD y.cells 0 fun c_5 => nthD y.cells 1 fun c_6 => nthD y.cells 2 fun c_7 => nthD y.cells 3 fun c_8 => nthD y.cells 4 fun c_9 => optK (Sp.sm m (D.agg [c, c_1, c_2, c_3, c_4], D.agg [c_5, c_6, c_7, c_8, c_9])) fun b => LP cx (KS m) n 12 0 9 r [(2, V.d (D.bool false)), (3, V.ptr 3 0), (4, V.ptr 4 0), (8, V.d (D.int IntKind.i64 (IntKind.i64.wrap (i + (1 : Int)))))] [(3, Ob.val 5 (V.d (D.agg [D.int IntKind.i64 k, D.str nm, D.sl 5 (T.ds kids), D.sl 1 (List.map D.str nms), D.int IntKind.i64 pl]))), (4, Ob.val 5 (V.d (D.agg [D.int IntKind.i64 k', D.str nm', D.sl 5 (T.ds kids'), D.sl 1 (List.map D.str nms'), D.int IntKind.i64 pl'])))] (AK cx (KS m) n 12 0 9 (EK cx 12 0)))) else some (Out.ret (V.d (D.bool true)), []) := by kernel_rfl

section
variable {n m : Nat} {k : Int} {nm : List UInt8} {kids : List T} {nms : List (List UInt8)} {pl : Int} {k' : Int} {nm' : List UInt8} {kids' : List T} {pl' : Int}
theorem nmsS (hl : nms.length < 4294967296) : ∀ (rest : List (List UInt8)) (j r : Nat), nms.drop j = rest → j ≤ nms.length → rest.length < r →
    LP cx (KS m) n 12 0 4 r [(2, V.d (D.bool false)), (3, V.ptr 3 0), (4, V.ptr 4 0), (7, V.d (D.int IntKind.i64 j))] [(3, Ob.val 5 (V.d (D.agg [D.int IntKind.i64 k, D.str nm, D.sl 5 (T.ds kids), D.sl 1 (List.map D.str nms), D.int IntKind.i64 pl]))), (4, Ob.val 5 (V.d (D.agg [D.int IntKind.i64 k', D.str nm', D.sl 5 (T.ds kids'), D.sl 1 (List.map D.str nms), D.int IntKind.i64 pl'])))] (AK cx (KS m) n 12 0 4 (EK cx 12 0)) =
    LP cx (KS m) n 12 0 9 n [(2, V.d (D.bool false)), (3, V.ptr 3 0), (4, V.ptr 4 0), (8, V.d (D.int IntKind.i64 (0 : Int)))] [(3, Ob.val 5 (V.d (D.agg [D.int IntKind.i64 k, D.str nm, D.sl 5 (T.ds kids), D.sl 1 (List.map D.str nms), D.int IntKind.i64 pl]))), (4, Ob.val 5 (V.d (D.agg [D.int IntKind.i64 k', D.str nm', D.sl 5 (T.ds kids'), D.sl 1 (List.map D.str nms), D.int IntKind.i64 pl'])))] (AK cx (KS m) n 12 0 9 (EK cx 12 0))
  | [], j, r, hd, hj, hk => by
    obtain ⟨r, rfl⟩ : ∃ i, r = i + 1 := ⟨r - 1, by omega⟩
    have : nms.length ≤ j := by simpa using hd
    obtain rfl : j = nms.length := by omega
    rw [h12s, List.length_map, ge_nat, cond_false]
  | s :: rest, j, r, hd, hj, hk => by
    obtain ⟨r, rfl⟩ : ∃ i, r = i + 1 := ⟨r - 1, by omega⟩
    obtain ⟨h1, h2, h3⟩ := at_drop hd
    have ih := nmsS hl rest (j + 1) r h3 h1 (by simp at hk; omega)
    rw [h12s, List.length_map, lt_nat h1, nn_nat, nthD_strs, Int.toNat_natCast, h2, optT, up_short h1 hl]
    simp only [cond_true, must, Bool.and_self, nthD_strs, h2]
    rw [← ih]
    show (bif !decide (s = s) then _ else _) = _
    rw [decide_eq_true rfl]
    rfl
theorem kidsS (hl : kids.length < 4294967296) (hlen : kids.length = kids'.length) (hT : ∀ t ∈ kids, Sp.toT m t.d = some t) (hC : ∀ t ∈ kids', Sp.toC t.d = some t) : ∀ (rest rest' : List T) (j r : Nat), kids.drop j = rest → kids'.drop j = rest' → j ≤ kids.length → rest.length < r → Sp.sames rest rest' = true →
    LP cx (KS m) n 12 0 9 r [(2, V.d (D.bool false)), (3, V.ptr 3 0), (4, V.ptr 4 0), (8, V.d (D.int IntKind.i64 j))] [(3, Ob.val 5 (V.d (D.agg [D.int IntKind.i64 k, D.str nm, D.sl 5 (T.ds kids), D.sl 1 (List.map D.str nms), D.int IntKind.i64 pl]))), (4, Ob.val 5 (V.d (D.agg [D.int IntKind.i64 k', D.str nm', D.sl 5 (T.ds kids'), D.sl 1 (List.map D.str nms), D.int IntKind.i64 pl'])))] (AK cx (KS m) n 12 0 9 (EK cx 12 0)) = some (.ret (mkB true), [])
  | [], rest', j, r, hd, hd', hj, hk, hs => by
    obtain ⟨r, rfl⟩ : ∃ i, r = i + 1 := ⟨r - 1, by omega⟩
    have : kids.length ≤ j := by simpa using hd
    obtain rfl : j = kids.length := by omega
    rw [j12s, ds_len, ge_nat, cond_false]
    rfl
  | t :: rest, rest', j, r, hd, hd', hj, hk, hs => by
    obtain ⟨r, rfl⟩ : ∃ i, r = i + 1 := ⟨r - 1, by omega⟩
    obtain ⟨h1, h2, h3⟩ := at_drop hd
    rcases rest' with _ | ⟨u, rest'⟩
    · simp [Sp.sames] at hs
    · obtain ⟨h1', h2', h3'⟩ := at_drop hd'
      rw [Sp.sames, Bool.and_eq_true] at hs
      have ih := kidsS hl hlen hT hC rest rest' (j + 1) r h3 h3' h1 (by simp at hk; omega) hs.2
      have e1 := hT t (List.mem_of_getElem? h2)
      have e2 := hC u (List.mem_of_getElem? h2')
      rw [j12s, ds_len, ds_len, lt_nat h1, lt_nat h1', nn_nat, nthD_ds, Int.toNat_natCast, h2, up_short h1 hl]
      simp only [cond_true, must, optT, Bool.and_self, cells_d, nth0, nth1, nth2, nth3, nth4, nthD_ds, h2', agg_d, Sp.sm, e1, e2, hs.1]
      exact ih
end
theorem limS : ∀ (m : Nat) (t u : T), t.depth ≤ m → t.ok = true → u.ok = true → Sp.same t u = true → evLim cx 12 [.d t.d, .d u.d, .d (.bool false)] [] = some (.ret (mkB true), [])
  | 0, .mk .., _, h, _, _, _ => by simp [T.depth] at h
  | m + 1, .mk k nm kids nms pl, .mk k' nm' kids' nms' pl', hd, ho, ho', hs => by
    obtain ⟨o1, o2, o3, o4, o5⟩ := ok_inv ho
    obtain ⟨p1, p2, p3, p4, p5⟩ := ok_inv ho'
    have hK : knows cx (KS m).S (evLim cx) := pureK_knows none1K_knows fun a q b _ hdec hsp => by
      obtain ⟨x, y⟩ := q
      obtain rfl := dec12D_some hdec
      obtain ⟨t, ht, hsp⟩ := optK_some hsp
      obtain ⟨u, hu, hsp⟩ := optK_some hsp
      obtain ⟨h1, _⟩ := must_some hsp
      obtain ⟨rfl, h2, h3⟩ := toT_some ht
      obtain ⟨rfl, h4⟩ := toC_some hu
      exact limS m t u h2 h3 h4 h1
    simp only [Sp.same, T.k, T.nm, T.nms, T.kids, Bool.and_eq_true] at hs
    obtain ⟨⟨⟨a1, a2⟩, a3⟩, hs⟩ := hs
    have a1 := of_decide_eq_true a1
    have a2 := of_decide_eq_true a2
    have a3 := of_decide_eq_true a3
    subst a1; subst a2; subst a3
    have slen : ∀ (a b : List T), Sp.sames a b = true → a.length = b.length := by
      intro a
      induction a with
      | nil => intro b h; cases b <;> simp_all [Sp.sames]
      | cons x a ih =>
        intro b h
        cases b with
        | nil => simp [Sp.sames] at h
        | cons y b => rw [Sp.sames, Bool.and_eq_true] at h; simp [ih b h.2]
    have hlen := slen _ _ hs
    refine lim_bodyK hK (N := kids.length + nms'.length + 1) ?_
    refine (g12s (kids.length + nms'.length + 1) m k' nm' kids nms' pl k' nm' kids' nms' pl').trans ?_
    rw [decide_eq_true rfl, decide_eq_true rfl, ds_len, ds_len, decide_eq_true (p := (kids.length : Int) = (kids'.length : Int)) (by omega), decide_eq_true rfl]
    simp only [Bool.not_true, cond_false]
    refine (nmsS (shrt_lt o3) nms' 0 _ rfl (Nat.zero_le _) (by omega)).trans ?_
    exact kidsS (shrt_lt o2) hlen (fun t h => kid_toT (depth_inv hd) o5 h) (fun t h => kid_toC p5 h) kids kids' 0 _ rfl rfl (Nat.zero_le _) (by omega) hs
end Go.Vai
end

section
namespace Go.Vai
open Go.Proofs

theorem er_snoc {I : List D} {ks : List Kt} {a : Int} (h : Er I ks) : Er (I ++ [tokD 0 [] a]) (ks ++ [(0, [])]) := by
  induction h with
  | nil => exact .tok .nil
  | tok _ ih => exact .tok ih
theorem er_has {I : List D} {ks : List Kt} (h : Er I ks) : ∀ (P S : List D), (P ++ (I ++ S)).length < 4294967296 → Has (P ++ (I ++ S)) (P.length : Int) ks := by
  induction h with
  | nil => intro P S _; trivial
  | @tok k t a I ks h ih =>
    intro P S hl
    refine ⟨⟨a, tok_of_get ?_ (by simp only [List.length_append, List.length_cons] at hl; omega)⟩, ?_⟩
    · rw [List.getElem?_append_right (Nat.le_refl _), Nat.sub_self]; rfl
    · have e : P ++ (tokD k t a :: I ++ S) = (P ++ [tokD k t a]) ++ (I ++ S) := by simp
      have h2 := ih (P ++ [tokD k t a]) S (by rw [← e]; exact hl)
      rw [← e] at h2
      have el : ((P ++ [tokD k t a]).length : Int) = (P.length : Int) + 1 := by simp
      rw [el] at h2
      exact h2

mutual
theorem sim_T : ∀ (t : T) (u : Tr), simT t u → t.ok = true → ∃ t' : T, trD u = t'.d ∧ Sp.same t t' = true ∧ t'.ok = true
  | .mk k nm kids nms pl, u, h, ho => by
    obtain ⟨o1, o2, o3, o4, o5⟩ := ok_inv ho
    obtain ⟨h1, h2, h3, h4⟩ := h
    obtain ⟨ts, e, hs, hok, hl⟩ := sim_L kids u.kids h4 o5
    obtain ⟨k', nm', kids', nms', pl'⟩ := u
    simp only at h1 h2 h3 e
    subst h1; subst h2; subst h3; subst e
    refine ⟨.mk k' nm' ts nms pl', rfl, ?_, ?_⟩
    · simp [Sp.same, T.k, T.nm, T.nms, T.kids, hs]
    · have o2' : shrt ts = true := by
        unfold shrt at o2 ⊢
        rw [← hl]; exact o2
      simp only [T.ok, o1, o2', o3, o4, hok]; rfl
theorem sim_L : ∀ (ts : List T) (l : List D), simL ts l → T.oks ts = true → ∃ ts' : List T, l = T.ds ts' ∧ Sp.sames ts ts' = true ∧ T.oks ts' = true ∧ ts.length = ts'.length
  | [], l, h, _ => by cases h; exact ⟨[], rfl, rfl, rfl, rfl⟩
  | t :: ts, l, h, ho => by
    obtain ⟨u, r, rfl, h1, h2⟩ := h
    have ho1 := oks_mem ho (List.mem_cons_self ..)
    have ho2 : T.oks ts = true := by
      simp only [T.oks, Bool.and_eq_true] at ho
      exact ho.2
    obtain ⟨t', e, s1, k1⟩ := sim_T t u h1 ho1
    obtain ⟨ts', e2, s2, k2, k3⟩ := sim_L ts r h2 ho2
    refine ⟨t' :: ts', by rw [e, e2]; rfl, by rw [Sp.sames, s1, s2]; rfl, by simp only [T.oks, k1, k2]; rfl, by simp [k3]⟩
end

/-- What is shown is read again, or it is too deep. -/
theorem read_back {K : Nat} (hK : 600000 ≤ K) {t : T} (hr : Sp.right t = true) (hlen : (Sp.text t 0).length ≤ 65536) : (∃ a, Sp.termOf K (Sp.text t 0) = some (.bad a 62)) ∨ ∃ u, Sp.termOf K (Sp.text t 0) = some (.ok u) ∧ simT t u := by
  have hx : Lex (Sp.text t 0) (kText t 0) := by
    have := l_text (l_bare t hr) 0 [] [] (fun c h => by cases h) .nil
    simpa using this
  obtain ⟨I, hs, he⟩ := lex_scan hx hlen
  rcases text_or (Sp.text t 0) with ⟨I', hT⟩ | ⟨h, _⟩
  · have e : I' = I := by
      have := hT.scan
      rw [hs] at this
      exact (List.append_cancel_right (Prod.mk.inj this).1).symm
    subst e
    have hE : Sp.scE (Sp.text t 0) = 0 := by unfold Sp.scE; rw [hs]
    have hL : Sp.scL (Sp.text t 0) = I' ++ [tokD 0 [] ((Sp.text t 0).length : Int)] := by unfold Sp.scL; rw [hs]
    have hsm := hT.toks.small
    have hh := er_has (er_snoc (a := ((Sp.text t 0).length : Int)) he) [] [tokD 0 [] ((Sp.text t 0).length : Int), tokD 0 [] ((Sp.text t 0).length : Int)] (by simp; omega)
    have hh : Has (Sp.ext (I' ++ [tokD 0 [] ((Sp.text t 0).length : Int)])) 0 (kText t 0 ++ [(0, [])]) := by rw [ext_snoc]; exact hh
    have hend := (has_two hh).2.1
    have hres := (good t hr).1 K _ 0 1 (0, []) hh rfl
    have hne := term_of hT hK
    have eT : Sp.termOf K (Sp.text t 0) = optK (Sp.term K (Sp.ext (I' ++ [tokD 0 [] ((Sp.text t 0).length : Int)])) 0 1) fun p =>
      bif Sp.okQ p then optK (Sp.tok (Sp.ext (I' ++ [tokD 0 [] ((Sp.text t 0).length : Int)])) (Sp.nxt p)) fun q => bif decide (q.1 = 0) then some (.ok (Sp.trOf p)) else some (.bad q.2.2 61)
      else some (.bad (Sp.bAt p) (Sp.bE p)) := by
      unfold Sp.termOf
      rw [hE, decide_eq_true rfl, cond_true, hL]
    change Ans (Sp.term K _ 0 1) _ at hres
    rcases hres with (h | ⟨a, j, h⟩) | ⟨u, j, h, rfl, hsim⟩
    · rw [eT, h] at hne
      rcases hne with ⟨_, _, h, _⟩ | ⟨_, _, h, _⟩ <;> cases h
    · rw [h, optT] at eT
      exact .inl ⟨a, eT⟩
    · rw [h, optT] at eT
      obtain ⟨z, hz⟩ := hend
      refine .inr ⟨u, ?_, hsim⟩
      rw [eT]
      simp only [Sp.okQ, cond_true, Sp.nxt, hz, optT, Sp.trOf, decide_true]
  · exact absurd (by unfold Sp.scE; rw [hs]) h
end Go.Vai
end

section
namespace Go.Vai
open Go.Proofs

def Sp.shown (t : T) : List UInt8 × Int := bif Sp.right t then (Sp.text t 0, 0) else ([], 61)
def Sp.fitT (t : T) : Bool := t.ok && decide (12 * Sp.bulk t ≤ 65536)
noncomputable def spShow (x : D) : Option (List UInt8 × Int) := optK (Sp.toC x) fun t => must (Sp.fitT t) (some (Sp.shown t))
/-- What a text is, as a term: a tree, a place, what is wrong. -/
def Sp.readT (k : Nat) (s : List UInt8) : Option (Tr × Int × Int) := must (decide (s.length ≤ big)) (match Sp.termOf k s with | some (.ok t) => some (t, 0, 0) | some (.bad a e) => must (!decide (e = 0)) (some (⟨0, [], [], [], 0⟩, a, e)) | none => none)
def mkR (q : Tr × Int × Int) : V := .tup [.d (.agg [.int .i64 q.1.k, .str q.1.nm, .sl 5 q.1.kids, .sl 1 q.1.nms, .int .i64 q.1.pl]), .d (.int .i64 q.2.1), .d (.int .i64 q.2.2)]
noncomputable def Sp.smC : D × D → Option Unit | (x, y) => optK (Sp.toC x) fun t => optK (Sp.toC y) fun u => must (Sp.same t u) (some ())
noncomputable def K7 (k : Nat) : CK R1 := pureK 20 decD spShow mkE (pureK 12 dec12D Sp.smC (fun _ => mkB true) (pureK 10 decStr (Sp.readT k) mkR (pureK 17 (fun a => match a with | [] => some () | _ => none) some (fun _ => mkB true) (pureK 16 decD Sp.tsC (fun l => mkB (Sp.great l)) (CK.plain none1)))))

theorem lim10r (k : Nat) (s : List UInt8) (q : Tr × Int × Int) (h : Sp.readT k s = some q) : evLim cx 10 [.d (.str s)] [] = some (.ret (mkR q), []) := by
  unfold Sp.readT at h
  obtain ⟨hs, h⟩ := must_some h
  split at h
  · rename_i t ht
    cases h
    exact lim10 k s (of_decide_eq_true hs) _ ht trivial
  · rename_i a e ht
    obtain ⟨he, h⟩ := must_some h
    cases h
    exact lim10 k s (of_decide_eq_true hs) _ ht (show e ≠ 0 by simpa using he)
  · cases h
theorem K7_knows (k : Nat) : knows cx (K7 k).S (evLim cx) := by
  have h16 := pureK_knows (f := 16) (dec := decD) (sp := Sp.tsC) (mk := fun l => mkB (Sp.great l)) none1K_knows fun a q b hd h hb => by
    obtain rfl := decD_some h
    obtain ⟨rfl, h1, h2⟩ := tsC_some hb
    exact limGreat b h1 h2
  have h17 := pureK_knows (f := 17) (dec := fun a => match a with | [] => some () | _ => none) (sp := some) (mk := fun _ => mkB true) h16 fun a q b hd h hb => by
    split at h
    · exact limWorks
    · cases h
  have h10 := pureK_knows (f := 10) (dec := decStr) (sp := Sp.readT k) (mk := mkR) h17 fun a q b hd h hb => by
    obtain rfl := decStr_some h
    exact lim10r k q b hb
  have h12 := pureK_knows (f := 12) (dec := dec12D) (sp := Sp.smC) (mk := fun _ => mkB true) h10 fun a q b hd h hb => by
    obtain ⟨x, y⟩ := q
    obtain rfl := dec12D_some h
    obtain ⟨t, ht, hx⟩ := optK_some hb
    obtain ⟨u, hu, hy⟩ := optK_some hx
    obtain ⟨h1, _⟩ := must_some hy
    obtain ⟨rfl, h3⟩ := toC_some ht
    obtain ⟨rfl, h4⟩ := toC_some hu
    exact limS t.depth t u (Nat.le_refl _) h3 h4 h1
  exact pureK_knows (f := 20) (dec := decD) (sp := spShow) (mk := mkE) h12 fun a q b hd h hb => by
    obtain rfl := decD_some h
    obtain ⟨t, ht, hx⟩ := optK_some hb
    obtain ⟨h1, hy⟩ := must_some hx
    obtain ⟨rfl, h3⟩ := toC_some ht
    cases hy
    unfold Sp.fitT at h1
    rw [Bool.and_eq_true] at h1
    exact lim20 t h3 (of_decide_eq_true h1.2)

theorem g7 (n m : Nat) (k : Int) (nm : List UInt8) (kids : List T) (nms : List (List UInt8)) (pl : Int) : evBody cx (K7 m) n 7 [.d (.agg [.int .i64 k, .str nm, .sl 5 (T.ds kids), .sl 1 (nms.map .str), .int .i64 pl])] [] = optK (Sp.tsC (D.sl 5 [D.agg [D.int IntKind.i64 k, D.str nm, D.sl 5 (T.ds kids), D.sl 1 (List.map D.str nms), D.int IntKind.i64 pl]])) fun b => bif Sp.great b then some (Out.ret (V.d (D.bool true)), []) else optK (optK (Sp.toC (D.agg [D.int IntKind.i64 k, D.str nm, D.sl 5 (T.ds kids), D.sl 1 (List.map D.str nms), D.int IntKind.i64 pl])) fun t => must (Sp.fitT t) (some (Sp.shown t))) fun b => bif !decide (b.snd = (0 : Int)) then bif decide (b.1 = []) then bif decide (b.snd = (61 : Int)) then some (Out.ret (V.d (D.bool true)), []) else some (Out.ret (V.d (D.bool (decide (b.snd = (3 : Int))))), []) else some (Out.ret (V.d (D.bool false)), []) else must (decide (b.1.length ≤ big)) (optK (Sp.readT m b.1) fun b => bif decide (b.snd.snd = (62 : Int)) then some (Out.ret (V.d (D.bool true)), []) else bif decide (b.snd.snd = (0 : Int)) then optK (Sp.smC (D.agg [D.int IntKind.i64 k, D.str nm, D.sl 5 (T.ds kids), D.sl 1 (List.map D.str nms), D.int IntKind.i64 pl], D.agg [D.int IntKind.i64 b.fst.k, D.str b.fst.2, D.sl 5 b.fst.3, D.sl 1 b.fst.4, D.int IntKind.i64 b.fst.pl])) fun b => some (Out.ret (V.d (D.bool true)), []) else some (Out.ret (V.d (D.bool false)), [])) := by kernel_rfl

theorem pure_showBack (t : T) (ho : t.ok = true) : evLim cx 7 [.d t.d] [] = some (.ret (mkB true), []) := by
  obtain ⟨m, hm⟩ : ∃ m, 600000 ≤ m := ⟨600000, Nat.le_refl _⟩
  have hC := toC_d ho
  have hts : Sp.tsC (D.sl 5 [t.d]) = some [t] := ts_of (m := [t]) (fun u hu => by
    obtain rfl : u = t := by simpa using hu
    exact hC) rfl
  have key : ∀ x : D, x = t.d → (optK (Sp.tsC (D.sl 5 [x])) fun b =>
      bif Sp.great b then some (Out.ret (V.d (D.bool true)), ([] : St))
      else optK (optK (Sp.toC x) fun t => must (Sp.fitT t) (some (Sp.shown t))) fun b =>
        bif !decide (b.snd = (0 : Int)) then
          bif decide (b.1 = []) then
            bif decide (b.snd = (61 : Int)) then some (Out.ret (V.d (D.bool true)), [])
            else some (Out.ret (V.d (D.bool (decide (b.snd = (3 : Int))))), [])
          else some (Out.ret (V.d (D.bool false)), [])
        else must (decide (b.1.length ≤ big)) (optK (Sp.readT m b.1) fun b =>
              bif decide (b.snd.snd = (62 : Int)) then some (Out.ret (V.d (D.bool true)), [])
              else bif decide (b.snd.snd = (0 : Int)) then
                  optK (Sp.smC (x, trD b.fst)) fun b => some (Out.ret (V.d (D.bool true)), [])
                else some (Out.ret (V.d (D.bool false)), []))) = some (.ret (mkB true), []) := by
    rintro x rfl
    rw [hts, hC]
    simp only [optS]
    cases hg : Sp.great [t]
    · have hb := great_not hg
      simp only [Sp.bulks] at hb
      have hf : Sp.fitT t = true := by
        unfold Sp.fitT
        rw [ho, decide_eq_true (by omega)]; rfl
      rw [hf]
      simp only [must, cond_true, cond_false, optS]
      unfold Sp.shown
      cases hr : Sp.right t
      · rfl
      · have hlen := text_len t 0
        have hl : (Sp.text t 0).length ≤ 65536 := by omega
        have hbg : decide ((Sp.text t 0).length ≤ big) = true := decide_eq_true (by unfold big; omega)
        simp only [cond_true, cond_false, decide_true, Bool.not_true, hbg]
        rcases read_back hm hr hl with ⟨a, h⟩ | ⟨u, h, hs⟩
        · have e : Sp.readT m (Sp.text t 0) = some (⟨0, [], [], [], 0⟩, a, 62) := by
            unfold Sp.readT
            rw [h, hbg]; rfl
          rw [e]
          simp only [optS]
          rfl
        · have e : Sp.readT m (Sp.text t 0) = some (u, 0, 0) := by
            unfold Sp.readT
            rw [h, hbg]; rfl
          obtain ⟨t', e1, e2, e3⟩ := sim_T t u hs ho
          rw [e]
          simp only [optS]
          have e4 : Sp.smC (t.d, trD u) = some () := by
            show (optK (Sp.toC t.d) fun t => optK (Sp.toC (trD u)) fun u => must (Sp.same t u) (some ())) = some ()
            rw [hC, e1, toC_d e3]
            simp only [optS, e2, must, cond_true]
          rw [e4]
          rfl
    · rfl
  refine lim_bodyK (K7_knows m) (N := 0) ?_
  obtain ⟨k, nm, kids, nms, pl⟩ := t
  exact (g7 0 m k nm kids nms pl).trans (key _ rfl)
end Go.Vai
end

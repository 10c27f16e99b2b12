/-
  Calls: what leaves them.
  Calls of functions.
  A slice that a call hands out, with the right to append to it.
  Calls of functions: the whole.
  Calls of functions: the whole.
  The rows' readings are plain data.
  A law's call, from outside.
  More fuel, and what is known of calls.
-/
import Derived.Test.YtdgdfglbhndjnaaDoorVaiPart5
import Derived.ProofKit
import Derived.OpenShut
import Derived.Deep.DeepHandedRow
import Derived.MakeChecks

set_option linter.all false
set_option linter.unusedSimpArgs false
set_option linter.unusedVariables false

section
namespace Go.Vai

section
variable {R : Type} {cx : Cx} {m nt : Nat} {w w₀ : World} {σ σ' σ₀ : St} {μ μ₀ : Mu}

theorem leaveL_spec : ∀ {l r : List V}, V.leaveL m σ l = some r → r.length = l.length ∧ ∀ (i : Nat) x y, l[i]? = some x → r[i]? = some y → x.leave m σ = some y
  | [], r, h => by simp only [V.leaveL] at h; cases h; simp
  | v :: l, r, h => by
    simp only [V.leaveL] at h
    split at h
    · rename_i u r' hu hr
      cases h
      obtain ⟨h1, h2⟩ := leaveL_spec hr
      refine ⟨by simp [h1], fun i x y hx hy => ?_⟩
      cases i with
      | zero => simp at hx hy; subst hx; subst hy; exact hu
      | succ i => exact h2 i x y (by simpa using hx) (by simpa using hy)
    · cases h

def leaveOb (m : Nat) (σ : St) : Ob → Option Ob
  | .val n v => (v.leave m σ).map (.val n)
  | o => some o

theorem leaveSt_spec : ∀ {is : List Nat} {τ : St}, leaveSt m σ is = some τ → (∀ i ∈ is, ∃ o o', getA σ i = some o ∧ getA τ i = some o' ∧ leaveOb m σ o = some o') ∧ ∀ i o', getA τ i = some o' → i ∈ is
  | [], τ, h => by simp only [leaveSt] at h; cases h; exact ⟨by simp, fun i o h => by cases h⟩
  | i :: is, τ, h => by
    simp only [leaveSt] at h
    have fin : ∀ {o o' : Ob} {l : St}, getA σ i = some o → leaveOb m σ o = some o' → leaveSt m σ is = some l → τ = (i, o') :: l →
        (∀ j ∈ i :: is, ∃ o o', getA σ j = some o ∧ getA τ j = some o' ∧ leaveOb m σ o = some o') ∧ ∀ j o', getA τ j = some o' → j ∈ i :: is := by
      intro o o' l ho hl hls rfl
      obtain ⟨h1, h2⟩ := leaveSt_spec hls
      refine ⟨fun j hj => ?_, fun j q hq => ?_⟩
      · by_cases hij : i = j
        · subst hij
          exact ⟨o, o', ho, by simp [getA], hl⟩
        · obtain ⟨p, q, h3, h4, h5⟩ := h1 j ((List.mem_cons.1 hj).resolve_left fun e => hij e.symm)
          exact ⟨p, q, h3, by simpa [getA, beqF hij] using h4, h5⟩
      · by_cases hij : i = j
        · subst hij; exact List.mem_cons_self
        · simp only [getA, beqF hij, cond_false] at hq
          exact List.mem_cons_of_mem _ (h2 j q hq)
    split at h
    · rename_i n v l ho hls
      split at h
      · rename_i u hu
        cases h
        exact fin ho (by simp [leaveOb, hu]) hls rfl
      · cases h
    · rename_i o l hno ho hls
      cases h
      refine fin ho ?_ hls rfl
      cases o with
      | val n v => exact (hno n v rfl).elim
      | _ => rfl
    · cases h

mutual
theorem V.leave_ids (m : Nat) (σ : St) : ∀ (v u : V), v.leave m σ = some u → ∀ i ∈ u.ids, i < m
  | .d x, u, h, i, hi => by simp only [V.leave] at h; cases h; simp [V.ids] at hi
  | .sl sz l id, u, h, i, hi => by
    simp only [V.leave] at h
    cases hb : Nat.blt id m <;> rw [hb] at h <;> cases h
    · simp [V.ids] at hi
    · simp [V.ids] at hi; subst hi; exact Nat.le_of_ble_eq_true hb
  | .slo id off n, u, h, i, hi => by
    simp only [V.leave] at h
    split at h
    · cases hb : Nat.blt id m <;> rw [hb] at h <;> cases h
      · simp [V.ids] at hi
      · simp [V.ids] at hi; subst hi; exact Nat.le_of_ble_eq_true hb
    · cases h
  | .map id, u, h, i, hi => by
    simp only [V.leave] at h
    split at h
    · cases hb : Nat.blt id m <;> rw [hb] at h <;> cases h
      · simp [V.ids] at hi
      · simp [V.ids] at hi; subst hi; exact Nat.le_of_ble_eq_true hb
    · cases h
  | .ptr id off, u, h, i, hi => by
    simp only [V.leave] at h
    cases hb : Nat.blt id m <;> rw [hb] at h <;> cases h
    simp [V.ids] at hi; subst hi; exact Nat.le_of_ble_eq_true hb
  | .eptr x off, u, h, i, hi => by simp only [V.leave] at h; cases h; simp [V.ids] at hi
  | .gptr x off, u, h, i, hi => by simp only [V.leave] at h; cases h; simp [V.ids] at hi
  | .agg l, u, h, i, hi => by
    simp only [V.leave] at h
    split at h
    · rename_i r hr
      cases h
      have := V.leaveL_ids m σ l r hr i
      unfold mkAgg at hi
      split at hi
      · simp [V.ids] at hi
      · exact this hi
    · cases h
  | .tup l, u, h, i, hi => by
    simp only [V.leave] at h
    split at h
    · rename_i r hr
      cases h
      exact V.leaveL_ids m σ l r hr i hi
    · cases h
  | .func g l, u, h, i, hi => by
    simp only [V.leave] at h
    split at h
    · rename_i r hr
      cases h
      exact V.leaveL_ids m σ l r hr i hi
    · cases h
  | .iface t v, u, h, i, hi => by
    simp only [V.leave] at h
    split at h
    · rename_i r hr
      cases h
      exact V.leave_ids m σ v r hr i hi
    · cases h
theorem V.leaveL_ids (m : Nat) (σ : St) : ∀ (l r : List V), V.leaveL m σ l = some r → ∀ i ∈ V.idsL r, i < m
  | [], r, h, i, hi => by simp only [V.leaveL] at h; cases h; cases hi
  | v :: l, r, h, i, hi => by
    simp only [V.leaveL] at h
    split at h
    · rename_i u r' hu hr
      cases h
      simp only [V.idsL, List.mem_append] at hi
      rcases hi with hi | hi
      · exact V.leave_ids m σ v u hu i hi
      · exact V.leaveL_ids m σ l r' hr i hi
    · cases h
end

theorem leaveOb_ids {o o' : Ob} (h : leaveOb m σ o = some o') : ∀ i ∈ o'.ids, i < m := by
  intro i hi
  cases o with
  | val n v =>
    obtain ⟨u, hu, rfl⟩ := Option.map_eq_some_iff.1 h
    exact V.leave_ids m σ v u hu i hi
  | _ => cases h; simp [Ob.ids] at hi

theorem leaveOb_owns {o o' : Ob} (h : leaveOb m σ o = some o') {id b i : Nat} : owns μ id o' b i ↔ owns μ id o b i := by
  cases o with
  | val n v => obtain ⟨u, hu, rfl⟩ := Option.map_eq_some_iff.1 h; exact Iff.rfl
  | _ => cases h; exact Iff.rfl

/-- What stays behind of the worlds. -/
structure Left (m : Nat) (σ σ' : St) : Prop where
  get : ∀ i, i < m → ∃ o o', getA σ i = some o ∧ getA σ' i = some o' ∧ leaveOb m σ o = some o'
  lt : ∀ i o', getA σ' i = some o' → i < m

theorem Left.of {τ : St} (h : leaveSt m σ (List.range m) = some τ) : Left m σ τ :=
  let ⟨h1, h2⟩ := leaveSt_spec h
  ⟨fun i hi => h1 i (List.mem_range.2 hi), fun i o ho => List.mem_range.1 (h2 i o ho)⟩

theorem Left.back (h : Left m σ σ') {i : Nat} {o' : Ob} (ho : getA σ' i = some o') : ∃ o, getA σ i = some o ∧ leaveOb m σ o = some o' ∧ i < m := by
  have hlt := h.lt i o' ho
  obtain ⟨o, q, h1, h2, h3⟩ := h.get i hlt
  rw [ho] at h2; cases h2
  exact ⟨o, h1, h3, hlt⟩

theorem Left.mine (h : Left m σ σ') {b i : Nat} (hm : Mine σ' μ b i) : ∃ id o, id < m ∧ getA σ id = some o ∧ owns μ id o b i := by
  obtain ⟨id, o', ho', hown⟩ := hm
  obtain ⟨o, h1, h2, h3⟩ := h.back ho'
  exact ⟨id, o, h3, h1, (leaveOb_owns h2).1 hown⟩

theorem Left.own (h : Left m σ σ') {b i : Nat} (ho : OwnOf σ' μ b i) : OwnOf σ μ b i := ho.imp id fun hm => let ⟨id, o, _, h1, h2⟩ := h.mine hm; ⟨id, o, h1, h2⟩

theorem Left.stays (h : Left m σ σ') : Stays w (OwnOf σ μ) w (OwnOf σ' μ) := ⟨fun b i x hn hc => ⟨hc, fun ho => hn (h.own ho)⟩, fun r es clock hn hm => ⟨hm, fun ho => hn (h.own ho)⟩⟩

/-- Of what an object that stays behind isn't, nothing is owned. -/
theorem Left.free (h : Left m σ σ') (hi : Inv cx w σ μ) {id : Nat} {o : Ob} (hm : ¬ id < m) (ho : getA σ id = some o) {b i : Nat} (hown : owns μ id o b i) : ∀ j, ¬ OwnOf σ' μ b j := by
  intro j hq
  rcases hq with hf | hq
  · exact hi.frame id o b i ho hown j hf
  · obtain ⟨id', o', h1, h2, h3⟩ := h.mine hq
    have := hi.blockApart ho h2 hown h3
    exact hm (this ▸ h1)

theorem RD.oneCells {own : Own} {v : Value} {y : D} (h : RD w own v y) (h1 : v.oneCell' = true) : y.cells = [y] := by
  cases h <;> first | rfl | (simp [Value.oneCell'] at h1)

theorem bltF {a b : Nat} (h : Nat.blt a b = false) : ¬ a < b := fun hlt => by
  have : Nat.blt a b = true := by simpa using hlt
  rw [h] at this; cases this

theorem leave_rv (h : Left m σ σ') (hi : Inv cx w σ μ) {v : Value} {x : V} (hv : RV w σ μ v x) : ∀ {u : V}, x.leave m σ = some u → RV w σ' μ v u := by
  have hst := h.stays (w := w) (μ := μ)
  have list : ∀ {cs : Array Value} {l r : List V}, cs.size = l.length → (∀ (i : Nat) x y, cs[i]? = some x → l[i]? = some y → ∀ {u : V}, y.leave m σ = some u → RV w σ' μ x u) → V.leaveL m σ l = some r →
      cs.size = r.length ∧ ∀ (i : Nat) x y, cs[i]? = some x → r[i]? = some y → RV w σ' μ x y := by
    intro cs l r hl ih hr
    obtain ⟨h1, h2⟩ := leaveL_spec hr
    refine ⟨by rw [h1]; exact hl, fun i x y hx hy => ?_⟩
    obtain ⟨z, hz⟩ := getSome (l := l) (i := i) (by rw [← h1]; exact (List.getElem?_eq_some_iff.1 hy).1)
    exact ih i x z hx hz (h2 i z y hz hy)
  induction hv with
  | d v x hd => intro u hu; simp only [V.leave] at hu; cases hu; exact .d _ _ (hd.stays hst)
  | ptr id off b hc hb =>
    intro u hu
    simp only [V.leave] at hu
    cases hlt : Nat.blt id m <;> rw [hlt] at hu <;> cases hu
    obtain ⟨o, o', h1, h2, h3⟩ := h.get id (Nat.le_of_ble_eq_true hlt)
    refine .ptr id off b ?_ hb
    rw [h2]
    rw [h1] at hc
    cases o with
    | val n v => obtain ⟨u, hu, rfl⟩ := Option.map_eq_some_iff.1 h3; trivial
    | row l => cases h3; trivial
    | _ => exact hc.elim
  | eptr x b o off xs hc hh =>
    intro u hu
    simp only [V.leave] at hu; cases hu
    exact .eptr x b o off xs (fun j hj => ⟨(hc j hj).1, fun ho => (hc j hj).2.1 (h.own ho), (hc j hj).2.2⟩) (fun j c hj => (hh j c hj).stays hst)
  | gptr g off => intro u hu; simp only [V.leave] at hu; cases hu; exact .gptr g off
  | agg cs l hl ho _ ih =>
    intro u hu
    simp only [V.leave] at hu
    split at hu
    · rename_i r hr
      cases hu
      obtain ⟨h1, h2⟩ := list hl ih hr
      exact mkAgg_ok ho ⟨by simpa using h1, fun i x y hx hy => h2 i x y (by simpa using hx) hy⟩
    · cases hu
  | sl v sz l id n hd ht hn he =>
    intro u hu
    simp only [V.leave] at hu
    cases hlt : Nat.blt id m <;> rw [hlt] at hu <;> cases hu
    · exact .d _ _ (hd.stays hst)
    · obtain ⟨o, o', h1, h2, h3⟩ := h.get id (Nat.le_of_ble_eq_true hlt)
      rw [ht] at h1; cases h1
      cases h3
      exact .sl v sz l id n (hd.stays hst) h2 hn he
  | slo id off n cap b l ho hb hn hcap =>
    intro u hu
    simp only [V.leave, ho] at hu
    cases hlt : Nat.blt id m <;> rw [hlt] at hu <;> cases hu
    · obtain ⟨b', cs, el, hb', hh, h1, hr⟩ := hi.ob id _ ho
      obtain rfl : b = b' := by rw [hb] at hb'; exact Option.some.inj hb'
      have hfree := h.free hi (bltF hlt) ho (show owns μ id (.row l) b 0 from hb)
      have hlen : cs.size = l.length := by simpa using hr.1
      have hcell : ∀ i, w.cell? ⟨b, i, none⟩ = cs[i]? := fun i => cell_of_heap hh
      have hone : ∀ y ∈ l, ∃ v, RD w (OwnOf σ μ) v y ∧ v.oneCell' = true := fun y hy => by
        obtain ⟨i, hi'⟩ := List.getElem?_of_mem hy
        obtain ⟨v, hv⟩ := getSome (l := cs.toList) (i := i) (by rw [hr.1]; exact (List.getElem?_eq_some_iff.1 hi').1)
        exact ⟨v, hr.2 i v y hv hi', h1 v (List.mem_of_getElem? hv)⟩
      refine .d _ _ (.sl b off n cap 1 ((l.drop off).take n) (fun k => cs.getD (off + k) undef) (by simp; omega) hcap (fun y hy => ?_) (fun k hk => ?_) (fun i j y c hy hc => ?_))
      · obtain ⟨v, hv, hv1⟩ := hone y (List.mem_of_mem_drop (List.mem_of_mem_take hy))
        rw [RD.oneCells hv hv1]; rfl
      · have hlt : off + k < cs.size := by omega
        refine ⟨?_, hfree _, ?_⟩
        · rw [hcell]; simp [Array.getD_eq_getD_getElem?, hlt]
        · have : cs.getD (off + k) undef = cs[off + k] := by simp [Array.getD_eq_getD_getElem?, hlt]
          rw [this]
          exact h1 _ (by simp)
      · have hyl := List.mem_of_getElem? hy
        obtain ⟨v, hv, hv1⟩ := hone y (List.mem_of_mem_drop (List.mem_of_mem_take hyl))
        rw [RD.oneCells hv hv1] at hc
        have hj : j = 0 := by
          have := (List.getElem?_eq_some_iff.1 hc).1
          simpa using this
        subst hj
        simp only [List.getElem?_cons_zero, Option.some.injEq] at hc
        subst hc
        have hik : i < n := by have := (List.getElem?_eq_some_iff.1 hy).1; simp at this; omega
        have hlt : off + i < cs.size := by omega
        have hyg : l[off + i]? = some y := by
          rw [List.getElem?_take_of_lt hik, List.getElem?_drop] at hy
          exact hy
        have : cs.getD (off + (i * 1 + 0)) undef = cs[off + i] := by simp [Array.getD_eq_getD_getElem?, hlt]
        rw [this]
        exact (hr.2 (off + i) _ y (by simp [hlt]) hyg).stays hst
    · obtain ⟨o, o', h1, h2, h3⟩ := h.get id (Nat.le_of_ble_eq_true hlt)
      rw [ho] at h1; cases h1
      cases h3
      exact .slo id off n cap b l h2 hb hn hcap
  | func f cs l hl _ ih =>
    intro u hu
    simp only [V.leave] at hu
    split at hu
    · rename_i r hr
      cases hu
      obtain ⟨h1, h2⟩ := list hl ih hr
      exact .func f cs r h1 h2
    · cases hu
  | map id b ks vs ho hb =>
    intro u hu
    simp only [V.leave, ho] at hu
    cases hlt : Nat.blt id m <;> rw [hlt] at hu <;> cases hu
    · obtain ⟨b', es, clock, hb', hh, hk, hv⟩ := hi.ob id _ ho
      obtain rfl : b = b' := by rw [hb] at hb'; exact Option.some.inj hb'
      have hfree := h.free hi (bltF hlt) ho (show owns μ id (.map ks vs) b 0 from hb)
      refine .d _ _ (.map b es clock ks vs hh (hfree 0) (by simpa using hk.1) (by simpa using hv.1) (fun i e k he hk' => ?_) (fun i e v he hv' => ?_))
      · exact (hk.2 i e.key k (by simp [he]) hk').stays hst
      · exact (hv.2 i e.val v (by simp [he]) hv').stays hst
    · obtain ⟨o, o', h1, h2, h3⟩ := h.get id (Nat.le_of_ble_eq_true hlt)
      rw [ho] at h1; cases h1
      cases h3
      exact .map id b ks vs h2 hb
  | iface t v u' _ ih =>
    intro u hu
    simp only [V.leave] at hu
    split at hu
    · rename_i r hr
      cases hu
      exact .iface t v r (ih hr)
    · cases hu
  | tup cs l hl _ ih =>
    intro u hu
    simp only [V.leave] at hu
    split at hu
    · rename_i r hr
      cases hu
      obtain ⟨h1, h2⟩ := list hl ih hr
      exact .tup cs r h1 h2
    · cases hu

end
end Go.Vai
end

section
namespace Go.Vai

section
variable {R : Type} {cx : Cx} {m nt : Nat} {w w₀ : World} {σ σ' σ₀ : St} {μ μ₀ : Mu}

theorem leave_agg {v u : V} (h : v.leave m σ = some u) : (v.tupV = false → u.tupV = false) ∧ (v.cells = [v] → u.cells = [u]) := by
  cases v with
  | d x => simp only [V.leave] at h; cases h; exact ⟨id, id⟩
  | eptr x off => simp only [V.leave] at h; cases h; exact ⟨id, id⟩
  | gptr x off => simp only [V.leave] at h; cases h; exact ⟨id, id⟩
  | ptr id off => simp only [V.leave] at h; cases hb : Nat.blt id m <;> rw [hb] at h <;> cases h; exact ⟨fun _ => rfl, fun _ => rfl⟩
  | sl sz l id => simp only [V.leave] at h; cases hb : Nat.blt id m <;> rw [hb] at h <;> cases h <;> exact ⟨fun _ => rfl, fun _ => rfl⟩
  | slo id off n =>
    simp only [V.leave] at h
    split at h
    · cases hb : Nat.blt id m <;> rw [hb] at h <;> cases h <;> exact ⟨fun _ => rfl, fun _ => rfl⟩
    · cases h
  | map id =>
    simp only [V.leave] at h
    split at h
    · cases hb : Nat.blt id m <;> rw [hb] at h <;> cases h <;> exact ⟨fun _ => rfl, fun _ => rfl⟩
    · cases h
  | func g l => simp only [V.leave] at h; split at h <;> cases h; exact ⟨fun _ => rfl, fun _ => rfl⟩
  | iface t x => simp only [V.leave] at h; split at h <;> cases h; exact ⟨fun _ => rfl, fun _ => rfl⟩
  | tup l => simp only [V.leave] at h; split at h <;> cases h; exact ⟨fun h => by simp [V.tupV] at h, fun _ => rfl⟩
  | agg l =>
    simp only [V.leave] at h
    split at h
    · cases h
      refine ⟨fun _ => by unfold mkAgg; split <;> rfl, fun hc => ?_⟩
      exfalso
      simp only [V.cells] at hc
      have := congrArg (fun x : List V => SizeOf.sizeOf x) hc
      simp at this
      omega
    · cases h

theorem leave_tup {v u : V} (h : v.leave m σ = some u) (ht : v.tupV = false) : u.tupV = false := (leave_agg h).1 ht

theorem leave_cells (h : Left m σ σ') (hi : Inv cx w σ μ) {v u : V} {vs : List Value} (hr : RVs w σ μ vs v.cells) (hu : v.leave m σ = some u) : RVs w σ' μ vs u.cells := by
  by_cases hc : v.cells = [v]
  · rw [(leave_agg hu).2 hc]
    rw [hc] at hr
    refine ⟨hr.1, fun i x y hx hy => ?_⟩
    cases i with
    | zero =>
      simp at hy; subst hy
      exact leave_rv h hi (hr.2 0 x v hx rfl) hu
    | succ i => simp at hy
  · cases v with
    | agg l =>
      simp only [V.leave] at hu
      split at hu
      · rename_i r hl
        cases hu
        rw [mkAgg_cells]
        obtain ⟨h1, h2⟩ := leaveL_spec hl
        refine ⟨by rw [h1]; exact hr.1, fun i x y hx hy => ?_⟩
        obtain ⟨z, hz⟩ := getSome (l := l) (i := i) (by rw [← h1]; exact (List.getElem?_eq_some_iff.1 hy).1)
        exact leave_rv h hi (hr.2 i x z hx hz) (h2 i z y hz hy)
      · cases hu
    | d x =>
      simp only [V.leave] at hu
      cases hu
      refine hr.map fun v y hy hv => ?_
      cases x with
      | agg l =>
        simp only [V.cells, List.mem_map] at hy
        obtain ⟨d, _, rfl⟩ := hy
        cases hv with | d _ _ hd => exact .d _ _ (hd.stays h.stays)
      | _ => exact (hc rfl).elim
    | _ => exact (hc rfl).elim

theorem Left.after (h : Left m σ σ') (hσ₀ : ∀ id o, getA σ₀ id = some o → id < m) (ha : After cx w₀ σ₀ μ₀ w σ μ) : After cx w₀ σ₀ μ₀ w σ' μ := by
  have hi := ha.inv
  have hst := h.stays (w := w) (μ := μ)
  refine ⟨⟨fun id o' ho' => ?_, fun id id' o o' b i ho ho' h1 h2 => ?_, fun g x hg => ?_, fun id o b i ho h1 => ?_, hi.frLt, hi.frMap⟩,
    ⟨ha.goes.kept, fun b i hb hm => ha.goes.own b i hb (let ⟨id, o, _, h1, h2⟩ := h.mine hm; ⟨id, o, h1, h2⟩), ha.goes.fr⟩, fun id o ho => ?_, ha.fr⟩
  · obtain ⟨o, ho, hl, hlt⟩ := h.back ho'
    have hok := hi.ob id o ho
    cases o with
    | val n v =>
      obtain ⟨u, hu, rfl⟩ := Option.map_eq_some_iff.1 hl
      obtain ⟨b, cs, el, hb, hh, hn, ht, h1, hr, htag⟩ := hok
      exact ⟨b, cs, el, hb, hh, hn, leave_tup hu ht, h1, leave_cells h hi hr hu, htag⟩
    | row l =>
      cases hl
      obtain ⟨b, cs, el, hb, hh, h1, hr⟩ := hok
      exact ⟨b, cs, el, hb, hh, h1, hr.stays hst⟩
    | tok n => cases hl; exact hok
    | map ks vs =>
      cases hl
      obtain ⟨b, es, clock, hb, hh, hk, hv⟩ := hok
      exact ⟨b, es, clock, hb, hh, hk.stays hst, hv.stays hst⟩
  · obtain ⟨p, hp, hl, _⟩ := h.back ho
    obtain ⟨p', hp', hl', _⟩ := h.back ho'
    exact hi.apart id id' p p' b i hp hp' ((leaveOb_owns hl).1 h1) ((leaveOb_owns hl').1 h2)
  · obtain ⟨xs, hc, hr⟩ := hi.glob g x hg
    exact ⟨xs, fun j hj => ⟨(hc j hj).1, fun ho => (hc j hj).2.1 (h.own ho), (hc j hj).2.2⟩, fun j c hj => (hr j c hj).stays hst⟩
  · obtain ⟨p, hp, hl, _⟩ := h.back ho
    exact hi.frame id p b i hp ((leaveOb_owns hl).1 h1)
  · obtain ⟨p, q, h1, h2, h3⟩ := h.get id (hσ₀ id o ho)
    have := ha.still id o ho
    rw [h1] at this
    rw [h2]
    cases p with
    | val n v => obtain ⟨u, hu, rfl⟩ := Option.map_eq_some_iff.1 h3; cases o <;> exact this
    | _ => cases h3; exact this

end
end Go.Vai
end

section
namespace Go.Vai

section
variable {R : Type} {cx : Cx} {m nt q g n₀ : Nat} {w w₀ : World} {σ σ' σ₀ : St} {μ μ' μ₀ : Mu}

/-- What stays behind of the worlds, where the object 'q' takes the place of 'g'. -/
structure Left2 (m q g n : Nat) (σ σ' : St) (μ μ' : Mu) : Prop where
  get : ∀ i, i < m → i ≠ q → ∃ o o', getA σ i = some o ∧ getA σ' i = some o' ∧ leaveOb m σ o = some o' ∧ μ' i = μ i
  lt : ∀ i o', getA σ' i = some o' → i < m
  gm : ¬ g < m
  n0 : 0 < n
  q0 : getA σ q = some (.tok 0)
  q1 : getA σ' q = some (.tok n)
  gt : getA σ g = some (.tok n)
  mu : μ' q = μ g
  fr : μ'.fr = μ.fr

theorem Left2.of {τ : St} {μ : Mu} (h : Left m σ τ) (hq : q < m) (hg : ¬ g < m) (h0 : getA σ q = some (.tok 0)) (ht : getA σ g = some (.tok n₀)) (hn : 0 < n₀) :
    Left2 m q g n₀ σ (putA τ q (.tok n₀)) μ (setMu μ q (μ g)) := by
  refine ⟨fun i hi hne => ?_, fun i o' ho => ?_, hg, hn, h0, by rw [getA_putA, if_pos rfl], ht, by simp [setMu], rfl⟩
  · obtain ⟨o, o', h1, h2, h3⟩ := h.get i hi
    exact ⟨o, o', h1, by rw [getA_putA, if_neg (fun e => hne e.symm)]; exact h2, h3, by simp [setMu, hne]⟩
  · rw [getA_putA] at ho
    by_cases e : q = i
    · exact e ▸ hq
    · rw [if_neg e] at ho; exact h.lt i o' ho

theorem Left2.back (h : Left2 m q g n₀ σ σ' μ μ') {id : Nat} {o' : Ob} {b i : Nat} (ho : getA σ' id = some o') (hown : owns μ' id o' b i) :
    ∃ s p, ((s = id ∧ id < m ∧ id ≠ q) ∨ (s = g ∧ id = q)) ∧ getA σ s = some p ∧ owns μ s p b i := by
  by_cases hq : id = q
  · subst hq
    rw [h.q1] at ho; cases ho
    refine ⟨g, .tok n₀, .inr ⟨rfl, rfl⟩, h.gt, ?_⟩
    have h1 : (μ' id).blk = some b ∧ (μ' id).f ≤ i := hown
    rw [h.mu] at h1
    exact h1
  · have hlt := h.lt id o' ho
    obtain ⟨o, o'', h1, h2, h3, h4⟩ := h.get id hlt hq
    rw [ho] at h2; cases h2
    refine ⟨id, o, .inl ⟨rfl, hlt, hq⟩, h1, (leaveOb_owns h3).1 ?_⟩
    exact (owns_congr h4 o' b i).1 hown

theorem Left2.mine (h : Left2 m q g n₀ σ σ' μ μ') {b i : Nat} (hm : Mine σ' μ' b i) : ∃ id o, ((id < m ∧ id ≠ q) ∨ id = g) ∧ getA σ id = some o ∧ owns μ id o b i := by
  obtain ⟨id, o', ho', hown⟩ := hm
  obtain ⟨s, p, hs, hp, hown'⟩ := h.back ho' hown
  refine ⟨s, p, ?_, hp, hown'⟩
  rcases hs with ⟨rfl, h1, h2⟩ | ⟨rfl, _⟩
  · exact .inl ⟨h1, h2⟩
  · exact .inr rfl

theorem Left2.own (h : Left2 m q g n₀ σ σ' μ μ') {b i : Nat} (ho : OwnOf σ' μ' b i) : OwnOf σ μ b i := by
  rcases ho with hf | hm
  · exact .inl (h.fr ▸ hf)
  · obtain ⟨id, o, _, h1, h2⟩ := h.mine hm; exact .inr ⟨id, o, h1, h2⟩

theorem Left2.stays (h : Left2 m q g n₀ σ σ' μ μ') : Stays w (OwnOf σ μ) w (OwnOf σ' μ') := ⟨fun b i x hn hc => ⟨hc, fun ho => hn (h.own ho)⟩, fun r es clock hn hm => ⟨hm, fun ho => hn (h.own ho)⟩⟩

theorem Left2.free (h : Left2 m q g n₀ σ σ' μ μ') (hi : Inv cx w σ μ) {id : Nat} {o : Ob} (hm : ¬ id < m) (ho : getA σ id = some o) (hnt : ∀ k, o ≠ .tok k) {b i : Nat} (hown : owns μ id o b i) : ∀ j, ¬ OwnOf σ' μ' b j := by
  intro j hq
  rcases hq with hf | hq
  · exact hi.frame id o b i ho hown j (h.fr ▸ hf)
  · obtain ⟨id', o', h1, h2, h3⟩ := h.mine hq
    have := hi.blockApart ho h2 hown h3
    subst this
    rcases h1 with ⟨h1, _⟩ | rfl
    · exact hm h1
    · rw [h.gt] at ho; cases ho; exact hnt _ rfl

theorem leave_rv2 (h : Left2 m q g n₀ σ σ' μ μ') (hi : Inv cx w σ μ) {v : Value} {x : V} (hv : RV w σ μ v x) : ∀ {u : V}, x.leave m σ = some u → RV w σ' μ' v u := by
  have hst := h.stays (w := w)
  have list : ∀ {cs : Array Value} {l r : List V}, cs.size = l.length → (∀ (i : Nat) x y, cs[i]? = some x → l[i]? = some y → ∀ {u : V}, y.leave m σ = some u → RV w σ' μ' x u) → V.leaveL m σ l = some r →
      cs.size = r.length ∧ ∀ (i : Nat) x y, cs[i]? = some x → r[i]? = some y → RV w σ' μ' x y := by
    intro cs l r hl ih hr
    obtain ⟨h1, h2⟩ := leaveL_spec hr
    refine ⟨by rw [h1]; exact hl, fun i x y hx hy => ?_⟩
    obtain ⟨z, hz⟩ := getSome (l := l) (i := i) (by rw [← h1]; exact (List.getElem?_eq_some_iff.1 hy).1)
    exact ih i x z hx hz (h2 i z y hz hy)
  induction hv with
  | d v x hd => intro u hu; simp only [V.leave] at hu; cases hu; exact .d _ _ (hd.stays hst)
  | ptr id off b hc hb =>
    intro u hu
    simp only [V.leave] at hu
    cases hlt : Nat.blt id m <;> rw [hlt] at hu <;> cases hu
    by_cases hq : id = q
    · subst hq; rw [h.q0] at hc; exact hc.elim
    obtain ⟨o, o', h1, h2, h3, h4⟩ := h.get id (Nat.le_of_ble_eq_true hlt) hq
    refine .ptr id off b ?_ (h4 ▸ hb)
    rw [h2]
    rw [h1] at hc
    cases o with
    | val n v => obtain ⟨u, hu, rfl⟩ := Option.map_eq_some_iff.1 h3; trivial
    | row l => cases h3; trivial
    | _ => exact hc.elim
  | eptr x b o off xs hc hh =>
    intro u hu
    simp only [V.leave] at hu; cases hu
    exact .eptr x b o off xs (fun j hj => ⟨(hc j hj).1, fun ho => (hc j hj).2.1 (h.own ho), (hc j hj).2.2⟩) (fun j c hj => (hh j c hj).stays hst)
  | gptr g off => intro u hu; simp only [V.leave] at hu; cases hu; exact .gptr g off
  | agg cs l hl ho _ ih =>
    intro u hu
    simp only [V.leave] at hu
    split at hu
    · rename_i r hr
      cases hu
      obtain ⟨h1, h2⟩ := list hl ih hr
      exact mkAgg_ok ho ⟨by simpa using h1, fun i x y hx hy => h2 i x y (by simpa using hx) hy⟩
    · cases hu
  | sl v sz l id n hd ht hn he =>
    intro u hu
    simp only [V.leave] at hu
    cases hlt : Nat.blt id m <;> rw [hlt] at hu <;> cases hu
    · exact .d _ _ (hd.stays hst)
    · by_cases hq : id = q
      · subst hq
        rw [h.q0] at ht; cases ht
        exact .sl v sz l id n₀ (hd.stays hst) h.q1 (by omega) fun e => by have := h.n0; omega
      obtain ⟨o, o', h1, h2, h3, h4⟩ := h.get id (Nat.le_of_ble_eq_true hlt) hq
      rw [ht] at h1; cases h1
      cases h3
      exact .sl v sz l id n (hd.stays hst) h2 hn fun e => by have := he e; unfold tail at this ⊢; rw [h4]; exact this
  | slo id off n cap b l ho hb hn hcap =>
    intro u hu
    simp only [V.leave, ho] at hu
    cases hlt : Nat.blt id m <;> rw [hlt] at hu <;> cases hu
    · obtain ⟨b', cs, el, hb', hh, h1, hr⟩ := hi.ob id _ ho
      obtain rfl : b = b' := by rw [hb] at hb'; exact Option.some.inj hb'
      have hfree := h.free hi (bltF hlt) ho (fun _ => by simp) (show owns μ id (.row l) b 0 from hb)
      have hlen : cs.size = l.length := by simpa using hr.1
      have hcell : ∀ i, w.cell? ⟨b, i, none⟩ = cs[i]? := fun i => cell_of_heap hh
      have hone : ∀ y ∈ l, ∃ v, RD w (OwnOf σ μ) v y ∧ v.oneCell' = true := fun y hy => by
        obtain ⟨i, hi'⟩ := List.getElem?_of_mem hy
        obtain ⟨v, hv⟩ := getSome (l := cs.toList) (i := i) (by rw [hr.1]; exact (List.getElem?_eq_some_iff.1 hi').1)
        exact ⟨v, hr.2 i v y hv hi', h1 v (List.mem_of_getElem? hv)⟩
      refine .d _ _ (.sl b off n cap 1 ((l.drop off).take n) (fun k => cs.getD (off + k) undef) (by simp; omega) hcap (fun y hy => ?_) (fun k hk => ?_) (fun i j y c hy hc => ?_))
      · obtain ⟨v, hv, hv1⟩ := hone y (List.mem_of_mem_drop (List.mem_of_mem_take hy))
        rw [RD.oneCells hv hv1]; rfl
      · have hlt : off + k < cs.size := by omega
        refine ⟨?_, hfree _, ?_⟩
        · rw [hcell]; simp [Array.getD_eq_getD_getElem?, hlt]
        · have : cs.getD (off + k) undef = cs[off + k] := by simp [Array.getD_eq_getD_getElem?, hlt]
          rw [this]
          exact h1 _ (by simp)
      · have hyl := List.mem_of_getElem? hy
        obtain ⟨v, hv, hv1⟩ := hone y (List.mem_of_mem_drop (List.mem_of_mem_take hyl))
        rw [RD.oneCells hv hv1] at hc
        have hj : j = 0 := by
          have := (List.getElem?_eq_some_iff.1 hc).1
          simpa using this
        subst hj
        simp only [List.getElem?_cons_zero, Option.some.injEq] at hc
        subst hc
        have hik : i < n := by have := (List.getElem?_eq_some_iff.1 hy).1; simp at this; omega
        have hlt : off + i < cs.size := by omega
        have hyg : l[off + i]? = some y := by
          rw [List.getElem?_take_of_lt hik, List.getElem?_drop] at hy
          exact hy
        have : cs.getD (off + (i * 1 + 0)) undef = cs[off + i] := by simp [Array.getD_eq_getD_getElem?, hlt]
        rw [this]
        exact (hr.2 (off + i) _ y (by simp [hlt]) hyg).stays hst
    · by_cases hq : id = q
      · subst hq; rw [h.q0] at ho; cases ho
      obtain ⟨o, o', h1, h2, h3, h4⟩ := h.get id (Nat.le_of_ble_eq_true hlt) hq
      rw [ho] at h1; cases h1
      cases h3
      exact .slo id off n cap b l h2 (h4 ▸ hb) hn hcap
  | func f cs l hl _ ih =>
    intro u hu
    simp only [V.leave] at hu
    split at hu
    · rename_i r hr
      cases hu
      obtain ⟨h1, h2⟩ := list hl ih hr
      exact .func f cs r h1 h2
    · cases hu
  | map id b ks vs ho hb =>
    intro u hu
    simp only [V.leave, ho] at hu
    cases hlt : Nat.blt id m <;> rw [hlt] at hu <;> cases hu
    · obtain ⟨b', es, clock, hb', hh, hk, hv⟩ := hi.ob id _ ho
      obtain rfl : b = b' := by rw [hb] at hb'; exact Option.some.inj hb'
      have hfree := h.free hi (bltF hlt) ho (fun _ => by simp) (show owns μ id (.map ks vs) b 0 from hb)
      refine .d _ _ (.map b es clock ks vs hh (hfree 0) (by simpa using hk.1) (by simpa using hv.1) (fun i e k he hk' => ?_) (fun i e v he hv' => ?_))
      · exact (hk.2 i e.key k (by simp [he]) hk').stays hst
      · exact (hv.2 i e.val v (by simp [he]) hv').stays hst
    · by_cases hq : id = q
      · subst hq; rw [h.q0] at ho; cases ho
      obtain ⟨o, o', h1, h2, h3, h4⟩ := h.get id (Nat.le_of_ble_eq_true hlt) hq
      rw [ho] at h1; cases h1
      cases h3
      exact .map id b ks vs h2 (h4 ▸ hb)
  | iface t v u' _ ih =>
    intro u hu
    simp only [V.leave] at hu
    split at hu
    · rename_i r hr
      cases hu
      exact .iface t v r (ih hr)
    · cases hu
  | tup cs l hl _ ih =>
    intro u hu
    simp only [V.leave] at hu
    split at hu
    · rename_i r hr
      cases hu
      obtain ⟨h1, h2⟩ := list hl ih hr
      exact .tup cs r h1 h2
    · cases hu


theorem leave_cells2 (h : Left2 m q g n₀ σ σ' μ μ') (hi : Inv cx w σ μ) {v u : V} {vs : List Value} (hr : RVs w σ μ vs v.cells) (hu : v.leave m σ = some u) : RVs w σ' μ' vs u.cells := by
  by_cases hc : v.cells = [v]
  · rw [(leave_agg hu).2 hc]
    rw [hc] at hr
    refine ⟨hr.1, fun i x y hx hy => ?_⟩
    cases i with
    | zero =>
      simp at hy; subst hy
      exact leave_rv2 h hi (hr.2 0 x v hx rfl) hu
    | succ i => simp at hy
  · cases v with
    | agg l =>
      simp only [V.leave] at hu
      split at hu
      · rename_i r hl
        cases hu
        rw [mkAgg_cells]
        obtain ⟨h1, h2⟩ := leaveL_spec hl
        refine ⟨by rw [h1]; exact hr.1, fun i x y hx hy => ?_⟩
        obtain ⟨z, hz⟩ := getSome (l := l) (i := i) (by rw [← h1]; exact (List.getElem?_eq_some_iff.1 hy).1)
        exact leave_rv2 h hi (hr.2 i x z hx hz) (h2 i z y hz hy)
      · cases hu
    | d x =>
      simp only [V.leave] at hu
      cases hu
      refine hr.map fun v y hy hv => ?_
      cases x with
      | agg l =>
        simp only [V.cells, List.mem_map] at hy
        obtain ⟨d, _, rfl⟩ := hy
        cases hv with | d _ _ hd => exact .d _ _ (hd.stays h.stays)
      | _ => exact (hc rfl).elim
    | _ => exact (hc rfl).elim

theorem Left2.after (h : Left2 m q g n₀ σ σ' μ μ') (hσ₀ : ∀ id o, getA σ₀ id = some o → id < m) (ha : After cx w₀ σ₀ μ₀ w σ μ) : After cx w₀ σ₀ μ₀ w σ' μ' := by
  have hi := ha.inv
  have hst := h.stays (w := w)
  have hfr := h.fr
  refine ⟨⟨fun id o' ho' => ?_, fun id id' o o' b i ho ho' h1 h2 => ?_, fun g' x hg => ?_, fun id o b i ho h1 => ?_, fun b i hf => hi.frLt b i (hfr ▸ hf), fun r es clock i hm hf => by rw [hfr] at hf ⊢; exact hi.frMap r es clock i hm hf⟩,
    ⟨ha.goes.kept, fun b i hb hm => ha.goes.own b i hb (let ⟨id, o, _, h1, h2⟩ := h.mine hm; ⟨id, o, h1, h2⟩), hfr.trans ha.goes.fr⟩, fun id o ho => ?_, hfr.trans ha.fr⟩
  · by_cases hq : id = q
    · subst hq
      rw [h.q1] at ho'; cases ho'
      intro b hb
      rw [h.mu] at hb ⊢
      exact hi.ob g _ h.gt b hb
    obtain ⟨o, q', ho, h2, hl, hmu⟩ := h.get id (h.lt id o' ho') hq
    rw [ho'] at h2; cases h2
    have hok := hi.ob id o ho
    cases o with
    | val n v =>
      obtain ⟨u, hu, rfl⟩ := Option.map_eq_some_iff.1 hl
      obtain ⟨b, cs, el, hb, hh, hn, ht, h1, hr, htag⟩ := hok
      exact ⟨b, cs, el, hmu ▸ hb, hh, hn, leave_tup hu ht, h1, leave_cells2 h hi hr hu, htag⟩
    | row l =>
      cases hl
      obtain ⟨b, cs, el, hb, hh, h1, hr⟩ := hok
      exact ⟨b, cs, el, hmu ▸ hb, hh, h1, hr.stays hst⟩
    | tok n =>
      cases hl
      intro b hb
      rw [hmu] at hb ⊢
      exact hok b hb
    | map ks vs =>
      cases hl
      obtain ⟨b, es, clock, hb, hh, hk, hv⟩ := hok
      exact ⟨b, es, clock, hmu ▸ hb, hh, hk.stays hst, hv.stays hst⟩
  · obtain ⟨s, p, hs, hp, hown⟩ := h.back ho h1
    obtain ⟨s', p', hs', hp', hown'⟩ := h.back ho' h2
    have := hi.apart s s' p p' b i hp hp' hown hown'
    subst this
    have hgm := h.gm
    rcases hs with ⟨e1, hlt, _⟩ | ⟨e1, hq⟩ <;> rcases hs' with ⟨e2, hlt', _⟩ | ⟨e2, hq'⟩
    · exact e1.symm.trans e2
    · exact (hgm (by rw [← e2, e1]; exact hlt)).elim
    · exact (hgm (by rw [← e1, e2]; exact hlt')).elim
    · rw [hq, hq']
  · obtain ⟨xs, hc, hr⟩ := hi.glob g' x hg
    exact ⟨xs, fun j hj => ⟨(hc j hj).1, fun ho => (hc j hj).2.1 (h.own ho), (hc j hj).2.2⟩, fun j c hj => (hr j c hj).stays hst⟩
  · obtain ⟨s, p, hs, hp, hown⟩ := h.back ho h1
    intro j hf
    exact hi.frame s p b i hp hown j (hfr ▸ hf)
  · by_cases hq : id = q
    · subst hq
      have := ha.still id o ho
      rw [h.q0] at this
      rw [h.q1]
      have hn0 := h.n0
      cases o with
      | tok k =>
        have hk : k ≤ 0 ∧ _ := this
        exact ⟨by omega, fun e => by omega⟩
      | _ => exact this
    obtain ⟨p, q', h1, h2, h3, hmu⟩ := h.get id (hσ₀ id o ho) hq
    have := ha.still id o ho
    rw [h1] at this
    rw [h2]
    cases p with
    | val n v =>
      obtain ⟨u, hu, rfl⟩ := Option.map_eq_some_iff.1 h3
      cases o <;> simp only [stillOb] at this ⊢ <;> rw [hmu] <;> exact this
    | _ => cases h3; cases o <;> simp only [stillOb] at this ⊢ <;> first | exact this | (rw [hmu]; exact this)

end
end Go.Vai
end

section
namespace Go.Vai

section
variable {R : Type} {cx : Cx} {m nt : Nat} {w w₀ : World} {σ σ' σ₀ : St} {μ μ₀ : Mu}

/-- What one result is read by. -/
def resOne (tmps : Array Value) : ResultVar → Sem Value
  | .tmp t => pure (tmps.getD t undef)
  | .cell a t => do loadVar t (← asAddr (tmps.getD a undef))

theorem RV.isPtr {v : Value} {x : V} {t : Nat} {K : V → List Nat → Option R} {r : R} (hv : RV w σ μ v x) (h : loadV cx σ t x K = some r) : ∃ a, v = .pointer (some a) := by
  unfold loadV at h
  replace h := (must_some h).2
  cases hv with
  | ptr id off b hc hb => exact ⟨_, rfl⟩
  | eptr x b o off xs hc hh => exact ⟨_, rfl⟩
  | gptr g off => exact ⟨_, rfl⟩
  | _ => cases h

theorem resV_ok (hi : Inv cx w σ μ) {fr : Fr} {tmps : Array Value} (hf : FR w σ μ tmps fr) : ∀ (l : List ResultVar) {K : List V → Option R} {r : R}, resV cx fr σ l K = some r →
    ∃ vs, K vs = some r ∧ ∃ us, (l.mapM (resOne tmps)).run cx.P w = .ok us w ∧ RVs w σ μ us vs
  | [], K, r, h => ⟨[], h, [], by simp, rfl, by simp⟩
  | .tmp t :: l, K, r, h => by
    simp only [resV] at h
    obtain ⟨v, hv, h⟩ := optK_some h
    obtain ⟨vs, hK, us, hr, h1, h2⟩ := resV_ok hi hf l h
    refine ⟨v :: vs, hK, tmps.getD t undef :: us, ?_, by simp [h1], fun i x y hx hy => ?_⟩
    · rw [List.mapM_cons, Sem.run_bind]
      simp only [resOne, Sem.run_pure, Result.andThen_ok, Sem.run_bind, hr]
    · cases i with
      | zero => simp only [List.getElem?_cons_zero, Option.some.injEq] at hx hy; subst hx; subst hy; exact hf t v hv
      | succ i => exact h2 i x y (by simpa using hx) (by simpa using hy)
  | .cell a t :: l, K, r, h => by
    simp only [resV] at h
    obtain ⟨p, hp, h⟩ := optK_some h
    have hpr := hf a p hp
    obtain ⟨ad, had⟩ := hpr.isPtr h
    obtain ⟨v, fp, h, v', hrun, hv⟩ := loadV_ok hi hpr h
    obtain ⟨vs, hK, us, hr, h1, h2⟩ := resV_ok hi hf l h
    have hrun' : (loadVar t ad).run cx.P w = .ok v' w := by
      rw [had] at hrun
      simpa [Instr.loadAt, Instr.sureAddr] using hrun
    refine ⟨v :: vs, hK, v' :: us, ?_, by simp [h1], fun i x y hx hy => ?_⟩
    · rw [List.mapM_cons, Sem.run_bind]
      simp only [resOne, Sem.run_bind, had, asAddr, Sem.run_pure, Result.andThen_ok, hrun', hr]
    · cases i with
      | zero => simp at hx hy; subst hx; subst hy; exact hv
      | succ i => exact h2 i x y (by simpa using hx) (by simpa using hy)

def oneVal : List Value → Value
  | [v] => v
  | us => .tuple us.toArray

theorem results_run {fn : Func} {tmps : Array Value} {P : Program} {us : List Value} (h : (fn.results.toList.mapM (resOne tmps)).run P w = .ok us w) :
    (results fn tmps).run P w = .ok (oneVal us) w := by
  have e : results fn tmps = (fn.results.mapM (resOne tmps) >>= fun vs => pure (if h : vs.size = 1 then vs[0] else .tuple vs)) := by
    unfold results
    congr 1
  have h' : (fn.results.mapM (resOne tmps)).run P w = .ok us.toArray w := by
    rw [Array.mapM_eq_mapM_toList, Sem.run_map, h]; rfl
  rw [e, Sem.run_bind, h', Result.andThen_ok]
  match us with
  | [] => simp [oneVal]
  | [v] => simp [oneVal]
  | v :: u :: us => simp [oneVal]

theorem oneOrTup_ok {us : List Value} {vs : List V} (h : RVs w σ μ us vs) : RV w σ μ (oneVal us) (oneOrTup vs) := by
  have tup : RV w σ μ (.tuple us.toArray) (.tup vs) := .tup _ _ (by simpa using h.1) fun i x y hx hy => h.2 i x y (by simpa using hx) hy
  match us, vs, h.1 with
  | [], [], _ => exact tup
  | [u], [v], _ => exact h.2 0 u v rfl rfl
  | _ :: _ :: _, _ :: _ :: _, _ => exact tup

theorem getA_numbered : ∀ (k : Nat) (l : List V) (t : Nat) (v : V), getA (numbered k l) t = some v → ∃ i, t = k + i ∧ l[i]? = some v
  | _, [], _, _, h => by cases h
  | k, u :: l, t, v, h => by
    simp only [numbered, getA] at h
    cases hb : Nat.beq k t <;> rw [hb] at h
    · obtain ⟨i, h1, h2⟩ := getA_numbered (k + 1) l t v h
      exact ⟨i + 1, by omega, by simpa using h2⟩
    · obtain rfl := Nat.eq_of_beq_eq_true hb
      cases h
      exact ⟨0, rfl, rfl⟩

/-- What a call leaves behind. -/
def Fin (cx : Cx) (w : World) (σ : St) (μ : Mu) (out : Out) (σ' : St) : Ending → World → Prop := fun e w' =>
  ((∀ k o, getA σ' k = some o → k < σ.length ∧ ∀ i ∈ o.ids, i < σ.length) ∧ (∀ i ∈ (match out with | .ret v => v.ids | .pan v => v.ids), i < σ.length)) ∧
  ∃ μ', After cx w σ μ w' σ' μ' ∧
    match out, e with
    | .ret v, .returned x => RV w' σ' μ' x v
    | .pan v, .panicked chain => ∃ x, chain = [{ v := x, recovered := false }] ∧ RV w' σ' μ' x v
    | _, _ => False

theorem left_all (hσ₀ : ∀ id o, getA σ id = some o → id < σ.length) {w₁ : World} {τ : St} {μ₁ : Mu} (haf : After cx w σ μ w₁ τ μ₁) {v u : V} {τ' : St} (hu : v.leave σ.length τ = some u) (hτ : leaveSt σ.length τ (List.range σ.length) = some τ') :
    (∀ k o, getA τ' k = some o → k < σ.length ∧ ∀ i ∈ o.ids, i < σ.length) ∧ (∀ i ∈ u.ids, i < σ.length) ∧ After cx w σ μ w₁ τ' μ₁ ∧ ∀ x, RV w₁ τ μ₁ x v → RV w₁ τ' μ₁ x u := by
  have hl := Left.of hτ
  refine ⟨fun k o ho => ?_, V.leave_ids _ _ _ _ hu, hl.after hσ₀ haf, fun x hx => leave_rv hl haf.inv hx hu⟩
  obtain ⟨p, _, hp, hlt⟩ := hl.back ho
  exact ⟨hlt, leaveOb_ids hp⟩

theorem plain_ret (hσ₀ : ∀ id o, getA σ id = some o → id < σ.length) {w₁ : World} {τ : St} {μ₁ : Mu} {out : Out} {us : List Value} {vs : List V} (haf : After cx w σ μ w₁ τ μ₁) (hrvs : RVs w₁ τ μ₁ us vs)
    (h : plainOut σ.length τ vs = some (out, σ')) : Fin cx w σ μ out σ' (.returned (oneVal us)) w₁ := by
  unfold plainOut at h
  split at h
  · rename_i u τ' hu hτ
    cases h
    obtain ⟨g1, g2, g3, g4⟩ := left_all hσ₀ haf hu hτ
    exact ⟨⟨g1, g2⟩, μ₁, g3, g4 _ (oneOrTup_ok hrvs)⟩
  · cases h

theorem oneOrTup_ids {l : List V} : ∀ i ∈ (oneOrTup l).ids, i ∈ V.idsL l := by
  intro i hi
  match l with
  | [] => exact hi
  | [v] => simp only [oneOrTup] at hi; simpa [V.idsL] using hi
  | v :: u :: l => exact hi

theorem give_ret (hσ₀ : ∀ id o, getA σ id = some o → id < σ.length) {w₁ : World} {τ : St} {μ₁ : Mu} {out : Out} {us : List Value} {vs : List V} (haf : After cx w σ μ w₁ τ μ₁) (hrvs : RVs w₁ τ μ₁ us vs)
    (h : giveOut σ.length τ vs = some (out, σ')) : Fin cx w σ μ out σ' (.returned (oneVal us)) w₁ := by
  unfold giveOut at h
  split at h
  · rename_i sz l g rest
    split at h
    · rename_i n hg hq
      cases hc : (Nat.ble σ.length g && Nat.blt 0 σ.length && decide (n = l.length) && Nat.blt 0 n) <;> rw [hc] at h
      · exact plain_ret hσ₀ haf hrvs h
      rw [cond_true] at h
      simp only [Bool.and_eq_true, decide_eq_true_eq] at hc
      obtain ⟨⟨⟨h1, h2⟩, h3⟩, h4⟩ := hc
      have hgm : ¬ g < σ.length := by have : σ.length ≤ g := Nat.le_of_ble_eq_true h1; omega
      have hm : 0 < σ.length := by simpa using h2
      have hn : 0 < n := by simpa using h4
      split at h
      · rename_i r s hr hs
        cases h
        have hl := Left.of hs
        have hl2 := Left2.of hl (show σ.length - 1 < σ.length by omega) hgm hq hg hn (μ := μ₁)
        obtain ⟨k1, k2⟩ := leaveL_spec hr
        refine ⟨⟨fun k o ho => ?_, fun i hi => ?_⟩, _, hl2.after hσ₀ haf, ?_⟩
        · rw [getA_putA] at ho
          by_cases e : σ.length - 1 = k
          · rw [if_pos e] at ho; cases ho
            exact ⟨by omega, by simp [Ob.ids]⟩
          · rw [if_neg e] at ho
            obtain ⟨p, _, hp, hlt⟩ := hl.back ho
            exact ⟨hlt, leaveOb_ids hp⟩
        · have := oneOrTup_ids i hi
          simp only [V.idsL, V.ids, List.mem_append, List.mem_singleton] at this
          rcases this with rfl | h
          · omega
          · exact V.leaveL_ids _ _ _ _ hr i h
        · refine oneOrTup_ok ⟨?_, fun i x y hx hy => ?_⟩
          · have := hrvs.1
            simp only [List.length_cons] at this ⊢
            rw [k1]; exact this
          · cases i with
            | zero =>
              have h0 := hrvs.2 0 x _ hx rfl
              simp only [List.getElem?_cons_zero, Option.some.injEq] at hy
              subst hy
              cases h0 with
              | sl _ _ _ _ n' hd ht hn' he =>
                rw [hg] at ht; cases ht
                refine .sl _ _ _ _ n (hd.stays hl2.stays) hl2.q1 hn' fun e => ?_
                have := he e
                unfold tail at this ⊢
                rw [hl2.mu]
                exact this
            | succ i =>
              simp only [List.getElem?_cons_succ] at hy
              obtain ⟨z, hz⟩ := getSome (l := rest) (i := i) (by rw [← k1]; exact (List.getElem?_eq_some_iff.1 hy).1)
              exact leave_rv2 hl2 haf.inv (hrvs.2 (i + 1) x z hx (by simpa using hz)) (k2 i z y hz hy)
      · cases h
    · exact plain_ret hσ₀ haf hrvs h
  · exact plain_ret hσ₀ haf hrvs h

theorem end_ret (hσ₀ : ∀ id o, getA σ id = some o → id < σ.length) {w₁ : World} {τ : St} {μ₁ : Mu} {fn : Func} {f : Nat} {tmps : Array Value} {fr : Fr} {out : Out} (haf : After cx w σ μ w₁ τ μ₁) (hf : FR w₁ τ μ₁ tmps fr)
    (h : endK cx f σ.length fn.results.toList .ret fr τ = some (out, σ')) : ∃ v, (results fn tmps).run cx.P w₁ = .ok v w₁ ∧ Fin cx w σ μ out σ' (.returned v) w₁ := by
  simp only [endK] at h
  obtain ⟨vs, h, us, hr, hrvs⟩ := resV_ok haf.inv hf _ h
  refine ⟨_, results_run hr, ?_⟩
  cases hg : cx.gives f <;> rw [hg] at h
  · exact plain_ret hσ₀ haf hrvs h
  · exact give_ret hσ₀ haf hrvs h

/-- The end, where nothing was put off. -/
theorem endK_ok (hσ₀ : ∀ id o, getA σ id = some o → id < σ.length) {w₁ : World} {τ : St} {μ₁ : Mu} {fn : Func} {f : Nat} {a : Act} {fr : Fr} {out : Out} {e : Ex} {x : Exit} (hx : exits w₁ τ μ₁ e x) (hnow : Now cx nt [] w σ μ a w₁ τ μ₁ fr)
    (h : endK cx f σ.length fn.results.toList e fr τ = some (out, σ')) : bodyPostD cx.P fn (Fin cx w σ μ out σ') x a w₁ := by
  cases e with
  | normal =>
    cases x <;> first | exact hx.elim | skip
    show Leaves _ _ _ _ a.defers _ _
    rw [hnow.defers]
    exact end_ret (f := f) hσ₀ hnow.after hnow.fr h
  | ret =>
    cases x <;> first | exact hx.elim | skip
    show Leaves _ _ _ _ a.defers _ _
    rw [hnow.defers]
    exact end_ret (f := f) hσ₀ hnow.after hnow.fr h
  | pan v =>
    cases x <;> first | exact hx.elim | skip
    show Leaves _ _ _ _ a.defers _ _
    rw [hnow.defers]
    simp only [endK] at h
    split at h
    · rename_i u τ' hu hτ
      cases h
      obtain ⟨g1, g2, g3, g4⟩ := left_all hσ₀ hnow.after hu hτ
      obtain ⟨y, hy, hr⟩ := hx
      exact ⟨⟨g1, g2⟩, μ₁, g3, y, hy, g4 y hr⟩
    · cases h
  | _ => cases h

/-! Calls that were put off. -/

theorem upon_mono {P : Program} {o : Oper} {a : Act} {next next' : Act → World → Prop} {Q : Exit → Act → World → Prop} (h : ∀ a w, next a w → next' a w) {r : Result Next} (hr : o.upon P a next Q r) : o.upon P a next' Q r := by
  unfold Oper.upon at hr ⊢
  split at hr
  · exact h _ _ hr
  · exact h _ _ hr
  · exact h _ _ hr
  · refine Calls.mono hr fun e w he => ?_
    cases e with
    | returned v => exact h _ _ he
    | panicked ch => exact he
    | outgrown => exact he
  · exact Rows.mono hr fun v w he => h _ _ he
  · exact hr
  · exact hr.elim

theorem wpOpsS_of {P : Program} {ops : Array Oper} {Q : Exit → Act → List Frame → World → Prop} {cs : List Frame} (hout : ¬ LetsOut fun e a w => Q e a cs w) :
    ∀ (l : List Nat) (a : Act) (w : World), wpOps P ops (fun e a w => Q e a cs w) l a w → wpOpsS P ops Q l a cs w
  | [], a, w, h => h
  | i :: l, a, w, h => by
    simp only [wpOps] at h
    simp only [wpOpsS]
    cases ho : ops[i]? with
    | none =>
      simp only [ho] at h ⊢
      exact wpOpsS_of hout l a w h
    | some o =>
      simp only [ho] at h ⊢
      by_cases hw : Region.wanted o (yielded ops a.tmps) = true
      · rw [if_pos hw] at h ⊢
        rcases h with h | ⟨_, h⟩
        · unfold Oper.wp at h
          split
          · rename_i w' hr
            rw [hr] at h
            exact h.elim
          · exact upon_mono (fun a w h => wpOpsS_of hout l a w h) h
        · exact (hout h).elim
      · rw [if_neg hw] at h ⊢
        exact wpOpsS_of hout l _ w h

theorem recovers_spec {o : Oper} {t : Nat} (h : recovers o = some t) : ∃ ty pos aft, o = ⟨some t, .call ⟨.builtin .recover, #[], #[]⟩, ty, pos, aft, none⟩ := by
  obtain ⟨dst, op, ty, pos, aft, guard⟩ := o
  unfold recovers at h
  cases op <;> first | (cases h; done) | skip
  rename_i c
  obtain ⟨callee, args, tys⟩ := c
  cases callee <;> first | (cases h; done) | skip
  rename_i b
  cases b <;> first | (cases h; done) | skip
  simp only at h
  cases hc : (args.isEmpty && tys.isEmpty && guard.isNone) <;> rw [hc] at h
  · cases h
  · simp only [Bool.and_eq_true, Option.isNone_iff_eq_none] at hc
    obtain ⟨⟨h1, h2⟩, h3⟩ := hc
    have h1' : args = #[] := by simpa using h1
    have h2' : tys = #[] := by simpa using h2
    subst h1' h2' h3
    have h' : dst = some t := h
    subst h'
    exact ⟨_, _, _, rfl⟩

theorem putsOff_spec {o : Oper} {t : Nat} (h : putsOff o = some t) : ∃ ty pos aft, o = ⟨none, .defer ⟨.value (.tmp t), #[], #[]⟩, ty, pos, aft, none⟩ := by
  obtain ⟨dst, op, ty, pos, aft, guard⟩ := o
  unfold putsOff at h
  cases op <;> first | (cases h; done) | skip
  rename_i c
  obtain ⟨callee, args, tys⟩ := c
  cases callee <;> first | (cases h; done) | skip
  rename_i x
  cases x <;> first | (cases h; done) | skip
  rename_i t'
  simp only at h
  cases hc : (args.isEmpty && tys.isEmpty && guard.isNone && dst.isNone) <;> rw [hc] at h
  · cases h
  · simp only [Bool.and_eq_true, Option.isNone_iff_eq_none] at hc
    obtain ⟨⟨⟨h1, h2⟩, h3⟩, h4⟩ := hc
    have h1' : args = #[] := by simpa using h1
    have h2' : tys = #[] := by simpa using h2
    subst h1' h2' h3 h4
    cases h
    exact ⟨_, _, _, rfl⟩

/-- What is under way when the call is made. -/
def underWay (w : World) (own : Own) (u : Option D) (m : FrameMode) : Prop :=
  match u with
  | none => m = .returning
  | some x => ∃ v, m = .panicking [{ v := v, recovered := false }] ∧ RD w own v x

theorem evRec_ok {call : Nat → List V → St → Option (Out × St)} (hcall : CallOk cx call) (hn : noRoutines cx.P) (hmix : cx.P.follows .mixedOrders = true) {n g : Nat} {args : List V} {u : Option D} {m : FrameMode} {vs : List Value}
    (h : evRec cx call n g args σ u = some σ') (hi : Inv cx w σ μ) (hcan : Canon σ) (hall : RVs w σ μ vs args) (hm : underWay w (OwnOf σ μ) u m) :
    (∃ fn, cx.P.funcs[g]? = some fn ∧ fn.body.isNone = false) ∧ (∀ k o, getA σ' k = some o → k < σ.length ∧ ∀ i ∈ o.ids, i < σ.length) ∧
    CallsD cx.P g vs.toArray m w fun e m' w' => (∃ v, e = .returned v) ∧ settle m' = .returning ∧ ∃ μ', After cx w σ μ w' σ' μ' := by
  have hσ₀ : ∀ id o, getA σ id = some o → id < σ.length := fun id o ho => (hcan id o ho).1
  unfold evRec at h
  split at h
  · cases h
  rename_i fn hfn
  split at h
  case h_2 => cases h
  rename_i id ops c hb
  split at h
  case h_2 => cases h
  rename_i o r hops
  obtain ⟨t, hrc, h1⟩ := optK_some h
  clear h
  obtain ⟨hc, hev⟩ := must_some h1
  clear h1
  obtain ⟨ty, pos, aft, rfl⟩ := recovers_spec hrc
  rw [Bool.and_eq_true] at hc
  have ht : t < fn.ntmps := Nat.le_of_ble_eq_true hc.1
  have hres : fn.results = #[] := by simpa using hc.2
  let facts : Prop := ∀ k o, getA σ' k = some o → k < σ.length ∧ ∀ i ∈ o.ids, i < σ.length
  have hrun : CallsD cx.P g vs.toArray m w fun e m' w' => facts ∧ (∃ v, e = .returned v) ∧ settle m' = .returning ∧ ∃ μ', After cx w σ μ w' σ' μ' := by
    refine callsD_of_wpS hfn hb fun c₀ cs hmode => ?_
    have hsize : ops.size = r.length + 1 := by rw [← Array.length_toList, hops]; rfl
    have ho : ops[0]? = some ⟨some t, .call ⟨.builtin .recover, #[], #[]⟩, ty, pos, aft, none⟩ := by
      rw [← Array.getElem?_toList, hops]; rfl
    refine wpS_seq (wpS_region ?_)
    rw [show List.range ops.size = 0 :: (List.range ops.size).drop 1 by rw [hsize, List.range_succ_eq_map]; rfl]
    simp only [wpOpsS, ho]
    rw [if_pos (by simp [Region.wanted])]
    have hrec : (execOp ({ tmps := vs.toArray ++ Array.replicate (fn.ntmps - vs.toArray.size) undef, defers := [] } : Act).eval ⟨some t, .call ⟨.builtin .recover, #[], #[]⟩, ty, pos, aft, none⟩).run cx.P w = .ok .recover w := by
      simp [execOp, resolve, invoke, builtin, Sem.run_bind]
    rw [hrec]
    -- behind the recovery
    have behind : ∀ (m' : FrameMode) (v : Value), settle m' = .returning → RV w σ μ v (.d (recD u)) →
        wpOpsS cx.P ops (Exit.thenS (c.wpS cx.P (bodyPostS cx.P fn c₀ cs fun e m' w' => facts ∧ (∃ v, e = .returned v) ∧ settle m' = .returning ∧ ∃ μ', After cx w σ μ w' σ' μ'))
          (bodyPostS cx.P fn c₀ cs fun e m' w' => facts ∧ (∃ v, e = .returned v) ∧ settle m' = .returning ∧ ∃ μ', After cx w σ μ w' σ' μ')) ((List.range ops.size).drop 1)
          (({ tmps := vs.toArray ++ Array.replicate (fn.ntmps - vs.toArray.size) undef, defers := [] } : Act).put (some t) v) ({ c₀ with mode := m' } :: cs) w := by
      intro m' v hset hv
      -- the end
      have fin : ∀ (e : Ex) (fr : Fr) (τ : St), (match e with | .normal | .ret => leaveSt σ.length τ (List.range σ.length) | _ => none) = some σ' → ∀ (x : Exit) (a : Act) (w₁ : World) (μ₁ : Mu), exits w₁ τ μ₁ e x →
          Now cx fn.ntmps [] w σ μ a w₁ τ μ₁ fr → bodyPostS cx.P fn c₀ cs (fun e m' w' => facts ∧ (∃ v, e = .returned v) ∧ settle m' = .returning ∧ ∃ μ', After cx w σ μ w' σ' μ') x a ({ c₀ with mode := m' } :: cs) w₁ := by
        intro e fr τ h x a w₁ μ₁ hx hnow
        have ret : leaveSt σ.length τ (List.range σ.length) = some σ' → a.defers = [] ∧ ∃ u', ({ c₀ with mode := m' } : Frame) :: cs = { c₀ with mode := u' } :: cs ∧ ∃ v, (results fn a.tmps).run cx.P w₁ = .ok v w₁ ∧
            (facts ∧ (∃ q, Ending.returned v = .returned q) ∧ settle u' = .returning ∧ ∃ μ', After cx w σ μ w₁ σ' μ') := by
          intro h
          obtain ⟨g1, _, g3, _⟩ := left_all hσ₀ hnow.after (v := .tup []) (u := .tup []) (by rfl) h
          exact ⟨hnow.defers, m', rfl, _, results_run (us := []) (by rw [hres]; simp), g1, ⟨_, rfl⟩, hset, μ₁, g3⟩
        cases e with
        | normal => cases x <;> first | exact hx.elim | exact ret h
        | ret => cases x <;> first | exact hx.elim | exact ret h
        | _ => cases h
      refine wpOpsS_of ?_ _ _ _ ?_
      · rintro ⟨a', w', u', _, ⟨q, hq⟩, _⟩
        cases hq
      · have key := evOps_part (cx := cx) (nt := fn.ntmps) (ds := []) (w₀ := w) (σ₀ := σ) (μ₀ := μ) (m := σ.length) hcall hn (arr := ops) (tl := []) (r := σ')
          (Q := fun e a wq => Exit.thenS (c.wpS cx.P (bodyPostS cx.P fn c₀ cs fun e m' w' => facts ∧ (∃ v, e = .returned v) ∧ settle m' = .returning ∧ ∃ μ', After cx w σ μ w' σ' μ'))
            (bodyPostS cx.P fn c₀ cs fun e m' w' => facts ∧ (∃ v, e = .returned v) ∧ settle m' = .returning ∧ ∃ μ', After cx w σ μ w' σ' μ') e a ({ c₀ with mode := m' } :: cs) wq)
          ?_ ?_ r 1 (by rw [hops]; simp) _ _ hev (({ tmps := vs.toArray ++ Array.replicate (fn.ntmps - vs.toArray.size) undef, defers := [] } : Act).put (some t) v) w μ ?_
        · exact key
        · intro fr τ h a w₁ μ₁ hnow i hi
          have : ops.size ≤ i := by have := congrArg List.length hi; simp at this; omega
          rw [List.drop_eq_nil_of_le (by simpa using this)]
          show c.wpS _ _ _ _ _
          exact wpS_of_wp (evCode_ok (w₀ := w) (μ₀ := μ) hcall hn hmix hσ₀ c h (fun e fr τ hK x a w₂ μ₂ hx hnow => fin e fr τ hK x a w₂ μ₂ hx hnow) hnow)
        · intro v fr τ h; cases h
        · refine ⟨After.refl hi, ?_, ?_, rfl⟩
          · have base : FR w σ μ (vs.toArray ++ Array.replicate (fn.ntmps - vs.toArray.size) undef) (numbered 0 args) := by
              intro s q hs
              obtain ⟨i, rfl, hq⟩ := getA_numbered 0 args s q hs
              rw [Nat.zero_add]
              have hlt : i < vs.length := by rw [hall.1]; exact (List.getElem?_eq_some_iff.1 hq).1
              have : (vs.toArray ++ Array.replicate (fn.ntmps - vs.toArray.size) undef).getD i undef = vs[i] := by
                simp [Array.getD_eq_getD_getElem?, Array.getElem?_append, hlt]
              rw [this]
              exact hall.2 i _ q (by simp) hq
            exact FR.put (dst := some t) (nt := fn.ntmps) (a := { tmps := vs.toArray ++ Array.replicate (fn.ntmps - vs.toArray.size) undef, defers := [] }) base hc.1 (by simp; omega) hv
          · rw [put_size]; simp; omega
    cases u with
    | none =>
      have hmr : c₀.mode = .returning := hmode.trans hm
      simp only [recoverD, hmr]
      have := behind .returning .nilIface rfl (.d _ _ .nilIface)
      rw [show ({ c₀ with mode := .returning } : Frame) = c₀ by cases c₀; simp only at hmr; rw [hmr]] at this
      exact this
    | some x =>
      obtain ⟨v, hmv, hv⟩ := hm
      have hmr : c₀.mode = .panicking [{ v := v, recovered := false }] := hmode.trans hmv
      simp only [recoverD, hmr]
      exact behind _ v (by simp [settle]) (.d _ _ hv)
  obtain ⟨e, u', w', fr, ⟨hfacts, _⟩, _⟩ := hrun { (default : Frame) with mode := m } [] rfl
  exact ⟨⟨fn, hfn, by rw [hb]; rfl⟩, hfacts, hrun.mono fun e u' w' h => h.2⟩

end
end Go.Vai
end

section
namespace Go.Vai

section
variable {R : Type} {cx : Cx} {m nt : Nat} {w w₀ : World} {σ σ' σ₀ : St} {μ μ₀ : Mu}

theorem callD_ok {call : Nat → List V → St → Option (Out × St)} (hcall : CallOk cx call) (hn : noRoutines cx.P) (hmix : cx.P.follows .mixedOrders = true) {n g : Nat} {cap : List V} {u : Option D} {um : FrameMode} {vs : List Value}
    {K : De → Option R} {r : R} (h : callD cx (evRec cx call n) σ g cap u K = some r) (hi : Inv cx w σ μ) (hv : RVs w σ μ vs cap) (hm : underWay w (OwnOf σ μ) u um) :
    ∃ δ, K δ = some r ∧ (∃ fn, cx.P.funcs[g]? = some fn ∧ fn.body.isNone = false) ∧
      CallsD cx.P g vs.toArray um w fun e m' w' => (∃ v, e = .returned v) ∧ settle m' = .returning ∧ ∃ μ', After cx w σ μ w' (applyDe σ δ) μ' := by
  unfold callD at h
  simp only at h
  generalize hren : reach σ 1000 (V.idsL cap) [] = ren at h
  obtain ⟨hc, h⟩ := must_some h
  obtain ⟨hnd, hargs, hcl⟩ := closedIn_spec hc
  obtain ⟨hlen, hinv, hcanon, hvs, hargs', hfull, hown⟩ := call_in hi hv hnd hargs hcl
  split at h
  case h_2 => cases h
  rename_i σ' hrec
  obtain ⟨hfn, hσ', hrun⟩ := evRec_ok hcall hn hmix hrec hinv hcanon hvs (by rw [hown]; exact hm)
  rw [hlen] at hσ'
  obtain ⟨δ, h1, h2, h3⟩ := backOb_ok ren 0 h
  refine ⟨δ, h1, hfn, hrun.mono fun e m' w' ⟨he, hs, μ1, haf⟩ => ⟨he, hs, _, (call_fin hi hnd hcl h2 h3 hσ' haf).1⟩⟩

/-- The end, where one call was put off. -/
theorem endD_ok {call : Nat → List V → St → Option (Out × St)} (hcall : CallOk cx call) (hn : noRoutines cx.P) (hmix : cx.P.follows .mixedOrders = true) (hσ₀ : ∀ id o, getA σ id = some o → id < σ.length)
    {n g f : Nat} {cap : List V} {cs : Array Value} {fn : Func} {a : Act} {fr : Fr} {τ : St} {w₁ : World} {μ₁ : Mu} {out : Out} {e : Ex} {x : Exit} (hx : exits w₁ τ μ₁ e x)
    (haf : After cx w σ μ w₁ τ μ₁) (hf : FR w₁ τ μ₁ a.tmps fr) (hd : a.defers = [{ target := .fn (.func g) cs, args := #[] }]) (hcap : RVs w₁ τ μ₁ cs.toList cap)
    (h : endD cx (evRec cx call n) f σ.length fn.results.toList g cap e fr τ = some (out, σ')) : bodyPostD cx.P fn (Fin cx w σ μ out σ') x a w₁ := by
  have go : ∀ (u : Option D) (um : FrameMode), um ≠ .run → underWay w₁ (OwnOf τ μ₁) u um → callD cx (evRec cx call n) τ g cap u (fun δ => endK cx f σ.length fn.results.toList .ret fr (applyDe τ δ)) = some (out, σ') →
      Leaves cx.P fn a.tmps (Fin cx w σ μ out σ') a.defers um w₁ := by
    intro u um hum hu h
    obtain ⟨δ, hK, ⟨fn', hfn, hbody⟩, hcalls⟩ := callD_ok hcall hn hmix h haf.inv hcap hu
    rw [hd]
    refine leaves_cons (f := g) (args := (#[] ++ cs)) hum ?_ ?_
    · show (callFunc g (#[] ++ cs)).run cx.P w₁ = _
      exact run_callFunc hn hfn hbody
    · rw [show (#[] ++ cs) = cs.toList.toArray by simp]
      refine hcalls.mono fun e m' w' ⟨⟨v, he⟩, hs, μ', haf'⟩ => ?_
      subst he
      show Leaves _ _ _ _ [] (settle m') w'
      rw [hs]
      exact end_ret hσ₀ (haf.trans haf') (haf'.frs haf.inv hf) hK
  unfold endD at h
  split at h
  · cases x <;> first | exact hx.elim | exact go none .returning (by simp) rfl h
  · cases x <;> first | exact hx.elim | exact go none .returning (by simp) rfl h
  · rename_i t y
    cases x <;> first | exact hx.elim | skip
    rename_i chain
    obtain ⟨v, rfl, hv⟩ := hx
    cases hv with | d _ _ hv => ?_
    exact go (some (.iface t y)) (.panicking [{ v := v, recovered := false }]) (by simp) ⟨v, rfl, hv⟩ h
  · cases h

theorem splitD_spec : ∀ (c : Code) {as : List Code} {id : Nat} {ops : Array Oper} {t : Nat} {b : Code}, splitD c = some (as, id, ops, t, b) →
    (∃ o, ops.toList.getLast? = some o ∧ putsOff o = some t) ∧ c = as.foldr Code.seq (.seq (.region id ops false) b) := by
  intro c
  induction c with
  | seq x y ihx ihy =>
    intro as id ops t b h
    have other : (match splitD y with | some (l, q) => some (x :: l, q) | none => none) = some (as, id, ops, t, b) →
        (∃ o, ops.toList.getLast? = some o ∧ putsOff o = some t) ∧ Code.seq x y = as.foldr Code.seq (.seq (.region id ops false) b) := by
      intro h
      cases hs : splitD y with
      | none => rw [hs] at h; cases h
      | some p =>
        obtain ⟨l, id', ops', t', b'⟩ := p
        rw [hs] at h
        cases h
        have ih := ihy hs
        exact ⟨ih.1, by rw [List.foldr_cons, ← ih.2]⟩
    cases x with
    | region id' ops' draw =>
      cases draw with
      | true => exact other h
      | false =>
        simp only [splitD] at h
        cases hl : ops'.toList.getLast? with
        | none => rw [hl] at h; exact other h
        | some o =>
          rw [hl] at h
          simp only at h
          cases hp : putsOff o with
          | none => rw [hp] at h; exact other h
          | some t' => rw [hp] at h; cases h; exact ⟨⟨o, hl, hp⟩, rfl⟩
    | _ => exact other h
  | _ => intro as id ops t b h; cases h

theorem evPre_ok {call : Nat → List V → St → Option (Out × St)} (hcall : CallOk cx call) (hn : noRoutines cx.P) (hmix : cx.P.follows .mixedOrders = true) (hσ₀ : ∀ id o, getA σ₀ id = some o → id < m) {f n : Nat} {ds : List Deferred} {tl : Code}
    {K : Ex → Fr → St → Option R} {r : R} {Q : Exit → Act → World → Prop}
    (hN : ∀ fr σ, K .normal fr σ = some r → ∀ a w μ, Now cx nt ds w₀ σ₀ μ₀ a w σ μ fr → tl.wp cx.P Q a w)
    (hQ : ∀ e fr σ, e ≠ .normal → K e fr σ = some r → ∀ x a w μ, exits w σ μ e x → Now cx nt ds w₀ σ₀ μ₀ a w σ μ fr → Q x a w) :
    ∀ (as : List Code) {fr : Fr} {σ : St}, evPre cx f m nt call n as fr σ K = some r → ∀ {a w μ}, Now cx nt ds w₀ σ₀ μ₀ a w σ μ fr → (as.foldr Code.seq tl).wp cx.P Q a w
  | [], fr, σ, h, a, w, μ, hnow => hN _ _ h _ _ _ hnow
  | c :: as, fr, σ, h, a, w, μ, hnow => by
    simp only [evPre] at h
    refine wp_seq (evCode_ok hcall hn hmix hσ₀ c h (fun e fr σ hK x a w μ hx hnow => ?_) hnow)
    cases e with
    | normal => cases x <;> first | exact evPre_ok hcall hn hmix hσ₀ hN hQ as hK hnow | exact hx.elim
    | exit i => cases x <;> first | exact hQ _ _ _ (by simp) hK _ _ _ μ hx hnow | exact hx.elim
    | goto l => cases x <;> first | exact hQ _ _ _ (by simp) hK _ _ _ μ hx hnow | exact hx.elim
    | ret => cases x <;> first | exact hQ _ _ _ (by simp) hK _ _ _ μ hx hnow | exact hx.elim
    | pan v => cases x <;> first | exact hQ _ _ _ (by simp) hK _ _ _ μ hx hnow | exact hx.elim

theorem evDfr_ok {call : Nat → List V → St → Option (Out × St)} (hcall : CallOk cx call) (hn : noRoutines cx.P) (hmix : cx.P.follows .mixedOrders = true) (hσ₀ : ∀ id o, getA σ id = some o → id < σ.length)
    {n f : Nat} {fn : Func} {c : Code} {fr : Fr} {a : Act} {out : Out} (hnow : Now cx fn.ntmps [] w σ μ a w σ μ fr)
    (h : evDfr cx f σ.length fn.ntmps fn.results.toList call n c fr σ = some (out, σ')) : c.wp cx.P (bodyPostD cx.P fn (Fin cx w σ μ out σ')) a w := by
  unfold evDfr at h
  split at h
  · cases h
  rename_i as id ops t b hsp
  obtain ⟨⟨o, hl, hp⟩, rfl⟩ := splitD_spec c hsp
  obtain ⟨ty, pos, aft, rfl⟩ := putsOff_spec hp
  refine evPre_ok hcall hn hmix hσ₀ (fun fr τ hK a w₁ μ₁ hnow => ?_) (fun e fr τ he hK x a w₁ μ₁ hx hnow => ?_) as h hnow
  · simp only at hK
    have hne : ops.toList ≠ [] := by intro e; rw [e] at hl; cases hl
    have hops : ops.toList = ops.toList.dropLast ++ [⟨none, .defer ⟨.value (.tmp t), #[], #[]⟩, ty, pos, aft, none⟩] := by
      have h1 := List.dropLast_concat_getLast hne
      rw [List.getLast?_eq_some_getLast hne] at hl
      rw [Option.some.inj hl] at h1
      exact h1.symm
    refine wp_seq (wp_region ?_)
    have key := evOps_part (cx := cx) (nt := fn.ntmps) (ds := []) (w₀ := w) (σ₀ := σ) (μ₀ := μ) (m := σ.length) hcall hn (arr := ops) (tl := [⟨none, .defer ⟨.value (.tmp t), #[], #[]⟩, ty, pos, aft, none⟩])
      (Q := Exit.then (b.wp cx.P (bodyPostD cx.P fn (Fin cx w σ μ out σ'))) (bodyPostD cx.P fn (Fin cx w σ μ out σ'))) ?_ ?_ ops.toList.dropLast 0 (by rw [List.drop_zero]; exact hops) fr τ hK a w₁ μ₁ hnow
    · simpa using key
    · intro fr τ hK a w₁ μ₁ hnow i hi
      simp only at hK
      obtain ⟨fv, hfv, hK⟩ := optK_some hK
      split at hK
      case h_2 => cases hK
      rename_i g cap
      obtain ⟨htidy, hK⟩ := must_some hK
      have hsize : ops.size = i + 1 := by have := congrArg List.length hi; simp at this; omega
      have ho : ops[i]? = some ⟨none, .defer ⟨.value (.tmp t), #[], #[]⟩, ty, pos, aft, none⟩ := by
        have := congrArg (·[0]?) hi
        simpa using this
      rw [show (List.range ops.size).drop i = [i] by rw [hsize, List.drop_eq_getElem_cons (by simp)]; simp]
      simp only [wpOps, ho]
      rw [if_pos (by simp [Region.wanted])]
      left
      have hr := hnow.fr t _ hfv
      generalize hq : a.tmps.getD t undef = q at hr
      cases hr with | func _ cs _ hcl hch => ?_
      have hrun : (execOp a.eval ⟨none, .defer ⟨.value (.tmp t), #[], #[]⟩, ty, pos, aft, none⟩).run cx.P w₁ = .ok (.defer { target := .fn (.func g) cs, args := #[] }) w₁ := by
        have he : a.eval (.tmp t) = .func (.func g) #[] cs := by simpa [Act.eval] using hq
        simp only [execOp, resolve, he, Deferred.ofValue]
        simp [Sem.run_bind]
      unfold Oper.wp
      rw [hrun, Oper.upon_defer]
      have hcap : RVs w₁ τ μ₁ cs.toList cap := ⟨by simpa using hcl, fun i x y hx hy => hch i x y (by simpa using hx) hy⟩
      have hinv := hnow.after.inv
      refine evCode_ok' (w₀ := w₁) (σ₀ := τ) (μ₀ := μ₁) (ds := [{ target := .fn (.func g) cs, args := #[] }]) (nt := fn.ntmps) hcall hn hmix b (fun ht => by rw [ht] at htidy; cases htidy) hK (fun e fr τ' hK x a w₂ μ₂ hx hnow' => ?_) (μ := μ₁)
        ⟨After.refl hinv, hnow.fr, hnow.size, by show _ :: a.defers = _; rw [hnow.defers]⟩
      exact endD_ok hcall hn hmix hσ₀ hx (hnow.after.trans hnow'.after) hnow'.fr hnow'.defers (hcap.map fun v x _ hv => hnow'.after.rv hinv hv) hK
    · intro v fr τ hK x a w₁ μ₁ hx hnow
      cases x <;> first | exact hx.elim | skip
      exact endK_ok (e := .pan v) hσ₀ hx hnow hK
  · cases e with
    | normal => exact absurd rfl he
    | _ => exact endK_ok hσ₀ hx hnow hK

theorem evFun_ok (hn : noRoutines cx.P) (hmix : cx.P.follows .mixedOrders = true) (hnat : CallOk cx cx.nat) : ∀ n, CallOk cx (evFun cx n) := by
  intro n
  induction n with
  | zero => intro f args σ out σ' h; cases h
  | succ n ih =>
    intro f args σ out σ' h w μ vs hi hcan hids hall hvs
    simp only [evFun, evWith] at h
    split at h
    · rename_i r hr
      cases h
      exact hnat f args σ out σ' hr w μ vs hi hcan hids hall hvs
    split at h
    · cases h
    rename_i fn hfn
    split at h
    · cases h
    rename_i c hc
    have hσ₀ : ∀ id o, getA σ id = some o → id < σ.length := fun id o ho => (hcan id o ho).1
    have hbody : fn.body.isNone = false := by rw [hc]; rfl
    have hbegin : Now cx fn.ntmps [] w σ μ { tmps := vs.toArray ++ Array.replicate (fn.ntmps - vs.toArray.size) undef, defers := [] } w σ μ (numbered 0 args) := by
      refine ⟨After.refl hi, ?_, ?_, rfl⟩
      · intro t v ht
        obtain ⟨i, rfl, hv⟩ := getA_numbered 0 args t v ht
        rw [Nat.zero_add]
        have hlt : i < vs.length := by rw [hvs.1]; exact (List.getElem?_eq_some_iff.1 hv).1
        have : (vs.toArray ++ Array.replicate (fn.ntmps - vs.toArray.size) undef).getD i undef = vs[i] := by
          simp [Array.getD_eq_getD_getElem?, Array.getElem?_append, hlt]
        rw [this]
        exact hvs.2 i _ v (by simp) hv
      · simp; omega
    have hrun : Calls cx.P f vs.toArray w (Fin cx w σ μ out σ') := by
      cases hd : cx.dfr f <;> rw [hd] at h
      · exact calls_of_wp_defers hfn hc (evCode_ok (w₀ := w) (μ₀ := μ) (nt := fn.ntmps) ih hn hmix hσ₀ c h (fun e fr τ hK x a w₁ μ₁ hx hnow => endK_ok hσ₀ hx hnow hK) hbegin)
      · exact calls_of_wp_defers hfn hc (evDfr_ok ih hn hmix hσ₀ hbegin h)
    obtain ⟨e, w', fr, ⟨hfacts, _⟩, _⟩ := hrun []
    exact ⟨⟨fn, hfn, hbody⟩, hfacts.1, hfacts.2, hrun.mono fun e w' h => by
      obtain ⟨μ', haf, hm⟩ := h.2
      exact ⟨μ', haf, by cases out <;> cases e <;> exact hm⟩⟩

end
end Go.Vai
end

section
namespace Go.Vai
open Go.ChangeShapes Go.WideShapes Go.ChangeAt Go.RowKit

section
variable {H : Type}

def noOwn : Own := fun _ _ => False

def offsOk (P : Program) : Nat → List Field → Nat → Bool
  | off, [], n => Nat.beq off n
  | off, f :: fs, n => Nat.beq f.offset off && offsOk P (off + P.cellsOf f.type) fs n

def plainFields (r : TypeId → DataW H → Option (List D)) : List Field → List (DataW H) → Option (List D)
  | [], [] => some []
  | f :: fs, p :: ps => (match r f.type p, plainFields r fs ps with | some a, some b => some (a ++ b) | _, _ => none)
  | _, _ => none

def plainParts (r : DataW H → Option (List D)) : List (DataW H) → Option (List D)
  | [] => some []
  | p :: ps => (match r p, plainParts r ps with | some a, some b => some (a ++ b) | _, _ => none)

def elemOf (agg : Bool) (cs : List D) : D := bif agg then .agg cs else cs.headD .nilIface

def plainEls (agg : Bool) (r : DataW H → Option (List D)) : List (DataW H) → Option (List D)
  | [] => some []
  | p :: ps => (match r p, plainEls agg r ps with | some a, some b => some (elemOf agg a :: b) | _, _ => none)

/-- A reading, as the interpreter's data, cell by cell. -/
def plainD (P : Program) : Nat → TypeId → DataW H → Option (List D)
  | 0, _, _ => none
  | n + 1, t, d =>
    match P.underlying t, d with
    | some .bool, .lit (.bool b) => some [.bool b]
    | some (.int k), .lit (.int _ z) => some [.int k z]
    | some .string, .lit (.string s) => some [.str s]
    | some (.pointer _), .nil => some [.nilptr]
    | some (.slice e), .nil => some [.sl (P.cellsOf e) []]
    | some (.slice e), .slice els _ => bif Nat.beq (P.cellsOf e) 0 then none else (plainEls (aggTy P e) (plainD P n e) els).map fun l => [.sl (P.cellsOf e) l]
    | some (.struct fs), .agg ps => bif offsOk P 0 fs.toList (P.cellsOf t) then plainFields (plainD P n) fs.toList ps else none
    | some (.array m e), .agg ps => bif Nat.beq ps.length m && Nat.beq (m * P.cellsOf e) (P.cellsOf t) then plainParts (plainD P n e) ps else none
    | _, _ => none

variable {enc : TypeId × Value → H} {P : Program} {w : World} {base : Nat} {spare : Nat → Bool} {held : Bool}

theorem RDs.append {own : Own} {vs ws : List Value} {l k : List D} (h : RDs w own vs l) (h' : RDs w own ws k) : RDs w own (vs ++ ws) (l ++ k) := by
  refine ⟨by simp [h.1, h'.1], fun i x y hx hy => ?_⟩
  by_cases hi : i < vs.length
  · rw [List.getElem?_append_left hi] at hx
    rw [List.getElem?_append_left (by rw [← h.1]; exact hi)] at hy
    exact h.2 i x y hx hy
  · rw [List.getElem?_append_right (by omega)] at hx
    rw [List.getElem?_append_right (by rw [← h.1]; omega)] at hy
    rw [← h.1] at hy
    exact h'.2 _ x y hx hy

theorem RDs.one {own : Own} {v : Value} {d : D} (h : RD w own v d) : RDs w own [v] [d] := ⟨rfl, fun i x y hx hy => by
  cases i with
  | zero => simp at hx hy; subst hx; subst hy; exact h
  | succ i => simp at hx⟩

/-- A value of a type that is no struct or array is one cell. -/
theorem plain_one {n : Nat} {t : TypeId} {d : DataW H} {ds : List D} (ha : aggTy P t = false) (h : plainD P n t d = some ds) : ∃ y, ds = [y] ∧ y.cells = [y] := by
  cases n with
  | zero => cases h
  | succ n =>
    unfold aggTy at ha
    simp only [plainD] at h
    split at h <;> first | (cases h; exact ⟨_, rfl, rfl⟩) | skip
    · cases hb : Nat.beq (P.cellsOf _) 0 <;> rw [hb] at h
      · obtain ⟨l, _, rfl⟩ := Option.map_eq_some_iff.1 h
        exact ⟨_, rfl, rfl⟩
      · cases h
    · rename_i hu; rw [hu] at ha; cases ha
    · rename_i hu; rw [hu] at ha; cases ha
    · cases h

theorem plainFields_ok {n : Nat} {m : Nat} {cs : List Value} (hp : ∀ {t cs x ds}, DataW.trod enc P w base spare held m t cs = some x → plainD P n t x.1 = some ds → RDs w noOwn cs ds ∧ ∀ c ∈ cs, c.oneCell' = true) :
    ∀ (fs : List Field) (xs : List (DataW H × List MemPlace)) (off : Nat) (ds : List D), xs.length = fs.length → off ≤ cs.length → offsOk P off fs cs.length = true →
      (∀ (i : Nat) f, fs[i]? = some f → DataW.trod enc P w base spare held m f.type ((cs.drop f.offset).take (P.cellsOf f.type)) = xs[i]?) →
      plainFields (plainD P n) fs (xs.map (·.1)) = some ds → RDs w noOwn (cs.drop off) ds ∧ ∀ c ∈ cs.drop off, c.oneCell' = true
  | [], xs, off, ds, hl, hle, ho, _, h => by
    obtain rfl := List.eq_nil_of_length_eq_zero hl
    simp only [List.map_nil, plainFields] at h
    cases h
    have : off = cs.length := Nat.eq_of_beq_eq_true ho
    rw [List.drop_eq_nil_of_le (by omega)]
    exact ⟨⟨rfl, by simp⟩, by simp⟩
  | f :: fs, xs, off, ds, hl, hle, ho, ht, h => by
    match xs, hl with
    | x :: xs, hl =>
      simp only [List.map_cons, plainFields] at h
      split at h
      · rename_i a b h1 h2
        cases h
        simp only [offsOk, Bool.and_eq_true] at ho
        obtain ⟨ho1, ho2⟩ := ho
        have ho1 := Nat.eq_of_beq_eq_true ho1
        have hx := ht 0 f rfl
        simp only [List.getElem?_cons_zero] at hx
        rw [ho1] at hx
        obtain ⟨g1, g2⟩ := hp hx h1
        have hle2 : off + P.cellsOf f.type ≤ cs.length := by
          -- the offsets rise to the end
          have key : ∀ (l : List Field) (o : Nat), offsOk P o l cs.length = true → o ≤ cs.length := by
            intro l
            induction l with
            | nil => intro o ho; exact Nat.le_of_eq (Nat.eq_of_beq_eq_true ho)
            | cons f l ih =>
              intro o ho
              simp only [offsOk, Bool.and_eq_true] at ho
              have := ih _ ho.2
              omega
          exact key fs _ ho2
        obtain ⟨k1, k2⟩ := plainFields_ok hp fs xs _ b (by simpa using hl) hle2 ho2 (fun i f' hf' => by simpa using ht (i + 1) f' (by simpa using hf')) h2
        have hsplit : cs.drop off = (cs.drop off).take (P.cellsOf f.type) ++ cs.drop (off + P.cellsOf f.type) := by
          rw [← List.drop_drop, List.take_append_drop]
        rw [hsplit]
        exact ⟨g1.append k1, fun c hc => (List.mem_append.1 hc).elim (g2 c) (k2 c)⟩
      · cases h

theorem plainParts_ok {n m : Nat} {e : TypeId} {cs : List Value} (hp : ∀ {t cs x ds}, DataW.trod enc P w base spare held m t cs = some x → plainD P n t x.1 = some ds → RDs w noOwn cs ds ∧ ∀ c ∈ cs, c.oneCell' = true) :
    ∀ (xs : List (DataW H × List MemPlace)) (k : Nat) (ds : List D), (k + xs.length) * P.cellsOf e = cs.length →
      (∀ (i : Nat), i < xs.length → DataW.trod enc P w base spare held m e ((cs.drop ((k + i) * P.cellsOf e)).take (P.cellsOf e)) = xs[i]?) →
      plainParts (plainD P n e) (xs.map (·.1)) = some ds → RDs w noOwn (cs.drop (k * P.cellsOf e)) ds ∧ ∀ c ∈ cs.drop (k * P.cellsOf e), c.oneCell' = true
  | [], k, ds, hl, _, h => by
    simp only [List.map_nil, plainParts] at h
    cases h
    rw [List.drop_eq_nil_of_le (by simp at hl; omega)]
    exact ⟨⟨rfl, by simp⟩, by simp⟩
  | x :: xs, k, ds, hl, ht, h => by
    simp only [List.map_cons, plainParts] at h
    split at h
    · rename_i a b h1 h2
      cases h
      have hx := ht 0 (by simp)
      simp only [List.getElem?_cons_zero, Nat.add_zero] at hx
      obtain ⟨g1, g2⟩ := hp hx h1
      obtain ⟨k1, k2⟩ := plainParts_ok hp xs (k + 1) b (by rw [← hl]; congr 1; simp; omega) (fun i hi => by
        have := ht (i + 1) (by simpa using hi)
        rw [show k + 1 + i = k + (i + 1) by omega]
        simpa using this) h2
      have hsplit : cs.drop (k * P.cellsOf e) = (cs.drop (k * P.cellsOf e)).take (P.cellsOf e) ++ cs.drop ((k + 1) * P.cellsOf e) := by
        rw [Nat.succ_mul, ← List.drop_drop, List.take_append_drop]
      rw [hsplit]
      exact ⟨g1.append k1, fun c hc => (List.mem_append.1 hc).elim (g2 c) (k2 c)⟩
    · cases h

theorem plainEls_spec {agg : Bool} {r : DataW H → Option (List D)} : ∀ {ps : List (DataW H)} {l : List D}, plainEls agg r ps = some l → l.length = ps.length ∧ ∀ (i : Nat) p y, ps[i]? = some p → l[i]? = some y → ∃ ds, r p = some ds ∧ y = elemOf agg ds
  | [], l, h => by simp only [plainEls] at h; cases h; simp
  | p :: ps, l, h => by
    simp only [plainEls] at h
    split at h
    · rename_i a b h1 h2
      cases h
      obtain ⟨g1, g2⟩ := plainEls_spec h2
      refine ⟨by simp [g1], fun i q y hq hy => ?_⟩
      cases i with
      | zero => simp at hq hy; subst hq; subst hy; exact ⟨a, h1, rfl⟩
      | succ i => exact g2 i q y (by simpa using hq) (by simpa using hy)
    · cases h

/-- What is read of memory is plain data there. -/
theorem trod_rd : ∀ (n m : Nat) (t : TypeId) (cs : List Value) (x : DataW H × List MemPlace) (ds : List D), DataW.trod enc P w base spare held m t cs = some x → plainD P n t x.1 = some ds →
    RDs w noOwn cs ds ∧ ∀ c ∈ cs, c.oneCell' = true := by
  intro n
  induction n with
  | zero => intro m t cs x ds _ h; cases h
  | succ n ih =>
    intro m t cs x ds hx h
    obtain ⟨d, pl⟩ := x
    simp only [plainD] at h
    split at h
    · rename_i b hu
      obtain ⟨b', h1, h2⟩ := DataW.trod_bool hu hx
      subst h1; cases h2; cases h
      exact ⟨RDs.one (.bool _), by simp [Value.oneCell']⟩
    · rename_i k k' z hu
      obtain ⟨z', h1, h2, _⟩ := DataW.trod_int hu hx
      subst h1; cases h2; cases h
      exact ⟨RDs.one (.int _ _), by simp [Value.oneCell']⟩
    · rename_i s hu
      obtain ⟨s', h1, h2, _⟩ := DataW.trod_string hu hx
      subst h1; cases h2; cases h
      refine ⟨RDs.one ?_, by simp [Value.oneCell']⟩
      have : s' = strB s'.data.toList := by simp [strB]
      conv => arg 3; rw [this]
      exact .str _
    · rename_i e hu
      rcases DataW.trod_pointer hu hx with ⟨h1, h2⟩ | ⟨a, cs', y, n', _, h1, h2, _⟩
      · subst h1; cases h
        exact ⟨RDs.one .nilptr, by simp [Value.oneCell']⟩
      · cases h2
    · rename_i e hu
      rcases DataW.trod_slice hu hx with ⟨h1, h2⟩ | ⟨a, len, cap, elems, rest, n', _, h1, h2, _⟩
      · subst h1; cases h
        exact ⟨RDs.one (.sl0 none 0 _), by simp [Value.oneCell']⟩
      · cases h2
    · rename_i e els sp hu
      cases hb : Nat.beq (P.cellsOf e) 0 <;> rw [hb] at h
      · rw [cond_false] at h
        obtain ⟨l, hl, rfl⟩ := Option.map_eq_some_iff.1 h
        rcases DataW.trod_slice hu hx with ⟨h1, h2⟩ | ⟨a, len, cap, elems, rest, n', _, h1, h2, hba, hle, _, hlen, hel, _⟩
        · cases h2
        · subst h1
          simp only [Prod.mk.injEq, DataW.slice.injEq] at h2
          obtain ⟨⟨rfl, rfl⟩, _⟩ := h2
          have hc0 : P.cellsOf e ≠ 0 := fun e0 => by rw [e0] at hb; cases hb
          refine ⟨RDs.one ?_, by simp [Value.oneCell']⟩
          obtain ⟨hl1, hl2⟩ := plainEls_spec hl
          simp only [List.length_map, hlen] at hl1
          by_cases h0 : len = 0
          · subst h0
            obtain rfl := List.eq_nil_of_length_eq_zero hl1
            exact .sl0 (some a) cap _
          · have hpos : 0 < P.cellsOf e := by omega
            have hcells : ∀ i, i < len → ∃ cs' y, w.cells? base (a.add (i * P.cellsOf e)) (P.cellsOf e) = some cs' ∧ DataW.trod enc P w base spare held n' e cs' = some y ∧ elems[i]? = some y := by
              intro i hi
              have h1 := hel i hi
              obtain ⟨y, hy⟩ := getSome (l := elems) (i := i) (by omega)
              rw [hy] at h1
              obtain ⟨cs', h2, h3⟩ := Option.bind_eq_some_iff.1 h1
              exact ⟨cs', y, h2, h3, hy⟩
            have hspot : a.spot = none := by
              obtain ⟨cs', y, h1, _, _⟩ := hcells 0 (by omega)
              obtain ⟨_, h2, h3⟩ := World.cells?_some h1
              have h4 := h3 0 hpos
              obtain ⟨c, hc⟩ := getSome (l := cs') (i := 0) (by omega)
              rw [hc] at h4
              have h5 := World.cell?_spot h4
              simpa [Addr.add] using h5
            obtain ⟨b, o, spot⟩ := a
            simp only at hspot
            subst hspot
            have hadd : ∀ i, (⟨b, o, none⟩ : Addr).add i = ⟨b, o + i, none⟩ := fun i => by
              unfold Addr.add
              split
              · rename_i h; subst h; rfl
              · rfl
            have helem : ∀ i y, l[i]? = some y → ∃ cs' ds', i < len ∧ cs'.length = P.cellsOf e ∧ (∀ j, j < P.cellsOf e → w.cell? ⟨b, o + (i * P.cellsOf e + j), none⟩ = cs'[j]?) ∧ RDs w noOwn cs' ds' ∧ (∀ c ∈ cs', c.oneCell' = true) ∧ y.cells = ds' := by
              intro i y hy
              have hi : i < len := by have := (List.getElem?_eq_some_iff.1 hy).1; omega
              obtain ⟨cs', z, h1, h2, h3⟩ := hcells i hi
              obtain ⟨ds', h4, h5⟩ := hl2 i z.1 y (by simp [h3]) hy
              obtain ⟨_, h6, h7⟩ := World.cells?_some h1
              obtain ⟨h8, h9⟩ := ih n' e cs' z ds' h2 h4
              refine ⟨cs', ds', hi, h6, fun j hj => ?_, h8, h9, ?_⟩
              · have := h7 j hj
                rw [hadd, show (⟨b, o + i * P.cellsOf e, none⟩ : Addr).add j = ⟨b, o + i * P.cellsOf e + j, none⟩ by
                  unfold Addr.add
                  split
                  · rename_i h; subst h; rfl
                  · rfl] at this
                rw [← Nat.add_assoc]
                exact this
              · rw [h5]
                cases ha : aggTy P e
                · obtain ⟨y', h10, h11⟩ := plain_one ha h4
                  rw [h10]
                  exact h11
                · rfl
            refine .sl b o len cap (P.cellsOf e) l (fun k => (w.cell? ⟨b, o + k, none⟩).getD undef) hl1.symm hle (fun y hy => ?_) (fun k hk => ?_) (fun i j y c hy hc => ?_)
            · obtain ⟨i, hi⟩ := List.getElem?_of_mem hy
              obtain ⟨cs', ds', _, h2, _, h4, _, h6⟩ := helem i y hi
              rw [h6, ← h4.1, h2]
            · have hi : k / P.cellsOf e < len := Nat.div_lt_of_lt_mul (by rw [Nat.mul_comm]; exact hk)
              obtain ⟨y, hy⟩ := getSome (l := l) (i := k / P.cellsOf e) (by omega)
              obtain ⟨cs', ds', _, h2, h3, h4, h5, h6⟩ := helem _ y hy
              have hj : k % P.cellsOf e < P.cellsOf e := Nat.mod_lt _ hpos
              have hk' : k / P.cellsOf e * P.cellsOf e + k % P.cellsOf e = k := by rw [Nat.mul_comm]; exact Nat.div_add_mod k _
              have h7 := h3 _ hj
              rw [hk'] at h7
              obtain ⟨c, hc⟩ := getSome (l := cs') (i := k % P.cellsOf e) (by omega)
              rw [hc] at h7
              refine ⟨by rw [h7]; rfl, fun h => h, ?_⟩
              rw [h7]
              exact h5 c (List.mem_of_getElem? hc)
            · obtain ⟨cs', ds', _, h2, h3, h4, h5, h6⟩ := helem i y hy
              have hj : j < P.cellsOf e := by
                have := (List.getElem?_eq_some_iff.1 hc).1
                rw [h6, ← h4.1, h2] at this
                exact this
              have h7 := h3 j hj
              obtain ⟨c', hc'⟩ := getSome (l := cs') (i := j) (by omega)
              rw [hc'] at h7
              rw [h7]
              exact h4.2 j c' c hc' (h6 ▸ hc)
      · cases h
    · rename_i fs ps hu
      cases hb : offsOk P 0 fs.toList (P.cellsOf t) <;> rw [hb] at h
      · cases h
      · rw [cond_true] at h
        obtain ⟨xs, n', _, h2, hlen, hxs, hf⟩ := DataW.trod_struct hu hx
        cases h2
        have := plainFields_ok (n := n) (m := n') (cs := cs) (fun {t cs x ds} h1 h2 => ih n' t cs x ds h1 h2) fs.toList xs 0 ds (by simpa using hxs) (by simp) (by rw [hlen]; exact hb) (fun i f hfi => hf i f (by simpa using hfi)) h
        simpa using this
    · rename_i k e ps hu
      cases hb : (Nat.beq ps.length k && Nat.beq (k * P.cellsOf e) (P.cellsOf t)) <;> rw [hb] at h
      · cases h
      · rw [cond_true] at h
        rw [Bool.and_eq_true] at hb
        obtain ⟨xs, n', hcs, h2, hlen, hxs, hf⟩ := DataW.trod_array hu hx
        cases h2
        have := plainParts_ok (n := n) (m := n') (e := e) (cs := cs) (fun {t cs x ds} h1 h2 => ih n' t cs x ds h1 h2) xs 0 ds
          (by rw [Nat.zero_add, hlen, hxs]; exact Nat.eq_of_beq_eq_true hb.2) (fun i hi => by rw [Nat.zero_add]; exact hf i (hxs ▸ hi)) h
        simpa using this
    · cases h

end
end Go.Vai
end

section
namespace Go.Vai
open Go.ChangeShapes Go.WideShapes Go.ChangeAt Go.RowKit

section
variable {cx : Cx} {W W' : World}

def mu0 : Mu := ⟨fun _ => { blk := none }, noOwn⟩

theorem own0 : OwnOf [] mu0 = noOwn := by
  funext b i
  apply propext
  constructor
  · rintro (h | ⟨id, o, h, _⟩)
    · exact h
    · cases h
  · exact fun h => h.elim

/-- What the row lists, for the interpreter's 'glob'. -/
def globSays (P : Program) (glob : Nat → Option D) (laid : List (String × DataW Unit)) : Prop :=
  ∀ g x, glob g = some x → ∃ n d, (n, d) ∈ laid ∧ P.globalNamed n = some g ∧ (((P.globals[g]?).map (·.type)).bind fun t => plainD P 20 t d) = some x.cells

theorem laidVars_ok {P : Program} {w : World} : ∀ {laid : List (String × DataW Unit)} {ps : List MemPlace}, DataW.LaidVars P w laid ps → ∀ n d, (n, d) ∈ laid → ∀ g t ds, P.globalNamed n = some g → (P.globals[g]?).map (·.type) = some t →
    plainD P 20 t d = some ds → ∃ cs : Array Value, (∀ i, w.cell? ⟨g, i, none⟩ = cs[i]?) ∧ RDs w noOwn cs.toList ds ∧ ∀ c ∈ cs.toList, c.oneCell' = true
  | [], ps, _, n, d, hm, _, _, _, _, _, _ => by cases hm
  | (n₀, d₀) :: laid, ps, h, n, d, hm, g, t, ds, hg, ht, hp => by
    obtain ⟨g', t', cs, fuel, p, q, h1, h2, h3, h4, h5, _⟩ := h
    rcases List.mem_cons.1 hm with he | hm
    · cases he
      rw [hg] at h1; cases h1
      rw [ht] at h2; cases h2
      obtain ⟨k1, k2⟩ := trod_rd 20 _ _ _ _ _ h4 hp
      exact ⟨cs, World.var?_cell hg h3, k1, k2⟩
    · exact laidVars_ok h5 n d hm g t ds hg ht hp

theorem inv0 {laid : List (String × DataW Unit)} (hplain : (laid.all fun x => x.2.handleName?.isNone) = true) (hs : globSays cx.P cx.glob laid) (hL : laidMetH cx.P laid W) : Inv cx W [] mu0 := by
  rw [MakeChecks.laidMetH_plain _ _ _ hplain] at hL
  obtain ⟨ps, hv, _⟩ := hL
  refine ⟨fun id o h => (by cases h), fun id id' o o' b i h => (by cases h), ?_, fun id o b i h => (by cases h), fun b i (h : False) => h.elim, fun r es clock i _ (h : False) => h.elim⟩
  intro g x hg
  rw [own0]
  obtain ⟨n, d, h1, h2, h34⟩ := hs g x hg
  obtain ⟨t, h3, h4⟩ := Option.bind_eq_some_iff.1 h34
  obtain ⟨cs, hc, hr, ho⟩ := laidVars_ok hv n d h1 g t _ h2 h3 h4
  have hlen : cs.size = x.cells.length := by simpa using hr.1
  refine ⟨fun j => cs.getD j undef, fun j hj => ?_, fun j c hjc => ?_⟩
  · have hlt : j < cs.size := by omega
    have e : cs.getD j undef = cs[j] := by simp [Array.getD_eq_getD_getElem?, hlt]
    rw [hc]
    simp only [e]
    exact ⟨by simp [hlt], fun h => h, ho _ (by simp)⟩
  · have hlt : j < cs.size := by have := (List.getElem?_eq_some_iff.1 hjc).1; omega
    have e : cs.getD j undef = cs[j] := by simp [Array.getD_eq_getD_getElem?, hlt]
    simp only [e]
    exact hr.2 j _ c (by simp [hlt]) hjc

theorem kept_but (h : Kept W noOwn W') : W.keptBut W' (fun _ => False) := by
  refine ⟨h.os, h.output, fun i hi => ?_⟩
  rw [h.blk i hi fun _ h => h]
  cases hw : W.heap[i]? with
  | none => rfl
  | some o => cases o <;> first | exact ⟨rfl, rfl, rfl, fun _ _ => rfl⟩ | exact .inr ⟨rfl, rfl⟩ | rfl

/-- The call of a function of plain data. -/
theorem law_callsN {f n : Nat} {ds : List D} {args : List Value} {x : D} (hnat : CallOk cx cx.nat) (hn : noRoutines cx.P) (hmix : cx.P.follows .mixedOrders = true) (hi : Inv cx W [] mu0) (hargs : RDs W noOwn args ds)
    (h : evFun cx n f (ds.map .d) [] = some (.ret (.d x), [])) : Calls cx.P f args.toArray W fun e W' => ∃ v, e = .returned v ∧ RD W' noOwn v x ∧ Kept W noOwn W' := by
  have hv : RVs W [] mu0 args (ds.map .d) := by
    refine ⟨by simpa using hargs.1, fun i v y hx hy => ?_⟩
    rw [List.getElem?_map, Option.map_eq_some_iff] at hy
    obtain ⟨d, hd, rfl⟩ := hy
    refine .d _ _ ?_
    rw [own0]
    exact hargs.2 i v d hx hd
  have hids : ∀ i ∈ V.idsL (ds.map .d), i < ([] : St).length := by
    intro i hi
    have : V.idsL (ds.map .d) = [] := by
      clear h hv hargs hi
      induction ds with
      | nil => rfl
      | cons d ds ih => simp [V.idsL, V.ids, ih]
    rw [this] at hi; cases hi
  obtain ⟨_, _, _, hc⟩ := evFun_ok hn hmix hnat n f _ [] _ _ h W mu0 args hi (fun k o h => (by cases h)) hids (fun k hk => (by cases hk)) hv
  refine hc.mono fun e W' ⟨μ', haf, hm⟩ => ?_
  cases e with
  | returned v =>
    have hm : RV W' [] μ' v (.d x) := hm
    have hfr : OwnOf [] μ' = noOwn := by
      funext b i
      apply propext
      constructor
      · rintro (h | ⟨id, o, h, _⟩)
        · rw [haf.fr] at h; exact h
        · cases h
      · exact fun h => h.elim
    refine ⟨v, rfl, ?_, ?_⟩
    · cases hm with | d _ _ hd => rw [hfr] at hd; exact hd
    · have hk := haf.goes.kept
      have hmine : Mine [] mu0 = noOwn := by
        funext b i
        apply propext
        constructor
        · rintro ⟨id, o, h, _⟩; cases h
        · exact fun h => h.elim
      rw [hmine] at hk
      exact hk
  | panicked chain => exact hm.elim
  | outgrown => exact hm.elim

theorem nat_none (h0 : ∀ f args σ, cx.nat f args σ = none) : CallOk cx cx.nat := fun f args σ out σ' h => by rw [h0] at h; cases h

theorem law_calls {f n : Nat} {ds : List D} {args : List Value} {x : D} (hn : noRoutines cx.P) (hmix : cx.P.follows .mixedOrders = true) (hi : Inv cx W [] mu0) (hargs : RDs W noOwn args ds)
    (h : evFun cx n f (ds.map .d) [] = some (.ret (.d x), [])) (h0 : ∀ f args σ, cx.nat f args σ = none := by intros; rfl) :
    Calls cx.P f args.toArray W fun e W' => ∃ v, e = .returned v ∧ RD W' noOwn v x ∧ Kept W noOwn W' :=
  law_callsN (nat_none h0) hn hmix hi hargs h

end
end Go.Vai
end

section
namespace Go.Vai

section
variable {R : Type} {cx : Cx}

/-- Another caller that knows all that this one knows. -/
def knows (cx : Cx) (call call' : Caller) : Prop := ∀ f args σ r, cx.dom f args = true → call f args σ = some r → call' f args σ = some r

theorem callV_mono {call call' : Caller} (hk : knows cx call call') {σ : St} {t f : Nat} {args : List V} {xs : List Nat} {K : Oc → De → List Nat → Option R} {r : R} (h : callV cx call σ t f args xs K = some r) : callV cx call' σ t f args xs K = some r := by
  unfold callV at h ⊢
  simp only at h ⊢
  obtain ⟨hc, h⟩ := must_some h
  obtain ⟨hd, h⟩ := must_some h
  rw [hc, hd]
  simp only [must, cond_true]
  cases hq : call f (V.renL (posIn (reach σ 1000 (V.idsL args ++ xs) [])) args) (renSt σ (reach σ 1000 (V.idsL args ++ xs) []) 0 (reach σ 1000 (V.idsL args ++ xs) [])) with
  | none => rw [hq] at h; cases h
  | some p => rw [hq] at h; rw [hk _ _ _ _ hd hq]; exact h

theorem evOp_mono {call call' : Caller} (hk : knows cx call call') {m nt : Nat} {o : Oper} {fr : Fr} {σ : St} {p : Tri} (h : evOp1 cx m nt call o fr σ = some p) : evOp1 cx m nt call' o fr σ = some p := by
  unfold evOp1 at h ⊢
  obtain ⟨dst, op, type, pos, after, guard⟩ := o
  cases op
  case makeFunc fn first caps => cases fn <;> exact h
  case makeMap t r => cases r <;> exact h
  case call c =>
    obtain ⟨callee, cargs, ctypes⟩ := c
    cases callee with
    | value f =>
      simp only [evOp] at h ⊢
      obtain ⟨v, hv, h⟩ := optK_some h
      simp only [hv, optK]
      split at h
      · cases hsm : (isSame cx.P _ && List.isEmpty _) <;> rw [hsm] at h <;> simp only [cond_true, cond_false] at h ⊢
        rotate_left
        · obtain ⟨l, hl, h⟩ := optK_some h
          simp only [hl]
          exact h
        cases hgv : cx.gives _ <;> rw [hgv] at h
        · cases hnil : (cx.keep _ && hasNil cargs.toList) <;> rw [hnil] at h
          · obtain ⟨l, hl, h⟩ := optK_some h
            simp only [hl, cond_false]
            exact callV_mono hk h
          · obtain ⟨l, hl, h⟩ := optK_some h
            obtain ⟨hc, h⟩ := must_some h
            simp only [hl, cond_true, cond_false, hc, must]
            exact callV_mono hk h
        · obtain ⟨l, hl, h⟩ := optK_some h
          obtain ⟨hc, h⟩ := must_some h
          simp only [hl, cond_true, hc, must]
          exact callV_mono hk h
      · cases h
    | invoke r nm => exact h
    | builtin b => cases b <;> exact h
  all_goals exact h

theorem guardV_mono {ops : List Oper} {o : Oper} {fr : Fr} {yes no yes' no' : Fr → Option R} {r : R} (hy : ∀ fr, yes fr = some r → yes' fr = some r) (hn : ∀ fr, no fr = some r → no' fr = some r)
    (h : guardV ops o fr yes no = some r) : guardV ops o fr yes' no' = some r := by
  unfold guardV at h ⊢
  split at h
  · exact hy _ h
  · split at h
    · exact hn _ h
    · split at h
      · have key : ∀ (b want : Bool) (p q : Fr), (bif b then (bif want then yes p else no p) else (bif want then no q else yes q)) = some r → (bif b then (bif want then yes' p else no' p) else (bif want then no' q else yes' q)) = some r := by
          intro b want p q h
          cases b <;> cases want <;> first | exact hy _ h | exact hn _ h
        exact key _ _ _ _ h
      · exact hn _ h
      · cases h

theorem evOps_mono {call call' : Caller} (hk : knows cx call call') {m nt : Nat} {ops : List Oper} {K K' : Ex → Fr → St → Option R} {r : R} (hK : ∀ e fr σ, K e fr σ = some r → K' e fr σ = some r) :
    ∀ (l : List Oper) (fr : Fr) (σ : St), evOps cx m nt call ops l fr σ K = some r → evOps cx m nt call' ops l fr σ K' = some r
  | [], fr, σ, h => hK _ _ _ h
  | o :: l, fr, σ, h => by
    unfold evOps at h ⊢
    obtain ⟨hd, h⟩ := must_some h
    rw [hd]
    simp only [must, cond_true]
    refine guardV_mono (fun fr h => ?_) (fun fr h => evOps_mono hk hK l _ _ h) h
    obtain ⟨p, hp, h⟩ := optK_some h
    simp only [evOp_mono hk hp, optK]
    obtain ⟨oc, δ, fp⟩ := p
    cases oc with
    | val v => exact evOps_mono hk hK l _ _ h
    | pan v => exact hK _ _ _ h

theorem evDraw_mono {call call' : Caller} (hk : knows cx call call') {m nt : Nat} {ops : List Oper} {pre : List Nat} {K K' : Ex → Fr → St → Option R} {r : R} (hK : ∀ e fr σ, K e fr σ = some r → K' e fr σ = some r) :
    ∀ (l : List Oper) (i : Nat) (log : List Log) (dead : Option (Nat × V)) (fr : Fr) (σ : St), evDraw cx m nt call ops pre i l log dead fr σ K = some r → evDraw cx m nt call' ops pre i l log dead fr σ K' = some r
  | [], i, log, none, fr, σ, h => by simp only [evDraw] at h ⊢; exact hK _ _ _ h
  | [], i, log, some (k, v), fr, σ, h => by
    simp only [evDraw] at h ⊢
    obtain ⟨hc, h⟩ := must_some h
    rw [hc]
    exact hK _ _ _ h
  | o :: l, i, log, dead, fr, σ, h => by
    simp only [evDraw] at h ⊢
    cases hd : deadDep pre i dead
    · rw [hd, cond_false] at h
      rw [cond_false]
      obtain ⟨hc, h⟩ := must_some h
      rw [hc]
      simp only [must, cond_true]
      refine guardV_mono (fun fr h => ?_) (fun fr h => evDraw_mono hk hK l _ _ _ _ _ h) h
      obtain ⟨p, hp, h⟩ := optK_some h
      obtain ⟨hm, h⟩ := must_some h
      simp only [evOp_mono hk hp, optK]
      simp only [hm, cond_true]
      obtain ⟨oc, δ, fp⟩ := p
      cases oc with
      | val v => exact evDraw_mono hk hK l _ _ _ _ _ h
      | pan v =>
        cases dead with
        | none => exact evDraw_mono hk hK l _ _ _ _ _ h
        | some q => exact h
    · rw [hd, cond_true] at h
      rw [cond_true]
      exact evDraw_mono hk hK l _ _ _ _ _ h

theorem pendV_mono {nt : Nat} {σ : St} {fr : Fr} {q : Pend} {K K' : Fr → St → Option R} {r : R} (hK : ∀ fr σ, K fr σ = some r → K' fr σ = some r) (h : pendV cx nt σ fr q K = some r) : pendV cx nt σ fr q K' = some r := by
  unfold pendV at h ⊢
  obtain ⟨hc, h⟩ := must_some h
  rw [hc]
  simp only [must, cond_true]
  split at h
  case h_2 => cases h
  obtain ⟨hc, h⟩ := must_some h
  simp only [hc, cond_true]
  obtain ⟨s, hs, h⟩ := optK_some h
  obtain ⟨pl, hpl, h⟩ := optK_some h
  obtain ⟨jv, hjv, h⟩ := optK_some h
  obtain ⟨v, hv, h⟩ := optK_some h
  obtain ⟨y, hy, h⟩ := optK_some h
  simp only [hs, hpl, hjv, hv, hy, optK]
  split at h
  case h_2 => cases h
  split at h
  case h_2 => cases h
  obtain ⟨hc, h⟩ := must_some h
  simp only [*, cond_true]
  obtain ⟨sz', ps, hd, h9⟩ := dataOf_run h
  obtain ⟨hc', h10⟩ := must_some h9
  unfold dataOf at hd ⊢
  split at hd <;> first | (cases hd; done) | skip
  all_goals (cases hd; simp only [hc', cond_true]; exact hK _ _ h10)

theorem evPend_mono {nt : Nat} {ops : List Oper} {k : Nat} {fr : Fr} {σ : St} {K K' : List Oper → Fr → St → Option R} {r : R} (hK : ∀ l fr σ, K l fr σ = some r → K' l fr σ = some r) (h : evPend cx nt ops k fr σ K = some r) : evPend cx nt ops k fr σ K' = some r := by
  unfold evPend at h ⊢
  split at h
  case h_2 => cases h
  obtain ⟨q, hq, h⟩ := optK_some h
  simp only [hq, optK]
  exact pendV_mono (fun fr σ h => hK _ _ _ h) h

theorem evTail_mono {nt : Nat} {ops : List Oper} {k : Nat} {fr : Fr} {σ : St} {K K' : Fr → St → Option R} {r : R} (hK : ∀ fr σ, K fr σ = some r → K' fr σ = some r) (h : evTail cx nt ops k fr σ K = some r) : evTail cx nt ops k fr σ K' = some r := by
  unfold evTail at h ⊢
  split at h
  case h_2 => cases h
  obtain ⟨q, hq, h⟩ := optK_some h
  simp only [hq, optK]
  refine pendV_mono (fun fr σ h => ?_) h
  split at h
  case h_2 => cases h
  obtain ⟨hc, h⟩ := must_some h
  obtain ⟨pv, hpv, h⟩ := optK_some h
  obtain ⟨v, hv, h⟩ := optK_some h
  simp only [hc, hpv, hv, optK, cond_true, must]
  split at h
  case h_2 => cases h
  split at h
  case h_2 => cases h
  rename_i hido
  obtain ⟨hc, h⟩ := must_some h
  simp only [hido, hc, cond_true]
  exact hK _ _ h

theorem tidy_mono {m f key : Nat} {fr : Fr} {σ : St} {K K' : Fr → St → Option R} {r : R} (hK : ∀ fr σ, K fr σ = some r → K' fr σ = some r) (h : tidy cx m f key fr σ K = some r) : tidy cx m f key fr σ K' = some r := by
  unfold tidy at h ⊢
  simp only at h ⊢
  obtain ⟨hc, h⟩ := must_some h
  rw [hc]
  exact hK _ _ h

theorem evCode_mono {call call' : Caller} (hk : knows cx call call') {f m nt n n' : Nat} (hn : n ≤ n') : ∀ (c : Code) {K K' : Ex → Fr → St → Option R} {r : R} {fr : Fr} {σ : St},
    (∀ e fr σ, K e fr σ = some r → K' e fr σ = some r) → evCode cx f m nt call n c fr σ K = some r → evCode cx f m nt call' n' c fr σ K' = some r := by
  intro c
  induction c with
  | skip => intro K K' r fr σ hK h; exact hK _ _ _ h
  | label l => intro K K' r fr σ hK h; exact hK _ _ _ h
  | exit id => intro K K' r fr σ hK h; exact hK _ _ _ h
  | goto l => intro K K' r fr σ hK h; exact hK _ _ _ h
  | ret => intro K K' r fr σ hK h; exact hK _ _ _ h
  | refuse why => intro K K' r fr σ hK h; cases h
  | rangeFunc f params assign body _ _ => intro K K' r fr σ hK h; cases h
  | region id ops draw =>
    intro K K' r fr σ hK h
    cases draw
    · simp only [evCode] at h ⊢
      split at h
      · exact evOps_mono hk hK _ _ _ h
      · rename_i k hk'
        refine evOps_mono hk (fun e fr σ h => ?_) _ _ _ h
        cases e with
        | normal => exact evPend_mono (fun l fr σ h => evOps_mono hk hK _ _ _ h) h
        | _ => exact hK _ _ _ h
    · simp only [evCode] at h ⊢
      split at h
      · obtain ⟨hc, h⟩ := must_some h
        rw [hc]
        exact evDraw_mono hk hK _ _ _ _ _ _ h
      · rename_i k hk'
        obtain ⟨hc1, h⟩ := must_some h
        obtain ⟨hc, h⟩ := must_some h
        rw [hc1, hc]
        refine evDraw_mono hk (fun e fr σ h => ?_) _ _ _ _ _ _ h
        cases e with
        | normal => exact evTail_mono (fun fr σ h => hK _ _ _ h) h
        | _ => exact hK _ _ _ h
  | seq x y ihx ihy =>
    intro K K' r fr σ hK h
    refine ihx (fun e fr σ h => ?_) h
    cases e with
    | normal => exact ihy hK h
    | _ => exact hK _ _ _ h
  | cond c x y ihx ihy =>
    intro K K' r fr σ hK h
    simp only [evCode] at h ⊢
    obtain ⟨v, hv, h⟩ := optK_some h
    obtain ⟨b, rfl, h⟩ := asB_some h
    simp only [hv, optK, asB]
    cases b
    · exact ihy hK h
    · exact ihx hK h
  | block id c ih =>
    intro K K' r fr σ hK h
    refine ih (fun e fr σ h => ?_) h
    cases e with
    | normal => exact tidy_mono (fun fr σ h => hK _ _ _ h) h
    | exit i =>
      simp only at h ⊢
      cases hb : Nat.beq i id <;> rw [hb] at h
      · exact hK _ _ _ h
      · exact tidy_mono (fun fr σ h => hK _ _ _ h) h
    | _ => exact hK _ _ _ h
  | loop c ih =>
    intro K K' r fr σ hK h
    simp only [evCode] at h ⊢
    refine tidy_mono (fun fr σ h => ?_) h
    have key : ∀ (k k' : Nat), k ≤ k' → ∀ (fr : Fr) (σ : St), iter (evCode cx f m nt call n c) (tidy cx m f (2 * firstRegion c + 1)) k fr σ K = some r →
        iter (evCode cx f m nt call' n' c) (tidy cx m f (2 * firstRegion c + 1)) k' fr σ K' = some r := by
      intro k
      induction k with
      | zero => intro k' _ fr σ h; cases h
      | succ k ihk =>
        intro k' hle fr σ h
        obtain ⟨k', rfl⟩ : ∃ j, k' = j + 1 := ⟨k' - 1, by omega⟩
        simp only [iter] at h ⊢
        refine ih (fun e fr σ h => ?_) h
        cases e with
        | normal => exact tidy_mono (fun fr σ h => ihk k' (by omega) _ _ h) h
        | _ => exact hK _ _ _ h
    exact key n n' hn fr σ h
  | scope c ih =>
    intro K K' r fr σ hK h
    refine ih (fun e fr σ h => ?_) h
    cases e with
    | goto l => cases h
    | _ => exact hK _ _ _ h

theorem evFun_with (n f : Nat) (args : List V) (σ : St) : evFun cx (n + 1) f args σ = evWith cx (evFun cx n) n f args σ := rfl

theorem evPre_mono {call call' : Caller} (hk : knows cx call call') {f m nt n n' : Nat} (hn : n ≤ n') : ∀ (as : List Code) {K K' : Ex → Fr → St → Option R} {r : R} {fr : Fr} {σ : St},
    (∀ e fr σ, K e fr σ = some r → K' e fr σ = some r) → evPre cx f m nt call n as fr σ K = some r → evPre cx f m nt call' n' as fr σ K' = some r
  | [], K, K', r, fr, σ, hK, h => hK _ _ _ h
  | c :: as, K, K', r, fr, σ, hK, h => by
    simp only [evPre] at h ⊢
    refine evCode_mono hk hn c (fun e fr σ h => ?_) h
    cases e with
    | normal => exact evPre_mono hk hn as hK h
    | _ => exact hK _ _ _ h

theorem evRec_mono {call call' : Caller} (hk : knows cx call call') {n n' : Nat} (hn : n ≤ n') {g : Nat} {args : List V} {σ σ' : St} {u : Option D} (h : evRec cx call n g args σ u = some σ') : evRec cx call' n' g args σ u = some σ' := by
  unfold evRec at h ⊢
  split at h
  · cases h
  · rename_i fn hfn
    split at h
    · rename_i id ops c hb
      split at h
      · rename_i o r hops
        obtain ⟨t, ht, h⟩ := optK_some h
        obtain ⟨hc, h⟩ := must_some h
        simp only [hops, ht, optK, hc, must, cond_true]
        rw [hops] at h
        refine evOps_mono hk (fun e fr σ h => ?_) _ _ _ h
        cases e with
        | normal => exact evCode_mono hk hn c (fun _ _ _ h => h) h
        | _ => cases h
      · cases h
    · cases h

theorem callD_mono {rec rec' : Nat → List V → St → Option D → Option St} (hr : ∀ g args σ u r, rec g args σ u = some r → rec' g args σ u = some r) {σ : St} {g : Nat} {cap : List V} {u : Option D} {K : De → Option R} {r : R}
    (h : callD cx rec σ g cap u K = some r) : callD cx rec' σ g cap u K = some r := by
  unfold callD at h ⊢
  simp only at h ⊢
  obtain ⟨hc, h⟩ := must_some h
  rw [hc]
  simp only [must, cond_true]
  cases hq : rec g (V.renL (posIn (reach σ 1000 (V.idsL cap) [])) cap) (renSt σ (reach σ 1000 (V.idsL cap) []) 0 (reach σ 1000 (V.idsL cap) [])) u with
  | none => rw [hq] at h; cases h
  | some p => rw [hq] at h; rw [hr _ _ _ _ _ hq]; exact h

theorem endD_mono {rec rec' : Nat → List V → St → Option D → Option St} (hr : ∀ g args σ u r, rec g args σ u = some r → rec' g args σ u = some r) {f m : Nat} {res : List ResultVar} {g : Nat} {cap : List V} {e : Ex} {fr : Fr} {σ : St} {r : Out × St}
    (h : endD cx rec f m res g cap e fr σ = some r) : endD cx rec' f m res g cap e fr σ = some r := by
  unfold endD at h ⊢
  split at h
  · exact callD_mono hr h
  · exact callD_mono hr h
  · exact callD_mono hr h
  · cases h

theorem evDfr_mono {call call' : Caller} (hk : knows cx call call') {f m nt n n' : Nat} (hn : n ≤ n') {res : List ResultVar} {c : Code} {fr : Fr} {σ : St} {r : Out × St}
    (h : evDfr cx f m nt res call n c fr σ = some r) : evDfr cx f m nt res call' n' c fr σ = some r := by
  unfold evDfr at h ⊢
  split at h
  · cases h
  · rename_i as id ops t b hsp
    refine evPre_mono hk hn as (fun e fr σ h => ?_) h
    cases e with
    | normal =>
      refine evOps_mono hk (fun e fr σ h => ?_) _ _ _ h
      cases e with
      | normal =>
        simp only at h ⊢
        obtain ⟨fv, hfv, h⟩ := optK_some h
        simp only [hfv, optK]
        split at h
        · obtain ⟨ht, h⟩ := must_some h
          simp only [ht, must, cond_true]
          exact evCode_mono hk hn b (fun e fr σ h => endD_mono (fun _ _ _ _ _ h => evRec_mono hk hn h) h) h
        · cases h
      | _ => exact h
    | _ => exact h

theorem evWith_mono {call call' : Caller} (hk : knows cx call call') {n n' : Nat} (hn : n ≤ n') : ∀ f args σ r, evWith cx call n f args σ = some r → evWith cx call' n' f args σ = some r := by
  intro f args σ r h
  unfold evWith at h ⊢
  split at h
  · exact h
  split at h
  · cases h
  · rename_i fn hfn
    split at h
    · cases h
    · rename_i c hc
      cases hd : cx.dfr f <;> rw [hd] at h
      · exact evCode_mono hk hn c (fun _ _ _ h => h) h
      · exact evDfr_mono hk hn h

theorem evFun_mono : ∀ (n n' : Nat), n ≤ n' → ∀ f args σ r, evFun cx n f args σ = some r → evFun cx n' f args σ = some r
  | 0, _, _ => fun f args σ r h => by cases h
  | n + 1, 0, h => absurd h (by omega)
  | n + 1, n' + 1, h => fun f args σ r hr => by
    rw [evFun_with] at hr ⊢
    exact evWith_mono (fun f args σ r _ h => evFun_mono n n' (by omega) f args σ r h) (by omega) f args σ r hr

/-- What is known, with some fuel. -/
def Known (cx : Cx) (call : Caller) : Prop := ∀ f args σ r, call f args σ = some r → ∃ n, evFun cx n f args σ = some r

end
end Go.Vai
end

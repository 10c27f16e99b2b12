/-
  A call from the caller's side: the whole.
  Each operation of the interpreter is the machine's: all of them.
  What comes behind, drawn in: the looks, and calls.
  Regions in the text's order.
  A place is made behind a slice's end, and then filled: the three operations together.
  On what an operation's answer rests.
  An operation's answer rests on the objects of its footprint alone.
-/
import Derived.Test.YtdgdfglbhndjnaaDoorVaiPart3
import Derived.Lib.Builder
import Derived.Orders
import Derived.LoopN
import Derived.Scope

set_option linter.all false
set_option linter.unusedSimpArgs false
set_option linter.unusedVariables false

section
namespace Go.Vai

section
variable {R : Type} {cx : Cx} {w w' : World} {σ τ : St} {μ ν : Mu}

theorem Ob.ren_ids (f : Nat → Nat) (o : Ob) : (o.ren f).ids = o.ids.map f := by
  cases o <;> simp [Ob.ren, Ob.ids, V.ren_ids]

/-- What the objects that a call doesn't see own. -/
def restOwn (σ : St) (μ : Mu) (ren : List Nat) : Own := fun b i => μ.fr b i ∨ ∃ j o, j ∉ ren ∧ getA σ j = some o ∧ owns μ j o b i

/-- Where the callee's objects lie. -/
def innerMu (σ : St) (μ : Mu) (ren : List Nat) : Mu := ⟨fun k => μ (atIn ren k), restOwn σ μ ren⟩

theorem inner_get {ren : List Nat} (hex : ∀ i ∈ ren, ∃ o, getA σ i = some o) {i : Nat} (hi : i ∈ ren) :
    getA (renSt σ ren 0 ren) (posIn ren i) = (getA σ i).map (Ob.ren (posIn ren)) := by
  rw [getA_renSt σ ren ren 0 _ hex]
  obtain ⟨h1, h2⟩ := posIn_atIn hi
  simp only [Nat.zero_le, if_true, Nat.sub_zero]
  rw [atIn_mem h2, h1]
  rfl

theorem inner_some {ren : List Nat} (hex : ∀ i ∈ ren, ∃ o, getA σ i = some o) {k : Nat} {o : Ob} (h : getA (renSt σ ren 0 ren) k = some o) :
    ∃ i q, ren[k]? = some i ∧ getA σ i = some q ∧ o = q.ren (posIn ren) ∧ k < ren.length := by
  rw [getA_renSt σ ren ren 0 k hex] at h
  simp only [Nat.zero_le, if_true, Nat.sub_zero] at h
  cases hk : ren[k]? with
  | none => rw [hk] at h; cases h
  | some i =>
    rw [hk] at h
    simp only [Option.bind_some, Option.map_eq_some_iff] at h
    obtain ⟨q, hq, rfl⟩ := h
    exact ⟨i, q, rfl, hq, rfl, (List.getElem?_eq_some_iff.1 hk).1⟩

theorem atIn_of_get {ren : List Nat} {k i : Nat} (h : ren[k]? = some i) : atIn ren k = i := by
  have := atIn_mem (List.getElem?_eq_some_iff.1 h).1
  rw [h] at this
  exact (Option.some.inj this).symm

/-- 'owns' asks only where the object lies. -/
theorem owns_at {μ ν : Mu} {id k : Nat} (h : ν k = μ id) (o : Ob) (b i : Nat) : owns ν k o b i ↔ owns μ id o b i := by
  cases o <;> simp [owns, h]

theorem inner_own {ren : List Nat} (hex : ∀ i ∈ ren, ∃ o, getA σ i = some o) : OwnOf (renSt σ ren 0 ren) (innerMu σ μ ren) = OwnOf σ μ := by
  funext b i
  apply propext
  constructor
  · rintro ((hf | ⟨j, o, hj, ho, hown⟩) | ⟨k, o, ho, hown⟩)
    · exact .inl hf
    · exact .inr ⟨j, o, ho, hown⟩
    · obtain ⟨a, q, hk, hq, rfl, _⟩ := inner_some hex ho
      exact .inr ⟨a, q, hq, (owns_at (show innerMu σ μ ren k = μ a from congrArg μ.lo (atIn_of_get hk)) q b i).1 ((owns_ren _ _ _ _ _).1 hown)⟩
  · rintro (hf | ⟨j, o, ho, hown⟩)
    · exact .inl (.inl hf)
    · by_cases hj : j ∈ ren
      · have hg := inner_get hex hj
        rw [ho] at hg
        exact .inr ⟨posIn ren j, _, hg, (owns_ren _ _ _ _ _).2 ((owns_at (show innerMu σ μ ren (posIn ren j) = μ j from congrArg μ.lo (posIn_atIn hj).1) o b i).2 hown)⟩
      · exact .inl (.inr ⟨j, o, hj, ho, hown⟩)

theorem closedIn_spec {ids : List Nat} {ren : List Nat} (h : closedIn σ ids ren = true) : ren.Nodup ∧ (∀ i ∈ ids, i ∈ ren) ∧ ∀ i ∈ ren, ∃ o, getA σ i = some o ∧ ∀ j ∈ o.ids, j ∈ ren := by
  unfold closedIn at h
  simp only [Bool.and_eq_true, List.all_eq_true] at h
  obtain ⟨⟨h1, h2⟩, h3⟩ := h
  refine ⟨nodupB_spec h1, fun i hi => by simpa using h2 i hi, fun i hi => ?_⟩
  have := h3 i hi
  split at this
  · rename_i o ho
    exact ⟨o, ho, fun j hj => by simpa using List.all_eq_true.1 this j hj⟩
  · cases this

/-- The callee's view of the world. -/
theorem inner_inv {ren : List Nat} (hi : Inv cx w σ μ) (hnd : ren.Nodup) (hcl : ∀ i ∈ ren, ∃ o, getA σ i = some o ∧ ∀ j ∈ o.ids, j ∈ ren) : Inv cx w (renSt σ ren 0 ren) (innerMu σ μ ren) := by
  have hex : ∀ i ∈ ren, ∃ o, getA σ i = some o := fun i h => let ⟨o, ho, _⟩ := hcl i h; ⟨o, ho⟩
  have hown := inner_own (μ := μ) hex
  have hst : Stays w (OwnOf σ μ) w (OwnOf (renSt σ ren 0 ren) (innerMu σ μ ren)) := by rw [hown]; exact Stays.refl _ _
  refine ⟨fun k o ho => ?_, fun k k' o o' b i ho ho' h1 h2 => ?_, by rw [hown]; exact hi.glob, fun k o b i ho h j hf => ?_, fun b i hf => ?_, fun r es clock i hm hf => ?_⟩
  · obtain ⟨a, q, hk, hq, rfl, hlt⟩ := inner_some hex ho
    have ha : a ∈ ren := List.mem_of_getElem? hk
    have hpos := posIn_of_get hnd hk
    obtain ⟨q', hq', hids⟩ := hcl a ha
    rw [hq] at hq'; cases hq'
    have := (hi.ob a q hq).rename (τ := renSt σ ren 0 ren) (ν := innerMu σ μ ren) (posIn ren) hst (congrArg μ.lo (posIn_atIn ha).1) fun j hj =>
      ⟨by rw [inner_get hex (hids j hj)]; exact compatOb.ren _ _, congrArg μ.lo (posIn_atIn (hids j hj)).1⟩
    rw [hpos] at this
    exact this
  · obtain ⟨a, q, hk, hq, rfl, _⟩ := inner_some hex ho
    obtain ⟨a', q', hk', hq', rfl, _⟩ := inner_some hex ho'
    have e1 := (owns_at (show innerMu σ μ ren k = μ a from congrArg μ.lo (atIn_of_get hk)) q b i).1 ((owns_ren _ _ _ _ _).1 h1)
    have e2 := (owns_at (show innerMu σ μ ren k' = μ a' from congrArg μ.lo (atIn_of_get hk')) q' b i).1 ((owns_ren _ _ _ _ _).1 h2)
    have := hi.apart a a' q q' b i hq hq' e1 e2
    subst this
    rw [← posIn_of_get hnd hk, ← posIn_of_get hnd hk']
  · obtain ⟨a, q, hk, hq, rfl, _⟩ := inner_some hex ho
    have e1 := (owns_at (show innerMu σ μ ren k = μ a from congrArg μ.lo (atIn_of_get hk)) q b i).1 ((owns_ren _ _ _ _ _).1 h)
    rcases hf with hf | ⟨j', o', hj', ho', hown'⟩
    · exact hi.frame a q b i hq e1 j hf
    · have := hi.blockApart hq ho' e1 hown'
      exact hj' (this ▸ List.mem_of_getElem? hk)
  · rcases hf with hf | ⟨j', o', hj', ho', hown'⟩
    · exact hi.frLt b i hf
    · exact owns_lt hi ho' hown'
  · rcases hf with hf | ⟨j', o', hj', ho', hown'⟩
    · exact .inl (hi.frMap r es clock i hm hf)
    · refine .inr ⟨j', o', hj', ho', ?_⟩
      have hok := hi.ob j' o' ho'
      cases o' with
      | tok n =>
        obtain ⟨cs, el, fr, hh, _⟩ := hok r hown'.1
        rw [hm] at hh; cases hh
      | _ => exact hown'

/-- Where the caller's objects lie behind the call. -/
def outerMu (μ μ1 : Mu) (ren : List Nat) : Mu := ⟨fun j => if j ∈ ren then μ1 (posIn ren j) else μ j, μ.fr⟩

/-- What the callee leaves, seen by the caller. -/
theorem call_fin (hi : Inv cx w σ μ) {ren : List Nat} (hnd : ren.Nodup) (hcl : ∀ i ∈ ren, ∃ o, getA σ i = some o ∧ ∀ j ∈ o.ids, j ∈ ren) {σ' : St} {δ : De} (hδm : δ.map (·.1) = ren)
    (hδ : ∀ (j i : Nat), ren[j]? = some i → ∃ old new o, getA σ i = some old ∧ getA σ' (0 + j) = some new ∧ δ[j]? = some (i, o) ∧ LikeO (new.ren (atIn ren)) o)
    (hσ' : ∀ k o, getA σ' k = some o → k < ren.length ∧ ∀ i ∈ o.ids, i < ren.length) {w' : World} {μ1 : Mu} (haf : After cx w (renSt σ ren 0 ren) (innerMu σ μ ren) w' σ' μ1) :
    After cx w σ μ w' (applyDe σ δ) (outerMu μ μ1 ren) ∧
      ∀ (x : Value) (v : V), (∀ i ∈ v.ids, i < ren.length) → RV w' σ' μ1 x v → RV w' (applyDe σ δ) (outerMu μ μ1 ren) x (v.ren (atIn ren)) := by
  have hex : ∀ i ∈ ren, ∃ o, getA σ i = some o := fun i h => let ⟨o, ho, _⟩ := hcl i h; ⟨o, ho⟩
  have hget : ∀ {j i : Nat}, ren[j]? = some i → ∃ new o, getA σ' j = some new ∧ getA (applyDe σ δ) i = some o ∧ LikeO (new.ren (atIn ren)) o := by
    intro j i hj
    obtain ⟨old, new, o, h1, h2, h3, h4⟩ := hδ j i hj
    rw [Nat.zero_add] at h2
    exact ⟨new, o, h2, getA_applyDe_mem (by rw [hδm]; exact hnd) (List.mem_of_getElem? h3), h4⟩
  have hrest : ∀ {j : Nat}, j ∉ ren → getA (applyDe σ δ) j = getA σ j := fun hj => getA_applyDe_not (by rw [hδm]; exact hj)
  have hmu : ∀ {j i : Nat}, ren[j]? = some i → outerMu μ μ1 ren i = μ1 j := fun {j i} hj => by
    have hm : i ∈ ren := List.mem_of_getElem? hj
    simp only [outerMu, if_pos hm, posIn_of_get hnd hj]
  have hmu' : ∀ {j : Nat}, j ∉ ren → outerMu μ μ1 ren j = μ j := fun {j} hj => by simp only [outerMu, if_neg hj]
  have hfr1 : μ1.fr = restOwn σ μ ren := haf.fr
  have hown2 : OwnOf (applyDe σ δ) (outerMu μ μ1 ren) = OwnOf σ' μ1 := by
    funext b i
    apply propext
    constructor
    · rintro (hf | ⟨j, o, ho, hown⟩)
      · exact .inl (by rw [hfr1]; exact .inl hf)
      · by_cases hj : j ∈ ren
        · obtain ⟨h1, h2⟩ := posIn_atIn hj
          have hk : ren[posIn ren j]? = some j := by rw [atIn_mem h2, h1]
          obtain ⟨new, o', h3, h4, h5⟩ := hget hk
          rw [ho] at h4; cases h4
          exact .inr ⟨posIn ren j, new, h3, (owns_at (hmu hk) new b i).1 ((owns_ren _ _ _ _ _).1 ((h5.owns _ _ _ _).1 hown))⟩
        · rw [hrest hj] at ho
          exact .inl (by rw [hfr1]; exact .inr ⟨j, o, hj, ho, (owns_at (hmu' hj) o b i).1 hown⟩)
    · rintro (hf | ⟨k, o, ho, hown⟩)
      · rw [hfr1] at hf
        rcases hf with hf | ⟨j, o, hj, ho, hown⟩
        · exact .inl hf
        · exact .inr ⟨j, o, by rw [hrest hj]; exact ho, (owns_at (hmu' hj) o b i).2 hown⟩
      · obtain ⟨i', hk⟩ := getSome (hσ' k o ho).1
        obtain ⟨new, o', h3, h4, h5⟩ := hget hk
        rw [ho] at h3; cases h3
        exact .inr ⟨i', o', h4, (h5.owns _ _ _ _).2 ((owns_ren _ _ _ _ _).2 ((owns_at (hmu hk) o b i).2 hown))⟩
  have hst2 : Stays w' (OwnOf σ' μ1) w' (OwnOf (applyDe σ δ) (outerMu μ μ1 ren)) := by rw [hown2]; exact Stays.refl _ _
  have hmine : ∀ b i, Mine (renSt σ ren 0 ren) (innerMu σ μ ren) b i → ∃ j o, j ∈ ren ∧ getA σ j = some o ∧ owns μ j o b i := by
    rintro b i ⟨k, o, ho, h1⟩
    obtain ⟨a, q, hk, hq, rfl, _⟩ := inner_some hex ho
    exact ⟨a, q, List.mem_of_getElem? hk, hq, (owns_at (show innerMu σ μ ren k = μ a from congrArg μ.lo (atIn_of_get hk)) q b i).1 ((owns_ren _ _ _ _ _).1 h1)⟩
  have hmine' : ∀ b i, Mine (renSt σ ren 0 ren) (innerMu σ μ ren) b i → Mine σ μ b i := fun b i h => let ⟨j, o, _, ho, h1⟩ := hmine b i h; ⟨j, o, ho, h1⟩
  -- the callee's objects, outside
  have hback : ∀ {j : Nat}, j ∈ ren → ∀ {o}, getA (applyDe σ δ) j = some o → ∃ new, getA σ' (posIn ren j) = some new ∧ LikeO (new.ren (atIn ren)) o ∧ outerMu μ μ1 ren j = μ1 (posIn ren j) := by
    intro j hj o ho
    obtain ⟨h1, h2⟩ := posIn_atIn hj
    have hk : ren[posIn ren j]? = some j := by rw [atIn_mem h2, h1]
    obtain ⟨new, o', h3, h4, h5⟩ := hget hk
    rw [ho] at h4; cases h4
    exact ⟨new, h3, h5, hmu hk⟩
  have hownIn : ∀ {j : Nat}, j ∈ ren → ∀ {o b i}, getA (applyDe σ δ) j = some o → owns (outerMu μ μ1 ren) j o b i → ∃ new, getA σ' (posIn ren j) = some new ∧ owns μ1 (posIn ren j) new b i := by
    intro j hj o b i ho h1
    obtain ⟨new, h3, h5, h6⟩ := hback hj ho
    exact ⟨new, h3, (owns_at h6 new b i).1 ((owns_ren _ _ _ _ _).1 ((h5.owns _ _ _ _).1 h1))⟩
  have hgoes : Goes w σ μ w' (applyDe σ δ) (outerMu μ μ1 ren) := by
    have hg := haf.goes
    refine ⟨⟨hg.kept.os, hg.kept.output, hg.kept.size, fun b hb hn => hg.kept.blk b hb fun i hm => hn i (hmine' b i hm), fun b i x hn hc => hg.kept.cell b i x (fun hm => hn (hmine' b i hm)) hc⟩, ?_, rfl⟩
    rintro b i hb ⟨j, o, ho, h1⟩
    by_cases hj : j ∈ ren
    · obtain ⟨new, h3, h4⟩ := hownIn hj ho h1
      exact hmine' b i (hg.own b i hb ⟨_, new, h3, h4⟩)
    · exact ⟨j, o, by rw [← hrest hj]; exact ho, (owns_at (hmu' hj) o b i).1 h1⟩
  have hs := hgoes.stays' hi
  -- names of the callee's, outside
  have hname : ∀ k, k < ren.length → ∀ new, getA σ' k = some new → ∃ o, getA (applyDe σ δ) (atIn ren k) = some o ∧ LikeO (new.ren (atIn ren)) o ∧ outerMu μ μ1 ren (atIn ren k) = μ1 k := by
    intro k hk new hnew
    have hk' := atIn_mem hk
    obtain ⟨new', o, h3, h4, h5⟩ := hget hk'
    rw [hnew] at h3; cases h3
    exact ⟨o, h4, h5, hmu hk'⟩
  have hcompat : ∀ k, k < ren.length → compatOb (getA σ' k) (getA (applyDe σ δ) (atIn ren k)) ∧ outerMu μ μ1 ren (atIn ren k) = μ1 k := by
    intro k hk
    refine ⟨?_, hmu (atIn_mem hk)⟩
    cases hn : getA σ' k with
    | none => trivial
    | some new =>
      obtain ⟨o, h1, h2, _⟩ := hname k hk new hn
      rw [h1]
      have := h2.compat
      cases new <;> cases o <;> first | exact this.elim | exact this
  have hrv : ∀ (x : Value) (v : V), (∀ i ∈ v.ids, i < ren.length) → RV w' σ' μ1 x v → RV w' (applyDe σ δ) (outerMu μ μ1 ren) x (v.ren (atIn ren)) :=
    fun x v hv hrv => hrv.rename (atIn ren) hst2 fun id hid => hcompat id (hv id hid)
  have hstill : ∀ id o, getA σ id = some o → stillOb μ id o (outerMu μ μ1 ren) (getA (applyDe σ δ) id) := by
    intro id o ho
    by_cases hj : id ∈ ren
    · obtain ⟨h1, h2⟩ := posIn_atIn hj
      have hk : ren[posIn ren id]? = some id := by rw [atIn_mem h2, h1]
      obtain ⟨new, o', h3, h4, h5⟩ := hget hk
      rw [h4]
      refine h5.still _ _ _ _ ?_
      have hg := inner_get hex hj
      rw [ho] at hg
      have := haf.still _ _ hg
      rw [h3] at this
      have e1 : innerMu σ μ ren (posIn ren id) = μ id := congrArg μ.lo h1
      have e2 : outerMu μ μ1 ren id = μ1 (posIn ren id) := hmu hk
      cases o <;> cases new <;> simp only [Option.map_some, Ob.ren, stillOb] at this ⊢ <;> first
        | exact this.elim
        | (rw [e2, ← e1]; exact this)
    · rw [hrest hj, ho]
      have e := hmu' hj
      cases o <;> simp [stillOb, e]
  refine ⟨⟨⟨fun id o ho => ?_, fun id id' o o' b i ho ho' h1 h2 => ?_, by rw [hown2]; exact haf.inv.glob, fun id o b i ho h j hf => ?_, fun b i hf => ?_, fun q es clock i hm hf => ?_⟩, hgoes, hstill, rfl⟩, hrv⟩
  · -- the objects
    by_cases hj : id ∈ ren
    · obtain ⟨h1, h2⟩ := posIn_atIn hj
      have hk : ren[posIn ren id]? = some id := by rw [atIn_mem h2, h1]
      obtain ⟨new, o', h3, h4, h5⟩ := hget hk
      rw [ho] at h4; cases h4
      refine h5.ok _ _ _ _ ?_
      have := (haf.inv.ob _ _ h3).rename (τ := applyDe σ δ) (ν := outerMu μ μ1 ren) (atIn ren) hst2 (by rw [h1]; exact hmu hk) fun j hj => hcompat j ((hσ' _ _ h3).2 j hj)
      rw [h1] at this
      exact this
    · rw [hrest hj] at ho
      have hok := hi.ob id o ho
      have e2 := hmu' hj
      have hfree : ∀ b, (μ id).blk = some b → w'.heap[b]? = w.heap[b]? := by
        intro b hb
        have hoi : owns μ id o b (μ id).f := by cases o <;> simp [owns, hb]
        refine haf.goes.kept.blk b (owns_lt hi ho hoi) fun i hm => hj ?_
        obtain ⟨a, q, ha, hq, h1⟩ := hmine b i hm
        exact hi.blockApart ho hq hoi h1 ▸ ha
      have rv : ∀ v x, RV w σ μ v x → RV w' (applyDe σ δ) (outerMu μ μ1 ren) v x := fun v x hv => hv.stays hs fun id _ o ho => hstill id o ho
      cases o with
      | val n v =>
        obtain ⟨b, cs, el, hb, hh, hn, ht, h1, hr, htag⟩ := hok
        exact ⟨b, cs, el, e2 ▸ hb, (hfree b hb).trans hh, hn, ht, h1, hr.map fun v x _ => rv v x, htag⟩
      | row l =>
        obtain ⟨b, cs, el, hb, hh, h1, hr⟩ := hok
        exact ⟨b, cs, el, e2 ▸ hb, (hfree b hb).trans hh, h1, hr.stays hs⟩
      | tok n =>
        intro b hb
        rw [e2] at hb ⊢
        obtain ⟨cs, el, fr, hh, hz⟩ := hok b hb
        exact ⟨cs, el, fr, (hfree b hb).trans hh, hz⟩
      | map ks vs =>
        obtain ⟨b, es, clock, hb, hh, hk, hv⟩ := hok
        exact ⟨b, es, clock, e2 ▸ hb, (hfree b hb).trans hh, hk.stays hs, hv.stays hs⟩
  · by_cases hj : id ∈ ren
    · obtain ⟨new, h3, h4⟩ := hownIn hj ho h1
      by_cases hj' : id' ∈ ren
      · obtain ⟨new', h3', h4'⟩ := hownIn hj' ho' h2
        have := haf.inv.apart _ _ _ _ b i h3 h3' h4 h4'
        rw [← (posIn_atIn hj).1, ← (posIn_atIn hj').1, this]
      · rw [hrest hj'] at ho'
        exact (haf.inv.frame _ _ b i h3 h4 i (by rw [hfr1]; exact .inr ⟨id', o', hj', ho', (owns_at (hmu' hj') o' b i).1 h2⟩)).elim
    · rw [hrest hj] at ho
      have h1' := (owns_at (hmu' hj) o b i).1 h1
      by_cases hj' : id' ∈ ren
      · obtain ⟨new', h3', h4'⟩ := hownIn hj' ho' h2
        exact (haf.inv.frame _ _ b i h3' h4' i (by rw [hfr1]; exact .inr ⟨id, o, hj, ho, h1'⟩)).elim
      · rw [hrest hj'] at ho'
        exact hi.apart _ _ _ _ b i ho ho' h1' ((owns_at (hmu' hj') o' b i).1 h2)
  · by_cases hj : id ∈ ren
    · obtain ⟨new, h3, h4⟩ := hownIn hj ho h
      exact haf.inv.frame _ _ b i h3 h4 j (by rw [hfr1]; exact .inl hf)
    · rw [hrest hj] at ho
      exact hi.frame id o b i ho ((owns_at (hmu' hj) o b i).1 h) j hf
  · exact Nat.lt_of_lt_of_le (hi.frLt b i hf) haf.goes.kept.size
  · have hlt := hi.frLt q i hf
    rw [haf.goes.kept.blk q hlt fun k hm => by
      obtain ⟨a, p, ha, hp, h1⟩ := hmine q k hm
      exact hi.frame a p q k hp h1 i hf] at hm
    exact hi.frMap q es clock i hm hf

/-- What the callee finds. -/
theorem call_in (hi : Inv cx w σ μ) {args : List V} {vs : List Value} (hv : RVs w σ μ vs args) {ren : List Nat} (hnd : ren.Nodup) (hargs : ∀ i ∈ V.idsL args, i ∈ ren)
    (hcl : ∀ i ∈ ren, ∃ o, getA σ i = some o ∧ ∀ j ∈ o.ids, j ∈ ren) :
    (renSt σ ren 0 ren).length = ren.length ∧ Inv cx w (renSt σ ren 0 ren) (innerMu σ μ ren) ∧ Canon (renSt σ ren 0 ren) ∧ RVs w (renSt σ ren 0 ren) (innerMu σ μ ren) vs (V.renL (posIn ren) args) ∧
      (∀ i ∈ V.idsL (V.renL (posIn ren) args), i < (renSt σ ren 0 ren).length) ∧ (∀ k, k < (renSt σ ren 0 ren).length → ∃ o, getA (renSt σ ren 0 ren) k = some o) ∧
      OwnOf (renSt σ ren 0 ren) (innerMu σ μ ren) = OwnOf σ μ := by
  have hex : ∀ i ∈ ren, ∃ o, getA σ i = some o := fun i h => let ⟨o, ho, _⟩ := hcl i h; ⟨o, ho⟩
  have hown := inner_own (μ := μ) hex
  have hst : Stays w (OwnOf σ μ) w (OwnOf (renSt σ ren 0 ren) (innerMu σ μ ren)) := by rw [hown]; exact Stays.refl _ _
  have hlen : (renSt σ ren 0 ren).length = ren.length := renSt_length σ ren ren 0 hex
  have hinv := inner_inv hi hnd hcl
  have hcanon : Canon (renSt σ ren 0 ren) := fun k o ho => by
    obtain ⟨a, q, hk, hq, rfl, hlt⟩ := inner_some hex ho
    refine ⟨by omega, fun i hin => ?_⟩
    rw [Ob.ren_ids, List.mem_map] at hin
    obtain ⟨j, hj, rfl⟩ := hin
    obtain ⟨q', hq', hids⟩ := hcl a (List.mem_of_getElem? hk)
    rw [hq] at hq'; cases hq'
    rw [hlen]
    exact (posIn_atIn (hids j hj)).2
  have hvs : RVs w (renSt σ ren 0 ren) (innerMu σ μ ren) vs (V.renL (posIn ren) args) :=
    hv.rename (posIn ren) hst fun id hid => ⟨by rw [inner_get hex (hargs id hid)]; exact compatOb.ren _ _, congrArg μ.lo (posIn_atIn (hargs id hid)).1⟩
  have hargs' : ∀ i ∈ V.idsL (V.renL (posIn ren) args), i < (renSt σ ren 0 ren).length := fun i hin => by
    rw [V.renL_ids, List.mem_map] at hin
    obtain ⟨j, hj, rfl⟩ := hin
    rw [hlen]
    exact (posIn_atIn (hargs j hj)).2
  have hfull : ∀ k, k < (renSt σ ren 0 ren).length → ∃ o, getA (renSt σ ren 0 ren) k = some o := fun k hk => by
    rw [hlen] at hk
    obtain ⟨i, hik⟩ := getSome hk
    obtain ⟨o, ho⟩ := hex i (List.mem_of_getElem? hik)
    have := inner_get hex (List.mem_of_getElem? hik)
    rw [posIn_of_get hnd hik, ho] at this
    exact ⟨_, this⟩
  exact ⟨hlen, hinv, hcanon, hvs, hargs', hfull, hown⟩

/-- A call. -/
theorem callV_ok {call : Nat → List V → St → Option (Out × St)} (hcall : CallOk cx call) (hi : Inv cx w σ μ) {t f : Nat} {args : List V} {xs : List Nat} {vs : List Value} (hv : RVs w σ μ vs args) {K : Oc → De → List Nat → Option R} {r : R}
    (h : callV cx call σ t f args xs K = some r) :
    ∃ oc δ fp, K oc δ fp = some r ∧ (∃ fn, cx.P.funcs[f]? = some fn ∧ fn.body.isNone = false) ∧ Calls cx.P f vs.toArray w fun e w' => ∃ μ', After cx w σ μ w' (applyDe σ δ) μ' ∧
      match oc, e with
      | .val v, .returned x => RV w' (applyDe σ δ) μ' x v
      | .pan v, .panicked chain => ∃ x, chain = [{ v := x, recovered := false }] ∧ RV w' (applyDe σ δ) μ' x v
      | _, _ => False := by
  unfold callV at h
  simp only at h
  generalize hren : reach σ 1000 (V.idsL args ++ xs) [] = ren at h
  obtain ⟨hc, h⟩ := must_some h
  obtain ⟨_, h⟩ := must_some h
  obtain ⟨hnd, hargs0, hcl⟩ := closedIn_spec hc
  have hargs : ∀ i ∈ V.idsL args, i ∈ ren := fun i hi => hargs0 i (List.mem_append_left _ hi)
  have hex : ∀ i ∈ ren, ∃ o, getA σ i = some o := fun i h => let ⟨o, ho, _⟩ := hcl i h; ⟨o, ho⟩
  obtain ⟨hlen, hinv, hcanon, hvs, hargs', hfull, _⟩ := call_in hi hv hnd hargs hcl
  have fin : ∀ (out : Out) (σ' : St) (δ : De), call f (V.renL (posIn ren) args) (renSt σ ren 0 ren) = some (out, σ') → δ.map (·.1) = ren →
      (∀ (j i : Nat), ren[j]? = some i → ∃ old new o, getA σ i = some old ∧ getA σ' (0 + j) = some new ∧ δ[j]? = some (i, o) ∧ LikeO (new.ren (atIn ren)) o) →
      (∀ k o, getA σ' k = some o → k < ren.length ∧ ∀ i ∈ o.ids, i < ren.length) →
      ∀ (w' : World) (μ1 : Mu), After cx w (renSt σ ren 0 ren) (innerMu σ μ ren) w' σ' μ1 →
        After cx w σ μ w' (applyDe σ δ) (outerMu μ μ1 ren) ∧
        ∀ (x : Value) (v : V), (∀ i ∈ v.ids, i < ren.length) → RV w' σ' μ1 x v → RV w' (applyDe σ δ) (outerMu μ μ1 ren) x (v.ren (atIn ren)) :=
    fun _ _ _ _ h1 h2 h3 _ _ h4 => call_fin hi hnd hcl h1 h2 h3 h4
  cases hcl2 : call f (V.renL (posIn ren) args) (renSt σ ren 0 ren) with
  | none => rw [hcl2] at h; cases h
  | some p =>
    obtain ⟨out, σ'⟩ := p
    rw [hcl2] at h
    obtain ⟨hfn, hσ', hout, hrun⟩ := hcall f _ _ out σ' hcl2 w (innerMu σ μ ren) vs hinv hcanon hargs' hfull hvs
    rw [hlen] at hσ' hout
    cases out with
    | ret v =>
      obtain ⟨δ, h1, h2, h3⟩ := backOb_ok ren 0 h
      obtain ⟨u, h4, h5⟩ := castOut_ok h1
      refine ⟨.val u, δ, ren, h4, hfn, hrun.mono ?_⟩
      intro e w' ⟨μ1, haf, hv⟩
      obtain ⟨g1, g2⟩ := fin _ σ' δ hcl2 h2 h3 hσ' w' μ1 haf
      refine ⟨outerMu μ μ1 ren, g1, ?_⟩
      cases e with
      | returned x => exact h5 _ _ _ _ (g2 x v hout hv)
      | _ => exact hv.elim
    | pan v =>
      obtain ⟨δ, h1, h2, h3⟩ := backOb_ok ren 0 h
      refine ⟨.pan (v.ren (atIn ren)), δ, ren, h1, hfn, hrun.mono ?_⟩
      intro e w' ⟨μ1, haf, hv⟩
      obtain ⟨g1, g2⟩ := fin _ σ' δ hcl2 h2 h3 hσ' w' μ1 haf
      refine ⟨outerMu μ μ1 ren, g1, ?_⟩
      cases e with
      | panicked chain => obtain ⟨x, hx, hr⟩ := hv; exact ⟨x, hx, g2 x v hout hr⟩
      | _ => exact hv.elim

end
end Go.Vai
end

section
namespace Go.Vai

section
variable {R : Type} {cx : Cx} {w : World} {σ : St} {μ : Mu}

theorem run_v {s : Sem Value} {P : Program} {w w' : World} {v : Value} (h : s.run P w = .ok v w') : (do pure (Next.value (← s)) : Sem Next).run P w = .ok (.value v) w' := by
  rw [Sem.run_bind, h]; rfl

theorem run_u {s : Sem Unit} {P : Program} {w w' : World} (h : s.run P w = .ok () w') : (do s; pure Next.skip : Sem Next).run P w = .ok .skip w' := by
  rw [Sem.run_bind, h]; rfl

theorem dataOf_run {x : V} {K : Nat → List D → Option R} {r : R} (h : dataOf x K = some r) : ∃ sz l, dataOf x (fun a b => some (a, b)) = some (sz, l) ∧ K sz l = some r := by
  unfold dataOf at h ⊢
  split at h <;> first
    | exact ⟨_, _, rfl, h⟩
    | cases h

theorem freshAll_one {id : Nat} {o : Ob} (h : freshAll σ [(id, o)] = true) : getA σ id = none := by
  unfold freshAll at h
  cases hg : getA σ id with
  | none => rfl
  | some q => rw [hg] at h; simp at h

/-- The names of functions that are no functions. -/
def noRoutines (P : Program) : Prop := ∀ (f : Nat) (fn : Func), P.funcs[f]? = some fn → fn.name ≠ "runtime.NumGoroutine"

theorem run_callFunc (hn : noRoutines cx.P) {f : Nat} {fn : Func} {args : Array Value} (hf : cx.P.funcs[f]? = some fn) (hb : fn.body.isNone = false) :
    (callFunc f args).run cx.P w = .ok (.enter f args) w := by
  have h1 : (fn.name == "runtime.NumGoroutine") = false := by simpa using hn f fn hf
  unfold callFunc
  rw [Sem.run_bind, run_program, Result.andThen_ok]
  simp only [hf, h1, hb, Bool.false_eq_true, if_false]
  rfl

theorem handed_ok {v : V} {v' : Value} (h : RV w σ μ v' v) : RV w σ μ v' v.handed := by
  cases h with
  | sl v sz l id n h ht hn he => exact .d _ _ h
  | d v x h => exact .d _ _ h
  | ptr id off b hi hb => exact .ptr id off b hi hb
  | eptr x b o off xs hc h => exact .eptr x b o off xs hc h
  | gptr g off => exact .gptr g off
  | agg cs l hl ho h => exact .agg cs l hl ho h
  | slo id off n cap b l hi hb hn hcap => exact .slo id off n cap b l hi hb hn hcap
  | func f cs l hl h => exact .func f cs l hl h
  | map id b ks vs hi hb => exact .map id b ks vs hi hb
  | iface t v u h => exact .iface t v u h
  | tup cs l hl h => exact .tup cs l hl h

theorem handed2_ok {v : V} {v' : Value} (h : RV w σ μ v' v) : RV w σ μ v' v.handed2 := by
  cases v with
  | agg l =>
    cases hd : elemD (.agg l) with
    | some d =>
      have e : V.handed2 (.agg l) = .d d := by simp [V.handed2, hd]
      rw [e]
      exact .d _ _ (elemD_ok h hd)
    | none =>
      have e : V.handed2 (.agg l) = .agg l := by simp [V.handed2, hd]
      rw [e]
      exact h
  | _ => exact handed_ok h

theorem bareV_ok {b : Bool} {v : V} {v' : Value} (h : RV w σ μ v' v) : RV w σ μ v' (bareV b v) := by
  cases b
  · exact h
  · exact handed2_ok h

theorem handArgs_ok {keep : Bool} {vs : List Value} {l : List V} (h : RVs w σ μ vs l) : RVs w σ μ vs (handArgs keep l) := by
  unfold handArgs
  cases keep
  · refine ⟨by simp [h.1], fun i x y hx hy => ?_⟩
    simp only [cond_false, List.getElem?_map, Option.map_eq_some_iff] at hy
    obtain ⟨z, hz, rfl⟩ := hy
    exact handed2_ok (h.2 i x z hx hz)
  · exact h

theorem RVs.append' {vs ws : List Value} {l k : List V} (h : RVs w σ μ vs l) (h' : RVs w σ μ ws k) : RVs w σ μ (vs ++ ws) (l ++ k) := by
  refine ⟨by simp [h.1, h'.1], fun i x y hx hy => ?_⟩
  by_cases hi : i < vs.length
  · rw [List.getElem?_append_left hi] at hx
    rw [List.getElem?_append_left (by rw [← h.1]; exact hi)] at hy
    exact h.2 i x y hx hy
  · rw [List.getElem?_append_right (by omega)] at hx
    rw [List.getElem?_append_right (by rw [← h.1]; omega)] at hy
    rw [← h.1] at hy
    exact h'.2 _ x y hx hy

theorem optE_opd {a : Act} {fr : Fr} (hf : FR w σ μ a.tmps fr) {x : Option Operand} {K : Option V → Option R} {r : R}
    (h : opdO fr x K = some r) : ∃ v, K v = some r ∧ optRV w σ μ v (x.map a.eval) := by
  cases x with
  | none => exact ⟨none, h, trivial⟩
  | some x => obtain ⟨v, hv, h⟩ := optK_some h; exact ⟨some v, h, opd_ok hf hv⟩

theorem argsNil_ok {a : Act} {fr : Fr} (hi : Inv cx w σ μ) (hf : FR w σ μ a.tmps fr) {id : Nat} (haf : After cx w σ μ w (applyDe σ [(id, .tok 0)]) (setMu μ id ⟨none, 0, 0, 0⟩)) (hg : getA σ id = none) :
    ∀ (xs : List Operand) (ts : List Nat) (l : List V), argsNil cx.P fr id xs ts = some l → RVs w (applyDe σ [(id, .tok 0)]) (setMu μ id ⟨none, 0, 0, 0⟩) (xs.map a.eval) l
  | [], ts, l, h => by simp only [argsNil] at h; cases h; exact ⟨rfl, by simp⟩
  | x :: xs, ts, l, h => by
    simp only [argsNil] at h
    split at h
    · cases h
    · rename_i l' hl
      have ih := argsNil_ok hi hf haf hg xs _ l' hl
      have one : ∀ {v : V}, RV w (applyDe σ [(id, .tok 0)]) (setMu μ id ⟨none, 0, 0, 0⟩) (a.eval x) v → RVs w (applyDe σ [(id, .tok 0)]) (setMu μ id ⟨none, 0, 0, 0⟩) ((x :: xs).map a.eval) (v :: l') := by
        intro v hv
        refine ⟨by simp [ih.1], fun i p q hp hq => ?_⟩
        cases i with
        | zero => simp at hp hq; subst hp; subst hq; exact hv
        | succ i => exact ih.2 i p q (by simpa using hp) (by simpa using hq)
      split at h
      · split at h
        · cases h
          exact one (bare_ok (w := w) (μ := μ) (base := none) hg (cap := 0) rfl (.inr rfl)).2
        · cases h
      · split at h
        · rename_i v hv
          cases h
          exact one (haf.rv hi (opd_ok hf hv))
        · cases h

theorem run_zeroless {P : Program} {t xt : Nat} {ok : Bool} {v : Value} {w : World} (ht : hasTy P t = true) (hif : isIface P t = false) :
    (Instr.typeAssert (.iface t v) xt t ok).run P w = .ok (if ok then .tuple #[v, .bool true] else v) w := by
  unfold hasTy at ht
  unfold isIface at hif
  cases hu : P.underlying t with
  | none => rw [hu] at ht; cases ht
  | some u =>
    rw [hu] at hif
    unfold Instr.typeAssert
    cases u <;> first | (cases hif; done) | simp [run_underlying hu]

/-- What is given back as it was given. -/
theorem run_same {P : Program} {g : Nat} (h : isSame P g = true) (x : Value) {w : World} : (callFunc g #[x]).run P w = .ok (.value x) w := by
  unfold isSame at h
  split at h
  · rename_i fn hfn
    simp only [Bool.and_eq_true, beq_iff_eq] at h
    obtain ⟨⟨h1, h2⟩, h3⟩ := h
    have e1 : Extern.findNext fn = none := by
      unfold Extern.findNext
      rw [h2, h3]
      kernel_rfl
    have e2 : Extern.find fn = some Extern.AbiNoEscape.same := by
      unfold Extern.find
      rw [h2, h3]
      kernel_rfl
    rw [run_callFunc_extern hfn (by rw [h2]; decide) h1 e1 e2]
    rfl
  · cases h

/-- An address seen otherwise. -/
theorem convU_ok {R : Type} {s t : Nat} {x : V} {x' : Value} {K : V → List Nat → Option R} {r : R} (hi : Inv cx w σ μ) (hx : RV w σ μ x' x) (h : convU cx σ s t x K = some r) :
    ∃ v fp, K v fp = some r ∧ ∃ v', (convert s t x').run cx.P w = .ok v' w ∧ RV w σ μ v' v := by
  unfold convU at h
  split at h
  · rename_i id off
    split at h
    · rename_i n u ho
      obtain ⟨hc, h⟩ := must_some h
      have hx0 := hx
      cases hx with | ptr _ _ b hcell hb => ?_
      obtain ⟨b', cs, el, hb', hh, hn, htup, h1, hr, htag⟩ := hi.ob id _ ho
      obtain rfl : b = b' := by rw [hb] at hb'; exact Option.some.inj hb'
      have hsh : w.shape? b = some (el, cs.size) := by simp [World.shape?, hh]
      refine ⟨_, _, h, _, ?_, hx0⟩
      unfold ptrOk at hc
      split at hc
      · rename_i e hs ht
        rw [Bool.and_eq_true] at hc
        obtain ⟨c1, c2⟩ := hc
        split at c1
        · rename_i j hj
          have c3 : off < cs.size := by
            have : off < szN n := by simpa using c2
            omega
          exact Go.Lib.run_to_unsafe w ⟨b, off, none⟩ hs ht hj (fun e0 => by rw [e0] at c1; cases c1) hsh c3
        · cases c1
      · rename_i e hs ht
        simp only [Bool.and_eq_true, Bool.not_eq_true'] at hc
        obtain ⟨⟨c1, c2⟩, c3⟩ := hc
        obtain ⟨j, hj⟩ := Option.isSome_iff_exists.1 c1
        have hel : el = n / 1048576 - 1 := by
          rcases htag with h | h
          · have : Nat.blt n 1048576 = true := by simpa using h
            rw [this] at c2; cases c2
          · show el = n / 1048576 - 1
            rw [h]; rfl
        refine Go.Lib.run_from_unsafe w ⟨b, off, none⟩ hs ht hj hsh ?_
        rw [hel, hn]
        exact c3
      · cases hc
    · cases h
  · cases h

theorem evOp_ok {m nt : Nat} {call : Nat → List V → St → Option (Out × St)} (hcall : CallOk cx call) (hn : noRoutines cx.P) (hi : Inv cx w σ μ) {a : Act} {fr : Fr} (hf : FR w σ μ a.tmps fr) {o : Oper}
    {K : Oc → De → List Nat → Option R} {r : R} (h : evOp cx m nt call o fr σ K = some r) : ∃ oc δ fp, K oc δ fp = some r ∧ OpOk cx w σ μ a o oc δ := by
  obtain ⟨dst, op, type, pos, after, guard⟩ := o
  have hval : ∀ {v : V} {v' : Value} {fp}, K (.val v) [] fp = some r → True → RV w σ μ v' v → ((execOp a.eval ⟨dst, op, type, pos, after, guard⟩).run cx.P w = .ok (.value v') w) →
      ∃ oc δ fp, K oc δ fp = some r ∧ OpOk cx w σ μ a ⟨dst, op, type, pos, after, guard⟩ oc δ := fun hK _ hv hr => ⟨_, _, _, hK, OpOk.value hi _ hr hv⟩
  have hmove : ∀ {x : Operand}, (execOp a.eval ⟨dst, op, type, pos, after, guard⟩ = pure (.value (a.eval x))) →
      (match x with
     | .const (.slice none 0 0) =>
       (match cx.P.underlying type with
        | some (.slice e) => (match getA σ (m + dst.getD 0) with
          | none => K (.val (.sl (cx.P.cellsOf e) [] (m + dst.getD 0))) [(m + dst.getD 0, .tok 0)] [m + dst.getD 0]
          | some _ => K (.val (.d (.sl (cx.P.cellsOf e) []))) [] [m + dst.getD 0])
        | _ => none)
     | x => optK (opd fr x) fun v => K (.val v) [] []) = some r → ∃ oc δ fp, K oc δ fp = some r ∧ OpOk cx w σ μ a ⟨dst, op, type, pos, after, guard⟩ oc δ := by
    intro x he h
    split at h
    · split at h
      · split at h
        · rename_i hg
          obtain ⟨h1, h2⟩ := bare_ok (w := w) (μ := μ) (sz := cx.P.cellsOf _) (base := none) hg rfl (.inr rfl)
          exact ⟨_, _, _, h, OpOk.of_upd hi _ (by rw [he]; rfl) (bareUpd hg) h1 h2⟩
        · exact hval h trivial (.d _ _ (.sl0 none 0 _)) (by rw [he]; rfl)
      · cases h
    · obtain ⟨v, hv, h⟩ := optK_some h
      exact hval h trivial (opd_ok hf hv) (by rw [he]; rfl)
  cases op
  case makeFunc fn first caps =>
    cases fn <;> simp only [evOp] at h <;> first | (cases h; done) | skip
    obtain ⟨hc, h'⟩ := must_some h
    clear h
    obtain ⟨l, hl, h⟩ := optK_some h'
    have hfe : first = #[] := by simpa using hc
    subst hfe
    obtain ⟨h1, h2⟩ := argsOf_ok hf _ _ _ hl
    exact hval h trivial (.func _ (caps.map a.eval) l (by rw [← h1]; simp) fun i x y hx hy => h2 i x y (by simpa using hx) hy) (run_v (by simp [Instr.makeFunc]))
  case makeMap t rr =>
    cases rr <;> simp only [evOp] at h <;> first | (cases h; done) | skip
    obtain ⟨hc, h⟩ := must_some h
    obtain ⟨w', h1, h2, h3, h4⟩ := makeMap_ok (cx := cx) (w := w) (μ := μ) (t := t) (freshAll_one hc)
    exact ⟨_, _, _, h, OpOk.of_upd hi _ (run_v h1) h2 h3 h4⟩
  all_goals simp only [evOp] at h
  all_goals first | (cases h; done) | skip
  case move x => exact hmove rfl h
  case assign x => exact hmove rfl h
  case pick c x y =>
    obtain ⟨c', hc, h⟩ := optK_some h
    obtain ⟨b, rfl, h⟩ := asB_some h
    have hcb : a.eval c = .bool b := by
      have hr := opd_ok hf hc
      generalize a.eval c = q at hr
      cases hr with | d _ _ hd => cases hd; rfl
    cases b
    · obtain ⟨v, hv, h⟩ := optK_some h
      exact hval h trivial (opd_ok hf hv) (by simp [execOp, hcb, Go.asBool])
    · obtain ⟨v, hv, h⟩ := optK_some h
      exact hval h trivial (opd_ok hf hv) (by simp [execOp, hcb, Go.asBool])
  case alloc e =>
    obtain ⟨z, hz, h⟩ := optK_some h
    obtain ⟨hc, h⟩ := must_some h
    rw [Bool.and_eq_true, Bool.and_eq_true] at hc
    obtain ⟨t1, t2⟩ := tagN_ok (cx := cx) (nt := nt) (dst := dst) hc.2
    obtain ⟨w', μ', h1, h2, h3, h4⟩ := alloc_ok (w := w) (μ := μ) t1 t2 hz _ rfl hc.1.1 (by
      have := hc.1.2
      cases ha : aggTy cx.P e
      · right; simpa [ha] using this
      · exact .inl rfl)
    exact ⟨_, _, _, h, OpOk.of_upd hi _ (run_v h1) h2 h3 h4⟩
  case box e x =>
    obtain ⟨v, hv, h⟩ := optK_some h
    obtain ⟨hc, h⟩ := must_some h
    simp only [Bool.and_eq_true, Bool.not_eq_true'] at hc
    obtain ⟨w', h1, h2, h3, h4⟩ := box_ok (e := e) hi (opdT_ok hf hv) hc.1.1.1 ((Nat.eq_of_beq_eq_true hc.1.1.2).trans (tagN_ok (cx := cx) (nt := nt) (dst := dst) hc.2).1.symm) (tagN_ok hc.2).2 (freshAll_one hc.1.2)
    exact ⟨_, _, _, h, OpOk.of_upd hi _ (run_v h1) h2 h3 h4⟩
  case build t ps =>
    cases hty : cx.typed nt (dst.getD 0)
    · rw [hty, cond_false] at h
      obtain ⟨z, hz, h⟩ := optK_some h
      obtain ⟨l, hl, h⟩ := optK_some h
      obtain ⟨cs, hcs, h⟩ := optK_some h
      obtain ⟨hk, h⟩ := must_some h
      obtain ⟨v', h1, h2⟩ := build_ok (w := w) hf hz hl hcs hk
      exact hval h trivial (bareV_ok h2) (run_v h1)
    · rw [hty, cond_true] at h
      obtain ⟨z, hz, h⟩ := optK_some h
      obtain ⟨hc, h⟩ := must_some h
      simp only [Bool.and_eq_true] at hc
      have hps : ps = #[] := by simpa using hc.1.1
      obtain ⟨v', μ', h1, h2, h3, h4⟩ := buildZ_ok (w := w) (μ := μ) hz hc.1.2 hc.2
      exact ⟨_, _, _, h, OpOk.of_upd hi _ (run_v (by rw [hps]; simpa using h1)) h2 h3 h4⟩
  case buildSlice t n ps =>
    split at h
    · rename_i e hu
      obtain ⟨z, hz, h⟩ := optK_some h
      obtain ⟨l, hl, h⟩ := optK_some h
      obtain ⟨xs, hx, h⟩ := optK_some h
      obtain ⟨hc, h⟩ := must_some h
      simp only [Bool.and_eq_true, Bool.not_eq_true'] at hc
      cases hbare : isBare cx nt dst ps.toList <;> rw [hbare] at h
      case true =>
        obtain ⟨w', h1, h2, h3⟩ := buildSlice_d hi hf hu hz hl hx (freshAll_one hc.1.1.1) (Nat.le_of_ble_eq_true hc.1.1.2) (Nat.le_of_ble_eq_true hc.1.2)
          (fun e => by simp [e] at hc)
        exact ⟨_, _, _, h, OpOk.of_upd hi _ (run_v h1) h2 (fun j hj => by simp at hj) h3⟩
      obtain ⟨w', lo, h1, h2, h3, h4⟩ := buildSlice_ok hi hf hu hz hl hx (freshAll_one hc.1.1.1) (Nat.le_of_ble_eq_true hc.1.1.2) (Nat.le_of_ble_eq_true hc.1.2)
        (fun e => by simp [e] at hc)
      exact ⟨_, _, _, h, OpOk.of_upd hi _ (run_v h1) h2 h3 h4⟩
    · cases h
  case load t p =>
    obtain ⟨p', hp, h⟩ := optK_some h
    obtain ⟨v, fp, h, v', h1, h2⟩ := loadV_ok hi (opd_ok hf hp) h
    exact hval h trivial h2 (run_v h1)
  case store t p x =>
    obtain ⟨p', hp, h⟩ := optK_some h
    obtain ⟨v, hv, h⟩ := optK_some h
    obtain ⟨hty, h⟩ := must_some h
    obtain ⟨δ, fp, h, w', id, h1, h2, h3⟩ := storeV_ok hi (opd_ok hf hp) (opdT_ok hf hv) h hty
    exact ⟨_, _, _, h, OpOk.of_skip hi (run_u h1) h2 h3⟩
  case nilCheck x =>
    obtain ⟨v, hv, h⟩ := optK_some h
    have hr := opd_ok hf hv
    split at h
    · refine hval h trivial hr ?_
      generalize hq : a.eval x = q at hr ⊢
      cases hr with | ptr id off b _ _ => simp [execOp, hq]
    · refine hval h trivial hr ?_
      generalize hq : a.eval x = q at hr ⊢
      cases hr with | eptr x b o off xs hc hh => simp [execOp, hq]
    · refine hval h trivial hr ?_
      generalize hq : a.eval x = q at hr ⊢
      cases hr with | gptr g off => simp [execOp, hq]
    · refine hval h trivial hr ?_
      generalize hq : a.eval x = q at hr ⊢
      cases hr with | func f cs l hl hh => simp [execOp, hq]
    · cases h
  case binOp op t x y u =>
    obtain ⟨v1, hv1, h⟩ := optK_some h
    obtain ⟨v2, hv2, h⟩ := optK_some h
    obtain ⟨v, h, v', h1, h2⟩ := binV_ok (w := w) (opdT_ok hf hv1) (opdT_ok hf hv2) h
    exact hval h trivial h2 (run_v h1)
  case unOp op t x =>
    obtain ⟨v1, hv1, h⟩ := optK_some h
    obtain ⟨v, h, v', h1, h2⟩ := unV_ok (P := cx.P) (w := w) (opd_ok hf hv1) h
    exact hval h trivial h2 (run_v h1)
  case convert s t x =>
    obtain ⟨v1, hv1, h⟩ := optK_some h
    split at h
    · rename_i e' e sz l id hu1 hu2
      split at h
      · rename_i n hu3 hg
        obtain ⟨hc, h'⟩ := must_some h
        clear h
        simp only [Bool.and_eq_true, Bool.not_eq_true', decide_eq_true_eq] at hc
        obtain e3 := Nat.eq_of_beq_eq_true hc.1.1
        subst e3
        have h := h'
        rw [hu1] at hu2; cases hu2
        obtain ⟨w', h1, h2, h3, h4⟩ := freeze_ok hi (opdT_ok hf hv1) (by have := hc.1.2; intro e; simp [e] at this) hg hc.2 hu1 hu3
        exact ⟨_, _, _, h, OpOk.of_upd hi _ (run_v h1) h2 h3 h4⟩
      · cases h
    · cases hun : isUns cx.P s t <;> rw [hun] at h <;> simp only [cond_true, cond_false] at h
      · obtain ⟨v, h, v', h1, h2⟩ := convV_ok (w := w) (opdT_ok hf hv1) h
        exact hval h trivial h2 (run_v h1)
      · obtain ⟨v, fp, h, v', h1, h2⟩ := convU_ok hi (opdT_ok hf hv1) h
        exact hval h trivial h2 (run_v h1)
  case makeInterface t x =>
    split at h
    · cases h
    · cases h
    · rename_i hu1 hu2
      obtain ⟨v, hv, h⟩ := optK_some h
      have hr := opdT_ok hf hv
      have hrun : (Instr.makeInterface t (a.eval x)).run cx.P w = .ok (.iface t (a.eval x)) w := by
        unfold Instr.makeInterface
        cases hu : cx.P.underlying t with
        | none => exact absurd hu hu2
        | some u =>
          rw [Sem.run_bind, run_underlying hu, Result.andThen_ok]
          cases u <;> first | rfl | exact absurd hu (hu1 _)
      split at h
      · rename_i y hy
        exact hval h trivial (.d _ _ (.iface t _ _ (elemD_ok hr hy))) (run_v hrun)
      · exact hval h trivial (.iface t _ _ hr) (run_v hrun)
  case slice t x lo hii mx =>
    obtain ⟨v1, hv1, h⟩ := optK_some h
    obtain ⟨l, h, hl⟩ := optE_opd hf h
    obtain ⟨hh, h, hhh⟩ := optE_opd hf h
    obtain ⟨mm, h, hm⟩ := optE_opd hf h
    obtain ⟨v, δ, fp, h, v', μ', ids, h1, h2, h3, h4⟩ := sliceV_ok (opdT_ok hf hv1) hl hhh hm h
    exact ⟨_, _, _, h, OpOk.of_upd hi _ (run_v h1) h2 h3 h4⟩
  case fieldAddr s x f =>
    obtain ⟨v1, hv1, h⟩ := optK_some h
    obtain ⟨v, h, v', h1, h2⟩ := fieldAddrV_ok (w := w) (opd_ok hf hv1) h
    exact hval h trivial h2 (run_v h1)
  case field t x f =>
    obtain ⟨v1, hv1, h⟩ := optK_some h
    obtain ⟨p, hp, h⟩ := optK_some h
    obtain ⟨v, h, v', h1, h2⟩ := field_ok (w := w) (opd_ok hf hv1) hp h
    exact hval h trivial h2 (run_v h1)
  case indexAddr t x i =>
    obtain ⟨v1, hv1, h⟩ := optK_some h
    obtain ⟨v2, hv2, h⟩ := optK_some h
    obtain ⟨v, h, v', h1, h2⟩ := indexAddrV_ok (w := w) (opd_ok hf hv1) (opd_ok hf hv2) h
    exact hval h trivial h2 (run_v h1)
  case index t x i =>
    obtain ⟨v1, hv1, h⟩ := optK_some h
    obtain ⟨v2, hv2, h⟩ := optK_some h
    obtain ⟨v, h, v', h1, h2⟩ := indexV_ok (w := w) (opd_ok hf hv1) (opd_ok hf hv2) h
    exact hval h trivial h2 (run_v h1)
  case extract t i =>
    obtain ⟨v1, hv1, h⟩ := optK_some h
    obtain ⟨l, rfl, h⟩ := asTup_some h
    obtain ⟨v, hv, h⟩ := nthV_some h
    have hr := opd_ok hf hv1
    generalize hq : a.eval t = q at hr
    cases hr with | tup cs _ hl hh => ?_
    have hlt : i < cs.size := by rw [hl]; exact (List.getElem?_eq_some_iff.1 hv).1
    exact hval h trivial (hh i cs[i] v (by simp) hv) (run_v (by simp [Instr.extract, hq, hlt]))
  case panic x => 
    obtain ⟨v1, hv1, h⟩ := optK_some h
    split at h <;> first | (cases h; done) | skip
    rename_i t y
    have hr := opd_ok hf hv1
    refine ⟨_, _, _, h, fun next Q hk => ?_⟩
    have hk := hk _ w μ (After.refl hi) hr
    generalize hq : a.eval x = q at hr hk
    cases hr with | d v' _ hd => ?_
    cases hd with | iface _ v0 _ h0 => ?_
    unfold Oper.wp
    have : (execOp a.eval ⟨dst, .panic x, type, pos, after, guard⟩).run cx.P w = .halt (.panic (.iface t v0)) w := by
      simp [execOp, hq, Instr.panic]
    rw [this]
    exact hk
  case typeAssert x xt t ok =>
    obtain ⟨v, hv, h1⟩ := optK_some h
    clear h
    unfold assertV at h1
    obtain ⟨hc, h2⟩ := must_some h1
    clear h1
    simp only [Bool.and_eq_true, Bool.not_eq_true'] at hc
    split at h2
    · rename_i t' y
      cases hb : Nat.beq t' t <;> rw [hb] at h2
      · cases h2
      · obtain rfl := Nat.eq_of_beq_eq_true hb
        have hr := opd_ok hf hv
        generalize hq : a.eval x = q at hr
        cases hr with | d v' _ hd => ?_
        cases hd with | iface _ v0 _ h0 => ?_
        refine hval h2 trivial ?_ (run_v (v := if ok then .tuple #[v0, .bool true] else v0) (by rw [hq]; exact run_zeroless hc.1 hc.2))
        cases ok
        · exact .d _ _ h0
        · refine .tup _ _ rfl fun i p q hp hq => ?_
          match i with
          | 0 => simp at hp hq; subst hp; subst hq; exact .d _ _ h0
          | 1 => simp at hp hq; subst hp; subst hq; exact .d _ _ (.bool true)
          | i + 2 => simp at hp
    · cases h2
  case call c =>
    obtain ⟨callee, cargs, ctypes⟩ := c
    split at h
    · rename_i f hcl
      simp only at hcl
      subst hcl
      obtain ⟨fv, hfv, h⟩ := optK_some h
      split at h <;> first | (cases h; done) | skip
      rename_i g cap
      have hr := opd_ok hf hfv
      generalize hq : a.eval f = q at hr
      cases hr with | func _ cs _ hcl hch => ?_
      have hrun : ∀ {fn : Func}, cx.P.funcs[g]? = some fn → fn.body.isNone = false → (execOp a.eval ⟨dst, .call ⟨.value f, cargs, ctypes⟩, type, pos, after, guard⟩).run cx.P w = .ok (.enter g (cargs.toList.map a.eval ++ cs.toList).toArray) w := by
        intro fn hfn hbody
        simp only [execOp, resolve, hq, Deferred.ofValue]
        rw [Sem.run_bind]
        simp only [Sem.run_pure, Result.andThen_ok, invoke]
        rw [show (#[] ++ Array.map a.eval cargs ++ cs) = (cargs.toList.map a.eval ++ cs.toList).toArray by
          apply Array.ext'; simp]
        exact run_callFunc hn hfn hbody
      have hcap : RVs w σ μ cs.toList cap := ⟨by simpa using hcl, fun i x y hx hy => hch i x y (by simpa using hx) hy⟩
      have tokd : ∀ {l : List V} {xs : List Nat}, freshAll σ [(m + dst.getD 0, Ob.tok 0)] = true →
          (getA σ (m + dst.getD 0) = none → After cx w σ μ w (applyDe σ [(m + dst.getD 0, .tok 0)]) (setMu μ (m + dst.getD 0) ⟨none, 0, 0, 0⟩) → RVs w (applyDe σ [(m + dst.getD 0, .tok 0)]) (setMu μ (m + dst.getD 0) ⟨none, 0, 0, 0⟩) (cargs.toList.map a.eval) l) →
          (callV cx call (putA σ (m + dst.getD 0) (.tok 0)) type g (l ++ cap) xs fun oc δ fp => K oc ((m + dst.getD 0, Ob.tok 0) :: δ) ((m + dst.getD 0) :: fp)) = some r →
          ∃ oc δ fp, K oc δ fp = some r ∧ OpOk cx w σ μ a ⟨dst, .call ⟨.value f, cargs, ctypes⟩, type, pos, after, guard⟩ oc δ := by
        intro l xs hfr hl h
        have hg := freshAll_one hfr
        obtain ⟨hob, _⟩ := bare_ok (w := w) (μ := μ) (sz := 0) (base := none) hg (cap := 0) rfl (.inr rfl)
        have haf0 := (bareUpd (cx := cx) (w := w) (μ := μ) (ob := .tok 0) hg).after hi hob
        have hargs : RVs w (putA σ (m + dst.getD 0) (.tok 0)) (setMu μ (m + dst.getD 0) ⟨none, 0, 0, 0⟩) (cargs.toList.map a.eval ++ cs.toList) (l ++ cap) :=
          RVs.append' (hl hg haf0) (hcap.map fun v x _ hv => haf0.rv hi hv)
        obtain ⟨oc, δ, fp, hK, ⟨fn, hfn, hbody⟩, hcalls⟩ := callV_ok hcall haf0.inv hargs h
        refine ⟨oc, _, _, hK, fun next Q hk => ?_⟩
        unfold Oper.wp
        rw [hrun hfn hbody, Oper.upon_enter]
        refine hcalls.mono fun e w' ⟨μ', haf, he⟩ => ?_
        cases oc with
        | val v => cases e <;> first | exact hk _ _ _ (haf0.trans haf) he | exact he.elim
        | pan v => cases e <;> first | exact he.elim | (obtain ⟨x, rfl, hx⟩ := he; exact hk _ _ _ (haf0.trans haf) hx)
      cases hsm : (isSame cx.P g && cap.isEmpty) <;> rw [hsm] at h <;> simp only [cond_true, cond_false] at h
      rotate_left
      · rw [Bool.and_eq_true] at hsm
        obtain ⟨l, hl, h⟩ := optK_some h
        have hal := argsOf_ok hf _ _ _ hl
        unfold oneV at h
        split at h
        · rename_i v
          have hc0 : cs.toList = [] := by
            have h1 : cap.length = 0 := by simpa using hsm.2
            exact List.eq_nil_of_length_eq_zero (by rw [hcap.1]; exact h1)
          obtain ⟨x, hx⟩ : ∃ x, cargs.toList.map a.eval = [x] := List.length_eq_one_iff.1 hal.1
          have hrx : RV w σ μ x v := hal.2 0 x v (by rw [hx]; rfl) rfl
          exact hval h trivial hrx (by
            simp only [execOp, resolve, hq, Deferred.ofValue]
            rw [Sem.run_bind]
            simp only [Sem.run_pure, Result.andThen_ok, invoke]
            rw [show (#[] ++ Array.map a.eval cargs ++ cs) = #[x] by
              apply Array.ext'; simp [hc0, hx]]
            exact run_same hsm.1 x)
        · cases h
      cases hgv : cx.gives g <;> rw [hgv] at h
      · cases hnil : (cx.keep g && hasNil cargs.toList) <;> rw [hnil] at h
        · obtain ⟨l, hl, h⟩ := optK_some h
          have hargs : RVs w σ μ (cargs.toList.map a.eval ++ cs.toList) (handArgs (cx.keep g) l ++ cap) :=
            RVs.append' (handArgs_ok (argsOf_ok hf _ _ _ hl)) hcap
          obtain ⟨oc, δ, fp, hK, ⟨fn, hfn, hbody⟩, hcalls⟩ := callV_ok hcall hi hargs h
          refine ⟨oc, δ, fp, hK, fun next Q hk => ?_⟩
          unfold Oper.wp
          rw [hrun hfn hbody, Oper.upon_enter]
          refine hcalls.mono fun e w' ⟨μ', haf, he⟩ => ?_
          cases oc with
          | val v => cases e <;> first | exact hk _ _ _ haf he | exact he.elim
          | pan v => cases e <;> first | exact he.elim | (obtain ⟨x, rfl, hx⟩ := he; exact hk _ _ _ haf hx)
        · obtain ⟨l, hl, h⟩ := optK_some h
          obtain ⟨hfr, h⟩ := must_some h
          exact tokd hfr (fun hg haf0 => argsNil_ok hi hf haf0 hg _ _ _ hl) h
      · obtain ⟨l, hl, h⟩ := optK_some h
        obtain ⟨hfr, h⟩ := must_some h
        exact tokd hfr (fun hg haf0 => handArgs_ok ((argsOf_ok hf _ _ _ hl).map fun v x _ hv => haf0.rv hi hv)) h
    · rename_i hcl
      simp only at hcl
      subst hcl
      split at h
      · rename_i x t hx ht
        obtain ⟨v1, hv1, h⟩ := optK_some h
        obtain ⟨v, fp, h, v', h1, h2⟩ := lenV_ok (ty := type) hi (opdT_ok hf hv1) h
        have e1 : cargs = #[x] := by apply Array.ext'; simpa using hx
        have e2 : ctypes = #[t] := by apply Array.ext'; simpa using ht
        subst e1 e2
        exact hval h trivial h2 (by
          simp only [execOp, resolve]
          rw [Sem.run_bind]
          simp only [Sem.run_pure, Result.andThen_ok, invoke, builtin]
          exact run_v (by simpa using h1))
      · cases h
    · rename_i hcl
      simp only at hcl
      subst hcl
      split at h
      · rename_i s x t t' hx ht
        obtain ⟨v1, hv1, h⟩ := optK_some h
        obtain ⟨v2, hv2, h⟩ := optK_some h
        obtain ⟨ht', h⟩ := must_some h
        have e1 : cargs = #[s, x] := by apply Array.ext'; simpa using hx
        have e2 : ctypes = #[t, t'] := by apply Array.ext'; simpa using ht
        subst e1 e2
        have hexec : ∀ {v' w'}, (Builtin.append_ #[t, t'] type #[a.eval s, a.eval x]).run cx.P w = .ok v' w' →
            (execOp a.eval ⟨dst, .call ⟨.builtin .append, #[s, x], #[t, t']⟩, type, pos, after, guard⟩).run cx.P w = .ok (.value v') w' := by
          intro v' w' h1
          simp only [execOp, resolve]
          rw [Sem.run_bind]
          simp only [Sem.run_pure, Result.andThen_ok, invoke, builtin]
          exact run_v (by simpa using h1)
        unfold appendV at h
        split at h
        · rename_i e hu
          obtain ⟨sz', ys, hd, h⟩ := dataOf_run h
          obtain ⟨hc, h⟩ := must_some h
          simp only [Bool.and_eq_true, Bool.or_eq_true, Nat.beq_eq] at hc
          obtain ⟨z, hz⟩ := Option.isSome_iff_exists.1 hc.2
          have hsz' : sz' = cx.P.cellsOf e ∨ ys = [] := hc.1.1.imp id fun h => by simpa using h
          have hby := Nat.le_of_ble_eq_true hc.1.2
          cases hnil : nilConst s
          · rw [hnil, cond_false] at h
            split at h
            · rename_i sz l id
              split at h
              · rename_i n hg
                obtain ⟨hc2, h⟩ := must_some h
                simp only [Bool.and_eq_true, decide_eq_true_eq] at hc2
                obtain ⟨⟨⟨hc3, hcT⟩, hc4⟩, hc5⟩ := hc2
                obtain ⟨v', w', lo, h1, h2, h3, h4⟩ := append_ok (ty := type) hi (opdT_ok hf hv1) (opdT_ok hf hv2) hd hu hz ht' hsz' (Nat.eq_of_beq_eq_true hc3) (tagB_ok hcT) hby (hc4 ▸ hg) hc5
                exact ⟨_, _, _, h, OpOk.of_upd hi _ (hexec h1) h2 h3 h4⟩
              · cases h
            · cases h
          · rw [hnil, cond_true] at h
            obtain ⟨hc2, h⟩ := must_some h
            simp only [Bool.and_eq_true, decide_eq_true_eq] at hc2
            have hs : a.eval s = .slice none 0 0 := by
              unfold nilConst at hnil
              split at hnil
              · rfl
              · cases hnil
            obtain ⟨v', w', lo, h1, h2, h3, h4⟩ := append_nil_ok (ty := type) hi (opdT_ok hf hv2) hd hu hz ht' hsz' hby (freshAll_one hc2.1.1) hc2.1.2 (by simpa using hc2.2)
            rw [← hs] at h1
            exact ⟨_, _, _, h, OpOk.of_upd hi _ (hexec h1) h2 h3 h4⟩
        · cases h
      · cases h
    · cases h

end
end Go.Vai
end

section
namespace Go.Vai

section
variable {R α : Type} {cx : Cx} {σ : St}

abbrev Caller := Nat → List V → St → Option (Out × St)

theorem optK_optK {β : Type} (o : Option β) (F : β → Option α) (K : α → Option R) : optK (optK o F) K = optK o fun x => optK (F x) K := by cases o <;> rfl
theorem optK_must (b : Bool) (X : Option α) (K : α → Option R) : optK (must b X) K = must b (optK X K) := by cases b <;> rfl
theorem optK_cond (b : Bool) (X Y : Option α) (K : α → Option R) : optK (bif b then X else Y) K = bif b then optK X K else optK Y K := by cases b <;> rfl
theorem optK_none' (K : α → Option R) : optK none K = none := rfl
theorem optK_some' (x : α) (K : α → Option R) : optK (some x) K = K x := rfl

theorem asB_push (v : V) (F : Bool → Option α) (K : α → Option R) : optK (asB v F) K = asB v fun x => optK (F x) K := by unfold asB; split <;> rfl
theorem asInt_push (x : D) (k : IntKind) (F : Int → Option α) (K : α → Option R) : optK (asInt x k F) K = asInt x k fun x => optK (F x) K := by unfold asInt; split <;> simp only [optK_cond, optK_none']
theorem asBool_push (x : D) (F : Bool → Option α) (K : α → Option R) : optK (asBool x F) K = asBool x fun x => optK (F x) K := by unfold asBool; split <;> rfl
theorem asStr_push (x : D) (F : List UInt8 → Option α) (K : α → Option R) : optK (asStr x F) K = asStr x fun x => optK (F x) K := by unfold asStr; split <;> rfl
theorem asSl_push (x : D) (n : Nat) (F : List D → Option α) (K : α → Option R) : optK (asSl x n F) K = asSl x n fun x => optK (F x) K := by unfold asSl; split <;> simp only [optK_cond, optK_none']
theorem asAgg_push (x : D) (n : Nat) (F : D → Option α) (K : α → Option R) : optK (asAgg x n F) K = asAgg x n fun x => optK (F x) K := by unfold asAgg; split <;> simp only [optK_cond, optK_none']
theorem asD_push (x : V) (F : D → Option α) (K : α → Option R) : optK (asD x F) K = asD x fun x => optK (F x) K := by unfold asD; split <;> rfl
theorem nthD_push (l : List D) (i : Nat) (F : D → Option α) (K : α → Option R) : optK (nthD l i F) K = nthD l i fun x => optK (F x) K := by unfold nthD; split <;> rfl
theorem nthV_push (l : List V) (i : Nat) (F : V → Option α) (K : α → Option R) : optK (nthV l i F) K = nthV l i fun x => optK (F x) K := by unfold nthV; split <;> rfl
theorem asTup_push (x : V) (F : List V → Option α) (K : α → Option R) : optK (asTup x F) K = asTup x fun x => optK (F x) K := by unfold asTup; split <;> rfl
theorem unc_push (l : List V) (F : V → List V → Option α) (K : α → Option R) : optK (unc l F) K = unc l fun x y => optK (F x y) K := by unfold unc; split <;> rfl
theorem unn_push (l : List V) (F : Option α) (K : α → Option R) : optK (unn l F) K = unn l (optK F K) := by unfold unn; split <;> rfl
theorem castD_push (P : Program) (t : Nat) (x : D) (F : V → Option α) (K : α → Option R) : optK (castD P t x F) K = castD P t x fun x => optK (F x) K := by
  unfold castD
  split <;> simp only [asInt_push, asBool_push, asStr_push, asSl_push, asAgg_push, optK_none']
  split <;> rfl
theorem castV_push (P : Program) (t : Nat) (x : V) (F : V → Option α) (K : α → Option R) : optK (castV P t x F) K = castV P t x fun x => optK (F x) K := by
  unfold castV
  split
  · exact castD_push P t _ F K
  · exact optK_must _ _ _
theorem intOp_push (op : BinOp) (k : IntKind) (a b : Int) (F : V → Option α) (K : α → Option R) : optK (intOp op k a b F) K = intOp op k a b fun x => optK (F x) K := by cases op <;> first | rfl | simp only [intOp, optK_must, optK_none']
theorem strOp_push (op : BinOp) (a b : List UInt8) (F : V → Option α) (K : α → Option R) : optK (strOp op a b F) K = strOp op a b fun x => optK (F x) K := by cases op <;> first | rfl | simp only [strOp, optK_must, optK_none']
theorem shiftOp_push (op : BinOp) (k : IntKind) (a b : Int) (F : V → Option α) (K : α → Option R) : optK (shiftOp op k a b F) K = shiftOp op k a b fun x => optK (F x) K := by cases op <;> first | rfl | simp only [shiftOp, optK_must, optK_none']
theorem eqV_push (op : BinOp) (b : Bool) (F : V → Option α) (K : α → Option R) : optK (eqV op b F) K = eqV op b fun x => optK (F x) K := by cases op <;> first | rfl | simp only [eqV, optK_none']
theorem binV_push (P : Program) (cst : Bool) (op : BinOp) (t : Nat) (x y : V) (F : V → Option α) (K : α → Option R) : optK (binV P cst op t x y F) K = binV P cst op t x y fun x => optK (F x) K := by
  unfold binV
  split <;> first | rfl | simp only [strOp_push, optK_must, eqV_push, optK_none'] | skip
  split <;> simp only [shiftOp_push, intOp_push, optK_cond, optK_none']
theorem unV_push (op : UnOp) (x : V) (F : V → Option α) (K : α → Option R) : optK (unV op x F) K = unV op x fun x => optK (F x) K := by unfold unV; split <;> rfl
theorem dataOf_push (x : V) (F : Nat → List D → Option α) (K : α → Option R) : optK (dataOf x F) K = dataOf x fun a b => optK (F a b) K := by unfold dataOf; split <;> rfl
theorem dataS_push (x : V) (F : Nat → List D → Option α) (K : α → Option R) : optK (dataS x F) K = dataS x fun a b => optK (F a b) K := by unfold dataS; split <;> rfl
theorem convV_push (P : Program) (s d : Nat) (x : V) (F : V → Option α) (K : α → Option R) : optK (convV P s d x F) K = convV P s d x fun x => optK (F x) K := by
  unfold convV
  split <;> try rfl
  split <;> simp only [dataS_push, optK_must, optK_none']
  congr 1; funext a b; congr 1
  split <;> rfl
theorem bound_push (v : Option V) (y d : Nat) (F : Nat → Option α) (K : α → Option R) : optK (bound v y d F) K = bound v y d fun x => optK (F x) K := by unfold bound; split <;> simp only [optK_must, optK_none']
theorem index_push (v : V) (n : Nat) (F : Nat → Option α) (K : α → Option R) : optK (index v n F) K = index v n fun x => optK (F x) K := by unfold index; split <;> simp only [optK_must, optK_none']
theorem opdO_push (fr : Fr) (x : Option Operand) (F : Option V → Option α) (K : α → Option R) : optK (opdO fr x F) K = opdO fr x fun x => optK (F x) K := by unfold opdO; split <;> simp only [optK_optK]
theorem spreadD_push (x : D) : ∀ (n off : Nat) (F : List D → Option α) (K : α → Option R), optK (spreadD x off n F) K = spreadD x off n fun x => optK (F x) K
  | 0, off, F, K => rfl
  | n + 1, off, F, K => by simp only [spreadD, nthD_push, spreadD_push x n]
theorem loadV_push (t : Nat) (p : V) (F : V → List Nat → Option α) (K : α → Option R) : optK (loadV cx σ t p F) K = loadV cx σ t p fun a b => optK (F a b) K := by
  unfold loadV
  rw [optK_must]
  congr 1
  split
  · split <;> simp only [optK_cond, castV_push, castD_push, optK_must, nthV_push, nthD_push, optK_none']
  · simp only [optK_cond, spreadD_push, castD_push, optK_must, nthV_push, nthD_push, optK_none']
  · simp only [optK_optK, optK_cond, asAgg_push, castD_push, optK_must, nthV_push, nthD_push, optK_none']
  · rfl
theorem storeV_push (t : Nat) (p v : V) (F : De → List Nat → Option α) (K : α → Option R) : optK (storeV cx σ t p v F) K = storeV cx σ t p v fun a b => optK (F a b) K := by
  unfold storeV
  split <;> try rfl
  split <;> simp only [optK_cond, optK_must, optK_none']
  split <;> simp only [optK_must, optK_none']
theorem castTup_push (P : Program) : ∀ (ts : List Nat) (vs : List V) (F : List V → Option α) (K : α → Option R), optK (castTup P ts vs F) K = castTup P ts vs fun x => optK (F x) K
  | [], vs, F, K => by simp only [castTup, unn_push]
  | t :: ts, vs, F, K => by
    simp only [castTup, unc_push, castV_push]
    congr 1; funext v r; congr 1; funext u
    exact castTup_push P ts r _ K
theorem castOut_push (P : Program) (t : Nat) (v : V) (F : V → Option α) (K : α → Option R) : optK (castOut P t v F) K = castOut P t v fun x => optK (F x) K := by
  unfold castOut
  split
  · split <;> simp only [asTup_push, castTup_push]
  · exact castV_push P t v F K

theorem likeV_push (o x : V) (F : V → Option α) (K : α → Option R) : optK (likeV o x F) K = likeV o x fun x => optK (F x) K := by
  unfold likeV
  split <;> simp only [asD_push, asInt_push, asBool_push, asStr_push, asSl_push]
  split <;> simp only [optK_cond, optK_none']
theorem likeL_push : ∀ (os vs : List V) (F : List V → Option α) (K : α → Option R), optK (likeL os vs F) K = likeL os vs fun x => optK (F x) K
  | [], vs, F, K => by simp only [likeL, unn_push]
  | o :: os, vs, F, K => by
    simp only [likeL, unc_push, likeV_push]
    congr 1; funext v r; congr 1; funext u
    exact likeL_push os r _ K
theorem likeO_push (o x : Ob) (F : Ob → Option α) (K : α → Option R) : optK (likeO o x F) K = likeO o x fun x => optK (F x) K := by
  unfold likeO
  split
  · rw [optK_must]
    congr 1
    split
    · exact likeL_push _ _ _ K
    · rfl
  · rw [optK_must, likeV_push]
  · rfl
theorem backOb_push (ren : List Nat) (σ' : St) : ∀ (l : List Nat) (k : Nat) (F : De → Option α) (K : α → Option R), optK (backOb ren σ σ' k l F) K = backOb ren σ σ' k l fun x => optK (F x) K
  | [], k, F, K => rfl
  | i :: l, k, F, K => by
    simp only [backOb, optK_optK, likeO_push]
    congr 1; funext a; congr 1; funext b; congr 1; funext c
    exact backOb_push ren σ' l (k + 1) _ K
theorem callV_push (call : Caller) (t f : Nat) (args : List V) (xs : List Nat) (F : Oc → De → List Nat → Option α) (K : α → Option R) : optK (callV cx call σ t f args xs F) K = callV cx call σ t f args xs fun a b c => optK (F a b c) K := by
  unfold callV
  simp only [optK_must]
  congr 1
  congr 1
  split <;> simp only [backOb_push, castOut_push, optK_none']

end
end Go.Vai
end

section
namespace Go.Vai

section
variable {R : Type} {cx : Cx} {w : World} {σ : St} {μ : Mu}

/-- Which end stands for which. -/
def exits (w : World) (σ : St) (μ : Mu) : Ex → Exit → Prop
  | .normal, .normal => True
  | .ret, .ret => True
  | .exit i, .exit j => i = j
  | .goto i, .goto j => i = j
  | .pan v, .panic chain => ∃ x, chain = [{ v := x, recovered := false }] ∧ RV w σ μ x v
  | _, _ => False

/-- The moment: since the call began. -/
structure Now (cx : Cx) (nt : Nat) (ds : List Deferred) (w₀ : World) (σ₀ : St) (μ₀ : Mu) (a : Act) (w : World) (σ : St) (μ : Mu) (fr : Fr) : Prop where
  after : After cx w₀ σ₀ μ₀ w σ μ
  fr : FR w σ μ a.tmps fr
  size : nt ≤ a.tmps.size
  defers : a.defers = ds

/-- Slots, told in other words. -/
def sameFr (fr fr' : Fr) : Prop := ∀ t, getA fr' t = getA fr t

theorem FR.same {tmps : Array Value} {fr fr' : Fr} (h : FR w σ μ tmps fr) (hs : sameFr fr fr') : FR w σ μ tmps fr' := fun t v ht => h t v (by rw [← hs t]; exact ht)

theorem sameFr.refl (fr : Fr) : sameFr fr fr := fun _ => rfl

theorem sameFr.dup {fr : Fr} {t : Nat} {v : V} (h : getA fr t = some v) : sameFr fr ((t, v) :: fr) := by
  intro t'
  simp only [getA]
  cases hb : Nat.beq t t'
  · rfl
  · obtain rfl := Nat.eq_of_beq_eq_true hb
    exact h.symm

theorem RV.bool_of {v : V} {b : Bool} (h : RV w σ μ (.bool b) v) : v = .d (.bool b) := by
  cases h with
  | d _ x hd => cases hd; rfl
  | sl _ sz l id n hd => cases hd

theorem getD_of {tmps : Array Value} {t : Nat} {v : Value} (h : tmps[t]? = some v) : tmps.getD t undef = v := by
  simp [Array.getD_eq_getD_getElem?, h]

theorem of_getD {tmps : Array Value} {t : Nat} {b : Bool} (h : tmps.getD t undef = .bool b) : tmps[t]? = some (.bool b) := by
  cases hg : tmps[t]? with
  | none => simp [Array.getD_eq_getD_getElem?, hg, undef] at h
  | some v => simp [Array.getD_eq_getD_getElem?, hg] at h; rw [h]

/-- What a guard says, from the slots alone. -/
def wants (ops : List Oper) (o : Oper) (fr : Fr) : Option Bool :=
  match o.guard with
  | none => some true
  | some (j, want) =>
    match slotOf ops j with
    | none => some false
    | some t =>
      match getA fr t with
      | some (.d (.bool b)) => some (b == want)
      | some _ => some false
      | none => none

theorem guardV_some {ops : List Oper} {o : Oper} {fr : Fr} {yes no : Fr → Option R} {r : R} (h : guardV ops o fr yes no = some r) :
    ∃ fr', sameFr fr fr' ∧ ((wants ops o fr = some true ∧ yes fr' = some r) ∨ (wants ops o fr = some false ∧ no fr' = some r)) := by
  unfold guardV at h
  unfold wants
  split at h
  · exact ⟨fr, sameFr.refl fr, .inl ⟨by simp [*], h⟩⟩
  · rename_i j want hg
    simp only [hg]
    split at h
    · exact ⟨fr, sameFr.refl fr, .inr ⟨by simp [*], h⟩⟩
    · rename_i t ht
      simp only [ht]
      split at h
      · rename_i b hb
        cases b <;> cases want <;> simp only [cond_true, cond_false] at h
        · exact ⟨_, sameFr.dup hb, .inl ⟨by simp [hb], h⟩⟩
        · exact ⟨_, sameFr.dup hb, .inr ⟨by simp [hb], h⟩⟩
        · exact ⟨_, sameFr.dup hb, .inr ⟨by simp [hb], h⟩⟩
        · exact ⟨_, sameFr.dup hb, .inl ⟨by simp [hb], h⟩⟩
      · rename_i x hn hx
        refine ⟨fr, sameFr.refl fr, .inr ⟨?_, h⟩⟩
        rw [hx]
        split
        · rename_i b hb; exact (hn _ (Option.some.inj hb)).elim
        · rfl
        · rename_i hb; cases hb
      · cases h

theorem slotOf_bind {ops : List Oper} {arr : Array Oper} (h : arr.toList = ops) (j : Nat) : (arr[j]?).bind (·.dst) = slotOf ops j := by
  unfold slotOf
  rw [← h, Array.getElem?_toList]
  cases arr[j]? <;> rfl

theorem wants_ok {ops : List Oper} {arr : Array Oper} (harr : arr.toList = ops) {o : Oper} {fr : Fr} {tmps : Array Value} (hf : FR w σ μ tmps fr) {b : Bool} (h : wants ops o fr = some b) :
    Region.wanted o (yielded arr tmps) = b := by
  unfold wants at h
  unfold Region.wanted
  split at h
  · rename_i hg; simp only [hg]; cases h; rfl
  · rename_i j want hg
    simp only [hg, yielded, slotOf_bind harr]
    split at h
    · rename_i ht; cases h; simp [ht]
    · rename_i t ht
      simp only [ht, Option.bind_some]
      split at h
      · rename_i c hb
        cases h
        have hr := hf t _ hb
        have : tmps[t]? = some (.bool c) := by
          cases hr' : tmps.getD t undef <;> rw [hr'] at hr
          case bool c' =>
            have := hr.bool_of; cases this
            exact of_getD hr'
          all_goals (cases hr with | d _ _ hd => cases hd)
        rw [this]
        cases c <;> cases want <;> rfl
      · rename_i x hn hx
        cases h
        have hr := hf t _ hx
        cases hq : tmps[t]? with
        | none => simp
        | some q =>
          rw [getD_of hq] at hr
          cases q <;> first | rfl | skip
          have := hr.bool_of
          subst this
          exact (hn _ rfl).elim
      · cases h

theorem getA_putF {fr : Fr} {dst : Option Nat} {v : V} {t : Nat} : getA (putF fr dst v) t = if dst = some t then some v else getA fr t := by
  cases dst with
  | none => simp [putF]
  | some d =>
    simp only [putF, getA]
    by_cases h : d = t
    · subst h; simp
    · simp [h, beqF h]

theorem FR.put {nt : Nat} {a : Act} {fr : Fr} (h : FR w σ μ a.tmps fr) {dst : Option Nat} (hd : dstOk nt dst = true) (hs : nt ≤ a.tmps.size) {v' : Value} {v : V} (hv : RV w σ μ v' v) :
    FR w σ μ (a.put dst v').tmps (putF fr dst v) := by
  intro t u ht
  rw [getA_putF] at ht
  cases dst with
  | none => exact h t u (by simpa using ht)
  | some d =>
    have hlt : d < a.tmps.size := Nat.lt_of_lt_of_le (Nat.le_of_ble_eq_true hd) hs
    by_cases he : d = t
    · subst he
      simp at ht; subst ht
      simpa [Act.put, Array.getD_eq_getD_getElem?, hlt] using hv
    · simp [he] at ht
      have := h t u ht
      simpa [Act.put, Array.getD_eq_getD_getElem?, Array.getElem?_setIfInBounds_ne he] using this

theorem put_size (a : Act) (dst : Option Nat) (v : Value) : (a.put dst v).tmps.size = a.tmps.size := by cases dst <;> simp [Act.put]
theorem put_defers' (a : Act) (dst : Option Nat) (v : Value) : (a.put dst v).defers = a.defers := by cases dst <;> rfl

theorem undef_ok : RV w σ μ undef undefV := .tup #[] [] rfl (by simp)

theorem FR.nil {tmps : Array Value} : FR w σ μ tmps [] := fun _ _ h => by cases h

variable {nt : Nat} {ds : List Deferred} {w₀ : World} {σ₀ : St} {μ₀ : Mu}

theorem evOps_part {m : Nat} {call : Nat → List V → St → Option (Out × St)} (hcall : CallOk cx call) (hn : noRoutines cx.P) {arr : Array Oper} {tl : List Oper} {K : Ex → Fr → St → Option R} {r : R}
    {Q : Exit → Act → World → Prop}
    (hend : ∀ fr σ, K .normal fr σ = some r → ∀ a w μ, Now cx nt ds w₀ σ₀ μ₀ a w σ μ fr → ∀ i, arr.toList.drop i = tl → wpOps cx.P arr Q ((List.range arr.size).drop i) a w)
    (hQ : ∀ v fr σ, K (.pan v) fr σ = some r → ∀ x a w μ, exits w σ μ (.pan v) x → Now cx nt ds w₀ σ₀ μ₀ a w σ μ fr → Q x a w) :
    ∀ (l : List Oper) (i : Nat), arr.toList.drop i = l ++ tl → ∀ (fr : Fr) (σ : St), evOps cx m nt call arr.toList l fr σ K = some r →
      ∀ a w μ, Now cx nt ds w₀ σ₀ μ₀ a w σ μ fr → wpOps cx.P arr Q ((List.range arr.size).drop i) a w := by
  intro l
  induction l with
  | nil =>
    intro i hi fr σ h a w μ hnow
    exact hend _ _ h _ _ _ hnow i hi
  | cons o l ih =>
    intro i hi fr σ h a w μ hnow
    have hlt : i < arr.size := by
      have := congrArg List.length hi
      simp at this; omega
    have ho : arr[i]? = some o := by
      have := congrArg (·[0]?) hi
      simpa using this
    have hrest : arr.toList.drop (i + 1) = l ++ tl := by
      rw [← List.drop_drop, hi]; rfl
    have hdrop : (List.range arr.size).drop i = i :: (List.range arr.size).drop (i + 1) := by
      rw [List.drop_eq_getElem_cons (by simpa using hlt)]; simp
    rw [hdrop]
    simp only [wpOps, ho]
    unfold evOps at h
    obtain ⟨hd, h⟩ := must_some h
    obtain ⟨fr', hs, h⟩ := guardV_some h
    have hf' := hnow.fr.same hs
    rcases h with ⟨hw, h⟩ | ⟨hw, h⟩
    · rw [wants_ok rfl hnow.fr hw, if_pos rfl]
      left
      obtain ⟨p, hp, h⟩ := optK_some h
      obtain ⟨oc, δ, fp, hK0, hok⟩ := evOp_ok hcall hn hnow.after.inv hf' hp
      cases hK0
      have hK := h
      refine hok _ _ ?_
      cases oc with
      | val v =>
        intro v' w' μ' haf hv
        refine ih (i + 1) hrest _ _ hK _ _ μ' ⟨hnow.after.trans haf, FR.put (haf.frs hnow.after.inv hf') hd hnow.size hv, ?_, ?_⟩
        · rw [put_size]; exact hnow.size
        · rw [put_defers']; exact hnow.defers
      | pan v =>
        intro x w' μ' haf hv
        exact hQ _ _ _ hK _ _ _ μ' ⟨x, rfl, hv⟩ ⟨hnow.after.trans haf, haf.frs hnow.after.inv hf', hnow.size, hnow.defers⟩
    · rw [wants_ok rfl hnow.fr hw]
      simp only [Bool.false_eq_true, if_false]
      refine ih (i + 1) hrest _ _ h _ _ μ ⟨hnow.after, FR.put hf' hd hnow.size undef_ok, ?_, ?_⟩
      · rw [put_size]; exact hnow.size
      · rw [put_defers']; exact hnow.defers

theorem evOps_ok {m : Nat} {call : Nat → List V → St → Option (Out × St)} (hcall : CallOk cx call) (hn : noRoutines cx.P) {arr : Array Oper} {K : Ex → Fr → St → Option R} {r : R}
    {Q : Exit → Act → World → Prop}
    (hQ : ∀ e fr σ, K e fr σ = some r → ∀ x a w μ, exits w σ μ e x → Now cx nt ds w₀ σ₀ μ₀ a w σ μ fr → Q x a w) :
    ∀ (l : List Oper) (i : Nat), arr.toList.drop i = l → ∀ (fr : Fr) (σ : St), evOps cx m nt call arr.toList l fr σ K = some r →
      ∀ a w μ, Now cx nt ds w₀ σ₀ μ₀ a w σ μ fr → wpOps cx.P arr Q ((List.range arr.size).drop i) a w := by
  intro l i hi
  refine evOps_part hcall hn (tl := []) (fun fr σ h a w μ hnow i hi => ?_) (fun v => hQ (.pan v)) l i (by rw [hi, List.append_nil])
  have : arr.size ≤ i := by have := congrArg List.length hi; simp at this; omega
  rw [List.drop_eq_nil_of_le (by simpa using this)]
  exact hQ _ _ _ h _ _ _ _ trivial hnow

end
end Go.Vai
end

section
namespace Go.Vai

section
variable {R : Type} {cx : Cx} {w : World} {σ : St} {μ : Mu} {nt : Nat} {ds : List Deferred} {w₀ : World} {σ₀ : St} {μ₀ : Mu}

theorem opIs_spec {y : Operand} {a : Nat} (h : opIs y a = true) : y = .tmp a := by
  unfold opIs at h
  split at h
  · rw [Nat.eq_of_beq_eq_true h]
  · cases h

theorem opNot_eval {y : Operand} {a : Nat} (h : opNot y a = true) (c : Act) (v : Value) : (c.put (some a) v).eval y = c.eval y := by
  unfold opNot at h
  split at h
  · rename_i b
    have hne : b ≠ a := by
      intro e
      subst e
      simp at h
    simp only [Act.eval, Act.put]
    simp [Array.getD_eq_getD_getElem?, Array.getElem?_setIfInBounds_ne (Ne.symm hne)]
  · cases y <;> first | rfl | (rename_i hn; exact (hn _ rfl).elim)

theorem pendOf_spec {o i s : Oper} {q : Pend} (h : pendOf o i s = some q) :
    ∃ ty1 p1 f1 ty2 p2 f2 ty3 p3 f3, o = ⟨some q.a, .call ⟨.builtin .append, #[q.sv, q.pv], #[q.t, q.t2]⟩, ty1, p1, f1, none⟩ ∧ i = ⟨some q.p, .indexAddr q.t (.tmp q.a) q.j, ty2, p2, f2, none⟩ ∧
      s = ⟨none, .store q.e (.tmp q.p) q.x, ty3, p3, f3, none⟩ ∧ opNot q.j q.a = true ∧ opNot q.x q.a = true ∧ opNot q.x q.p = true ∧ q.a ≠ q.p := by
  obtain ⟨d1, op1, ty1, p1, f1, g1⟩ := o
  obtain ⟨d2, op2, ty2, p2, f2, g2⟩ := i
  obtain ⟨d3, op3, ty3, p3, f3, g3⟩ := s
  unfold pendOf at h
  split at h
  · rename_i c t' y j e q' x h1 h2 h3
    simp only at h1 h2 h3
    subst h1 h2 h3
    split at h
    · rename_i sv pv t t2 a p hc ha hty hd1 hd2
      simp only at hd1 hd2
      subst hd1 hd2
      cases hb : (opIs y a && opIs q' p && opNot j a && opNot x a && opNot x p && !Nat.beq a p && Nat.beq t' t && g1.isNone && g2.isNone && g3.isNone && d3.isNone) <;> simp only [hb] at h
      · cases h
      · cases h
        simp only [Bool.and_eq_true, Bool.not_eq_true', Option.isNone_iff_eq_none] at hb
        obtain ⟨⟨⟨⟨⟨⟨⟨⟨⟨⟨k1, k2⟩, k3⟩, k4⟩, k5⟩, k6⟩, k7⟩, k8⟩, k9⟩, k10⟩, k11⟩ := hb
        subst k8 k9 k10 k11
        have k7 := Nat.eq_of_beq_eq_true k7
        subst k7
        obtain rfl := opIs_spec k1
        obtain rfl := opIs_spec k2
        obtain ⟨callee, cargs, ctys⟩ := c
        simp only at hc ha hty
        subst hc
        have e1 : cargs = #[sv, pv] := by apply Array.ext'; simpa using ha
        have e2 : ctys = #[t', t2] := by apply Array.ext'; simpa using hty
        subst e1 e2
        exact ⟨_, _, _, _, _, _, _, _, _, rfl, rfl, rfl, k3, k4, k5, fun e => by have e' : a = p := e; subst e'; simp at k6⟩
    · cases h
  · cases h

theorem notInt_spec {P : Program} {t : Nat} (h : notInt P t = true) : (match P.underlying t with | some (.int _) => false | some _ => true | none => false) = true := h

theorem pendV_ok (hi : Inv cx w σ μ) {a : Act} {fr : Fr} (hf : FR w σ μ a.tmps fr) (hs : nt ≤ a.tmps.size) {q : Pend} {K : Fr → St → Option R} {r : R} {o i s : Oper} (hq : pendOf o i s = some q) (h : pendV cx nt σ fr q K = some r) :
    ∃ fr' σ', K fr' σ' = some r ∧ ∃ v1 v2 w1 w' μ', (execOp a.eval o).run cx.P w = .ok (.value v1) w1 ∧ (execOp (a.put o.dst v1).eval i).run cx.P w1 = .ok (.value v2) w1 ∧
      (execOp ((a.put o.dst v1).put i.dst v2).eval s).run cx.P w1 = .ok .skip w' ∧ After cx w σ μ w' σ' μ' ∧ FR w' σ' μ' (((a.put o.dst v1).put i.dst v2).put s.dst undef).tmps fr' ∧
      (∀ w2, (execOp (a.put o.dst v1).eval i).run cx.P w2 = .ok (.value v2) w2) ∧ ∃ b ncs id n, getA σ' id = some (.tok n) ∧ (μ' id).blk = some b ∧ w' = w1.setRow b ncs ∧
        ∀ w2 : World, w2.heap[b]? = w1.heap[b]? → (execOp ((a.put o.dst v1).put i.dst v2).eval s).run cx.P w2 = .ok .skip (w2.setRow b ncs) := by
  obtain ⟨ty1, p1, f1, ty2, p2, f2, ty3, p3, f3, rfl, rfl, rfl, hj, hx1, hx2, hap⟩ := pendOf_spec hq
  unfold pendV at h
  obtain ⟨hlt, h0⟩ := must_some h
  clear h
  rw [Bool.and_eq_true] at hlt
  split at h0
  case h_2 => cases h0
  rename_i e hu
  obtain ⟨hc, h1⟩ := must_some h0
  clear h0
  simp only [Bool.and_eq_true] at hc
  obtain ⟨⟨⟨⟨he, hty⟩, hby⟩, hz⟩, hni⟩ := hc
  have he := Nat.eq_of_beq_eq_true he
  subst he
  obtain ⟨z, hz⟩ := Option.isSome_iff_exists.1 hz
  obtain ⟨sv, hsv, h2⟩ := optK_some h1
  clear h1
  obtain ⟨pl, hpl, h3⟩ := optK_some h2
  clear h2
  obtain ⟨jv, hjv, h4⟩ := optK_some h3
  clear h3
  obtain ⟨v, hv, h5⟩ := optK_some h4
  clear h4
  obtain ⟨y, hy, h6⟩ := optK_some h5
  clear h5
  split at h6
  case h_2 => cases h6
  rename_i sz l id k n
  split at h6
  case h_2 => cases h6
  rename_i kk hid
  obtain ⟨hc, h7⟩ := must_some h6
  clear h6
  simp only [Bool.and_eq_true, decide_eq_true_eq, Bool.not_eq_true'] at hc
  obtain ⟨⟨⟨⟨⟨⟨hsz, hT⟩, hkk⟩, hn⟩, hle⟩, hyc⟩, htup⟩ := hc
  have hsz := Nat.eq_of_beq_eq_true hsz
  have hyc := Nat.eq_of_beq_eq_true hyc
  subst hkk hn
  obtain ⟨sz', ps, hd, h8⟩ := dataOf_run h7
  clear h7
  obtain ⟨hc, h⟩ := must_some h8
  clear h8
  rw [Bool.and_eq_true] at hc
  have hsz' := Nat.eq_of_beq_eq_true hc.1
  have hps := Nat.eq_of_beq_eq_true hc.2
  have rs := opdT_ok (t := q.t) hf hsv
  have rp := opdT_ok (t := q.t2) hf hpl
  have rj := opd_ok hf hjv
  have rv := opdT_ok (t := q.e) hf hv
  have hyr := elemD_ok rv hy
  have hcells := V.cells_ok (RV.d _ _ hyr)
  have hvd : RDs w (OwnOf σ μ) (a.eval q.x).cells.toList y.cells := by
    have : (V.d y).cells = y.cells.map .d := by cases y <;> rfl
    rw [this] at hcells
    exact hcells.rd
  have hone := V.cells_one (RV.d _ _ hyr) rfl
  obtain ⟨b, oo, cap, w1, w', lo, g1, g2, g3, g4, g5, g6, ncs, g7, g8⟩ := fill_ok (ty := ty1) hi rs rp hd hps hvd hone hyc hu hz (notInt_spec hni) (.inl hsz') hsz (tagB_ok hT) (Nat.le_of_ble_eq_true hby) hid hle
  have haf := g3.after hi g4
  have hjint : a.eval q.j = .int k (l.length : Int) := rj.int_inv
  have hidx : ∀ w2 : World, (execOp (a.put (some q.a) (.slice (some ⟨b, oo, none⟩) (l.length + 1) cap)).eval ⟨some q.p, .indexAddr q.t (.tmp q.a) q.j, ty2, p2, f2, none⟩).run cx.P w2 = .ok (.value (.pointer (some ⟨b, oo + l.length * cx.P.cellsOf q.e, none⟩))) w2 := by
    intro w2
    simp only [execOp]
    refine run_v ?_
    rw [opNot_eval hj, hjint]
    have hsl : (a.put (some q.a) (.slice (some ⟨b, oo, none⟩) (l.length + 1) cap)).eval (.tmp q.a) = .slice (some ⟨b, oo, none⟩) (l.length + 1) cap := by
      have : q.a < a.tmps.size := Nat.lt_of_lt_of_le (Nat.le_of_ble_eq_true hlt.1) hs
      simp [Act.eval, Act.put, Array.getD_eq_getD_getElem?, this]
    rw [hsl]
    have := run_indexAt_slice (w := w2) (k := k) (i := (l.length : Int)) (b := b) (o := oo) (n := l.length + 1) (cap := cap) hu (by omega) (by omega) (run_sizeTy hty)
    simpa using this
  have hput : ∀ w2 w3 : World, (storeCells ⟨b, oo + l.length * cx.P.cellsOf q.e, none⟩ (a.eval q.x).cells.toList).run cx.P w2 = .ok () w3 →
      (execOp ((a.put (some q.a) (.slice (some ⟨b, oo, none⟩) (l.length + 1) cap)).put (some q.p) (.pointer (some ⟨b, oo + l.length * cx.P.cellsOf q.e, none⟩))).eval ⟨none, .store q.e (.tmp q.p) q.x, ty3, p3, f3, none⟩).run cx.P w2 = .ok .skip w3 := by
    intro w2 w3 hst
    simp only [execOp]
    refine run_u ?_
    rw [opNot_eval hx2, opNot_eval hx1]
    have hpp : ((a.put (some q.a) (.slice (some ⟨b, oo, none⟩) (l.length + 1) cap)).put (some q.p) (.pointer (some ⟨b, oo + l.length * cx.P.cellsOf q.e, none⟩))).eval (.tmp q.p) = .pointer (some ⟨b, oo + l.length * cx.P.cellsOf q.e, none⟩) := by
      have : q.p < a.tmps.size := Nat.lt_of_lt_of_le (Nat.le_of_ble_eq_true hlt.2) hs
      simp [Act.eval, Act.put, Array.getD_eq_getD_getElem?, this]
    rw [hpp]
    obtain ⟨dd, hdd⟩ := hasTy_some hty
    unfold Instr.storeAt Instr.sureAddr storeVar
    have hcs : (a.eval q.x).cells.size = cx.P.cellsOf q.e := by have := hvd.1; simp at this; omega
    simp [run_sizeOf hdd, hcs, hst]
  refine ⟨_, _, h, .slice (some ⟨b, oo, none⟩) (l.length + 1) cap, .pointer (some ⟨b, oo + l.length * cx.P.cellsOf q.e, none⟩), w1, w', _, ?_, hidx w1, hput w1 w' g2, haf, ?_, hidx,
    b, ncs, id, l.length + 1, by simp [getA_putA], by simp [setMu, g6], g7, fun w2 h2 => hput w2 _ (g8 w2 h2)⟩
  · simp only [execOp, resolve, invoke, builtin]
    simp [Sem.run_bind, g1]
  · have hptr : RV w' (putA σ id (.tok (l.length + 1))) (setMu μ id lo) (.pointer (some ⟨b, oo + l.length * cx.P.cellsOf q.e, none⟩)) (.eptr y 0) := by
      have hrd := g5.slD
      rw [hsz] at hrd
      obtain ⟨b', o', n', cap', xs, he, _, hyl, hc1, hr1⟩ := hrd.slot (j := l.length) (y := y) (by simp)
      cases he
      exact .eptr y b _ 0 xs (fun k hk => hc1 k (by omega)) hr1
    exact FR.put (dst := some q.p) (a := a.put (some q.a) (.slice (some ⟨b, oo, none⟩) (l.length + 1) cap)) (FR.put (dst := some q.a) (haf.frs hi hf) hlt.1 hs g5) hlt.2 (by rw [put_size]; exact hs) hptr

theorem wp_three {P : Program} {arr : Array Oper} {Q : Exit → Act → World → Prop} {k : Nat} {o i s : Oper} {l : List Oper} {a : Act} {w w1 w' : World} {v1 v2 : Value} (hdrop : arr.toList.drop k = o :: i :: s :: l)
    (hg : o.guard = none ∧ i.guard = none ∧ s.guard = none) (h1 : (execOp a.eval o).run P w = .ok (.value v1) w1) (h2 : (execOp (a.put o.dst v1).eval i).run P w1 = .ok (.value v2) w1)
    (h3 : (execOp ((a.put o.dst v1).put i.dst v2).eval s).run P w1 = .ok .skip w') (h : wpOps P arr Q ((List.range arr.size).drop (k + 3)) (((a.put o.dst v1).put i.dst v2).put s.dst undef) w') :
    wpOps P arr Q ((List.range arr.size).drop k) a w := by
  have hlen : k + 3 ≤ arr.size := by have := congrArg List.length hdrop; simp at this; omega
  have ho : arr[k]? = some o := by have := congrArg (·[0]?) hdrop; simpa using this
  have hi : arr[k + 1]? = some i := by have := congrArg (·[1]?) hdrop; simpa using this
  have hs : arr[k + 2]? = some s := by have := congrArg (·[2]?) hdrop; simpa using this
  have hd : (List.range arr.size).drop k = k :: (k + 1) :: (k + 2) :: (List.range arr.size).drop (k + 3) := by
    rw [List.drop_eq_getElem_cons (by simp; omega), List.drop_eq_getElem_cons (by simp; omega), List.drop_eq_getElem_cons (by simp; omega)]
    simp
  rw [hd]
  simp only [wpOps, ho, hi, hs]
  rw [if_pos (by simp [Region.wanted, hg.1])]
  left
  unfold Oper.wp
  rw [h1, Oper.upon_value, if_pos (by simp [Region.wanted, hg.2.1])]
  left
  rw [h2, Oper.upon_value, if_pos (by simp [Region.wanted, hg.2.2])]
  left
  rw [h3, Oper.upon_skip]
  exact h

theorem pendOf_guards {o i s : Oper} {q : Pend} (h : pendOf o i s = some q) : o.guard = none ∧ i.guard = none ∧ s.guard = none := by
  obtain ⟨ty1, p1, f1, ty2, p2, f2, ty3, p3, f3, rfl, rfl, rfl, _⟩ := pendOf_spec h
  exact ⟨rfl, rfl, rfl⟩

theorem put_three (a : Act) (x y z : Option Nat) (u v t : Value) : (((a.put x u).put y v).put z t).tmps.size = a.tmps.size ∧ (((a.put x u).put y v).put z t).defers = a.defers := by
  rw [put_size, put_size, put_size, put_defers', put_defers', put_defers']
  exact ⟨rfl, rfl⟩

theorem evPend_ok {arr : Array Oper} {Q : Exit → Act → World → Prop} {k : Nat} {fr : Fr} {K : List Oper → Fr → St → Option R} {r : R} (h : evPend cx nt arr.toList k fr σ K = some r) {a : Act} (hnow : Now cx nt ds w₀ σ₀ μ₀ a w σ μ fr)
    (hnext : ∀ l fr' σ', K l fr' σ' = some r → arr.toList.drop (k + 3) = l → ∀ a w μ, Now cx nt ds w₀ σ₀ μ₀ a w σ' μ fr' → wpOps cx.P arr Q ((List.range arr.size).drop (k + 3)) a w) :
    wpOps cx.P arr Q ((List.range arr.size).drop k) a w := by
  unfold evPend at h
  split at h
  case h_2 => cases h
  rename_i o i s l hdrop
  obtain ⟨q, hq, h⟩ := optK_some h
  obtain ⟨fr', σ', hK, v1, v2, w1, w', μ', g1, g2, g3, haf, hf, _⟩ := pendV_ok hnow.after.inv hnow.fr hnow.size hq h
  refine wp_three hdrop (pendOf_guards hq) g1 g2 g3 (hnext l fr' σ' hK ?_ _ _ μ' ⟨hnow.after.trans haf, hf, ?_, ?_⟩)
  · rw [← List.drop_drop, hdrop]; rfl
  · rw [(put_three ..).1]; exact hnow.size
  · rw [(put_three ..).2]; exact hnow.defers

end
end Go.Vai
end

section
namespace Go.Vai

section
variable {R : Type} {cx : Cx} {σ σ' : St}

theorem opdT_fr {P : Program} {t : Nat} {fr fr' : Fr} {x : Operand} (h : opd fr' x = opd fr x) : opdT P t fr' x = opdT P t fr x := by
  unfold opdT
  split
  · rfl
  · exact h

theorem opds_fr {P : Program} {t : Nat} {fr fr' : Fr} : ∀ {ps : List (Nat × Operand)}, (∀ p ∈ ps, opd fr' p.2 = opd fr p.2) → opds P fr' t ps = opds P fr t ps
  | [], _ => rfl
  | (i, x) :: ps, h => by
    simp only [opds]
    rw [opdT_fr (h (i, x) List.mem_cons_self), opds_fr fun p hp => h p (List.mem_cons_of_mem _ hp)]

theorem argsOf_fr {P : Program} {fr fr' : Fr} : ∀ {xs : List Operand} {ts : List Nat}, (∀ x ∈ xs, opd fr' x = opd fr x) → argsOf P fr' xs ts = argsOf P fr xs ts
  | [], _, _ => rfl
  | x :: xs, ts, h => by
    simp only [argsOf]
    rw [opdT_fr (h x List.mem_cons_self), argsOf_fr fun p hp => h p (List.mem_cons_of_mem _ hp)]

theorem argsNil_fr {P : Program} {fr fr' : Fr} {id : Nat} : ∀ {xs : List Operand} {ts : List Nat}, (∀ x ∈ xs, opd fr' x = opd fr x) → argsNil P fr' id xs ts = argsNil P fr id xs ts
  | [], _, _ => rfl
  | x :: xs, ts, h => by
    have e := argsNil_fr (P := P) (id := id) (ts := ts.tail) fun p hp => h p (List.mem_cons_of_mem _ hp)
    have e2 := h x List.mem_cons_self
    simp only [argsNil]
    rw [e]
    cases argsNil P fr id xs ts.tail with
    | none => rfl
    | some l =>
      simp only
      split
      · rfl
      · rw [e2]

theorem opdO_fr {fr fr' : Fr} {x : Option Operand} (h : ∀ y ∈ x, opd fr' y = opd fr y) {K : Option V → Option R} : opdO fr' x K = opdO fr x K := by
  cases x with
  | none => rfl
  | some x => simp only [opdO, h x rfl]

theorem evOp_fr {m nt : Nat} {call : Nat → List V → St → Option (Out × St)} {o : Oper} {fr fr' : Fr} (h : ∀ x ∈ o.op.operands, opd fr' x = opd fr x) {K : Oc → De → List Nat → Option R} :
    evOp cx m nt call o fr' σ K = evOp cx m nt call o fr σ K := by
  obtain ⟨dst, op, type, pos, after, guard⟩ := o
  cases op <;> simp only [Op.operands] at h
  case move x | assign x =>
    simp only [evOp]
    split
    · rfl
    · rw [h x (by simp)]
  case makeFunc fn first caps =>
    cases fn <;> simp only [evOp]
    rw [argsOf_fr fun x hx => h x (by simp at hx; simp [hx])]
  case makeMap t r => cases r <;> simp only [evOp]
  case build t ps => simp only [evOp]; rw [opds_fr fun p hp => h p.2 (by simp; exact ⟨p.1, by simpa using hp⟩)]
  case buildSlice t n ps => simp only [evOp]; rw [opds_fr fun p hp => h p.2 (by simp; exact ⟨p.1, by simpa using hp⟩)]
  case box t x => simp only [evOp]; rw [opdT_fr (h x (by simp))]
  case store t p x => simp only [evOp]; rw [h p (by simp), opdT_fr (h x (by simp))]
  case binOp op t x y u => simp only [evOp]; rw [opdT_fr (h x (by simp)), opdT_fr (h y (by simp))]
  case convert s t x => simp only [evOp]; rw [opdT_fr (h x (by simp))]
  case makeInterface t x => simp only [evOp]; rw [opdT_fr (h x (by simp))]
  case slice t x lo hi mx =>
    simp only [evOp]
    have e1 : ∀ {K : Option V → Option R}, opdO fr' lo K = opdO fr lo K := opdO_fr fun y hy => h y (by cases hy; simp)
    have e2 : ∀ {K : Option V → Option R}, opdO fr' hi K = opdO fr hi K := opdO_fr fun y hy => h y (by cases hy; simp)
    have e3 : ∀ {K : Option V → Option R}, opdO fr' mx K = opdO fr mx K := opdO_fr fun y hy => h y (by cases hy; simp)
    simp only [opdT_fr (h x (by simp)), e1, e2, e3]
  case call c =>
    obtain ⟨callee, cargs, ctypes⟩ := c
    simp only [Call.operands] at h
    cases callee with
    | value f =>
      simp only [evOp]
      rw [h f (by simp)]
      have e : ∀ {ts}, argsOf cx.P fr' cargs.toList ts = argsOf cx.P fr cargs.toList ts := argsOf_fr fun x hx => h x (by simp at hx; simp [hx])
      have e' : ∀ {id ts}, argsNil cx.P fr' id cargs.toList ts = argsNil cx.P fr id cargs.toList ts := argsNil_fr fun x hx => h x (by simp at hx; simp [hx])
      simp only [e, e']
    | invoke r nm => simp only [evOp]
    | builtin b =>
      have e : ∀ x ∈ cargs.toList, ∀ {P t}, opdT P t fr' x = opdT P t fr x := fun x hx {P t} => opdT_fr (h x (by simp at hx; simp [hx]))
      cases b <;> simp only [evOp]
      · split
        · rename_i s x t t' hx ht
          rw [e s (by rw [hx]; simp), e x (by rw [hx]; simp)]
        · rfl
      · split
        · rename_i x t hx ht
          rw [e x (by rw [hx]; simp)]
        · rfl
  all_goals simp only [evOp]
  all_goals first | rfl | skip
  all_goals (simp only [Array.mem_def, List.mem_cons, List.not_mem_nil, or_false, forall_eq_or_imp, forall_eq] at h)
  all_goals first | (simp only [h]; done) | (simp only [h.1, h.2]; done) | (simp only [h.1, h.2.1, h.2.2]; done)

end
end Go.Vai
end

section
namespace Go.Vai

section
variable {R : Type} {cx : Cx} {σ σ' : St}

def agree (S : List Nat) (σ σ' : St) : Prop := ∀ i ∈ S, getA σ' i = getA σ i

theorem reach_st {S : List Nat} (ha : agree S σ σ') (hc : ∀ i ∈ S, ∃ o, getA σ i = some o ∧ ∀ j ∈ o.ids, j ∈ S) :
    ∀ (n : Nat) (todo seen : List Nat), (∀ i ∈ todo, i ∈ S) → reach σ' n todo seen = reach σ n todo seen := by
  intro n
  induction n with
  | zero => intro todo seen _; rfl
  | succ n ih =>
    intro todo seen ht
    cases todo with
    | nil => rfl
    | cons i todo =>
      have hi := ht i List.mem_cons_self
      have htl : ∀ j ∈ todo, j ∈ S := fun j hj => ht j (List.mem_cons_of_mem _ hj)
      simp only [reach]
      rw [ha i hi]
      obtain ⟨o, ho, hids⟩ := hc i hi
      rw [ho]
      cases seen.elem i
      · simp only [cond_false]
        exact ih _ _ fun j hj => by
          rcases List.mem_append.1 hj with h | h
          · exact hids j h
          · exact htl j h
      · exact ih _ _ htl

theorem renSt_st (full : List Nat) : ∀ (ren : List Nat) (k : Nat), agree ren σ σ' → renSt σ' full k ren = renSt σ full k ren
  | [], _, _ => rfl
  | i :: r, k, h => by
    simp only [renSt, h i List.mem_cons_self]
    split
    · rw [renSt_st full r (k + 1) fun j hj => h j (List.mem_cons_of_mem _ hj)]
    · exact renSt_st full r (k + 1) fun j hj => h j (List.mem_cons_of_mem _ hj)

theorem backOb_st {full : List Nat} {τ : St} : ∀ (ren : List Nat) (k : Nat) {K : De → Option R}, agree ren σ σ' → backOb full σ' τ k ren K = backOb full σ τ k ren K
  | [], _, _, _ => rfl
  | i :: r, k, K, h => by
    have e : ∀ K : De → Option R, backOb full σ' τ (k + 1) r K = backOb full σ τ (k + 1) r K := fun K => backOb_st r (k + 1) fun j hj => h j (List.mem_cons_of_mem _ hj)
    simp only [backOb, h i List.mem_cons_self, e]

theorem all_congr' {α : Type} {l : List α} {f g : α → Bool} (h : ∀ x ∈ l, f x = g x) : l.all f = l.all g := by
  induction l with
  | nil => rfl
  | cons a l ih => simp only [List.all_cons]; rw [h a List.mem_cons_self, ih fun x hx => h x (List.mem_cons_of_mem _ hx)]

theorem closedIn_st {ids : List Nat} {ren : List Nat} (h : agree ren σ σ') : closedIn σ' ids ren = closedIn σ ids ren := by
  unfold closedIn
  congr 1
  exact all_congr' fun i hi => by rw [h i hi]

abbrev Tri := Oc × De × List Nat

theorem callV_st {call : Nat → List V → St → Option (Out × St)} {t f : Nat} {args : List V} {xs : List Nat} {p : Tri} (h : callV cx call σ t f args xs (fun oc δ fp => some (oc, δ, fp)) = some p) (ha : agree p.2.2 σ σ') :
    callV cx call σ' t f args xs (fun oc δ fp => some (oc, δ, fp)) = some p := by
  have hfp : reach σ 1000 (V.idsL args ++ xs) [] = p.2.2 := by
    unfold callV at h
    obtain ⟨_, h⟩ := must_some h
    obtain ⟨_, h⟩ := must_some h
    split at h
    · obtain ⟨δ, h1, _⟩ := backOb_ok _ _ h
      obtain ⟨u, h2, _⟩ := castOut_ok h1
      cases h2; rfl
    · obtain ⟨δ, h1, _⟩ := backOb_ok _ _ h
      cases h1; rfl
    · cases h
  unfold callV at h ⊢
  simp only [hfp] at h ⊢
  obtain ⟨hc, h⟩ := must_some h
  obtain ⟨_, hargs, hcl⟩ := closedIn_spec hc
  obtain ⟨hdom, h⟩ := must_some h
  rw [reach_st ha hcl 1000 _ _ hargs, hfp, closedIn_st ha, hc, hdom]
  simp only [renSt_st _ _ _ ha, backOb_st _ _ ha]
  exact h

theorem freshAll_st : ∀ {δ : De}, agree (δ.map (·.1)) σ σ' → freshAll σ' δ = freshAll σ δ
  | [], _ => rfl
  | (i, o) :: δ, h => by
    simp only [freshAll]
    rw [h i (by simp), freshAll_st (δ := δ) fun j hj => h j (by simp at hj ⊢; exact .inr hj)]

theorem freshAll_st1 {i : Nat} {o : Ob} (h : getA σ' i = getA σ i) : freshAll σ' [(i, o)] = freshAll σ [(i, o)] := freshAll_st (by intro j hj; simp at hj; subst hj; exact h)

theorem loadV_st {t : Nat} {q : V} {p : Tri} (h : loadV cx σ t q (fun v fp => some (Oc.val v, ([] : De), fp)) = some p) (ha : agree p.2.2 σ σ') :
    loadV cx σ' t q (fun v fp => some (Oc.val v, ([] : De), fp)) = some p := by
  cases q with
  | ptr id off =>
    have : getA σ' id = getA σ id := by
      refine ha id ?_
      unfold loadV at h
      obtain ⟨_, h⟩ := must_some h
      simp only at h
      split at h
      · cases hb : (Nat.beq off 0 && Nat.beq _ (cx.P.cellsOf t)) <;> rw [hb] at h
        · rw [cond_false] at h
          cases ha : aggTy cx.P t <;> rw [ha] at h
          · obtain ⟨c, _, h⟩ := nthV_some h
            obtain ⟨u, h, _⟩ := castV_any h
            cases h; simp
          · obtain ⟨_, h⟩ := must_some h
            cases h; simp
        · obtain ⟨u, h, _⟩ := castV_any h
          cases h; simp
      · obtain ⟨c, _, h⟩ := nthD_some h
        obtain ⟨u, h, _⟩ := castV_any (v := .d c) (K := fun v => some (Oc.val v, ([] : De), [id])) (by simpa only [castV] using h)
        cases h; simp
      · cases h
    unfold loadV at h ⊢
    simp only [this]
    exact h
  | _ => exact h

theorem storeV_st {t : Nat} {q v : V} {p : Tri} (h : storeV cx σ t q v (fun δ fp => some (Oc.val undefV, δ, fp)) = some p) (ha : agree p.2.2 σ σ') :
    storeV cx σ' t q v (fun δ fp => some (Oc.val undefV, δ, fp)) = some p := by
  cases q with
  | ptr id off =>
    have : getA σ' id = getA σ id := by
      refine ha id ?_
      unfold storeV at h
      simp only at h
      split at h
      · cases hb : (Nat.beq off 0 && Nat.beq _ (cx.P.cellsOf t)) <;> rw [hb] at h
        · rw [cond_false] at h
          obtain ⟨_, h⟩ := must_some h
          cases h; simp
        · obtain ⟨_, h⟩ := must_some h
          cases h; simp
      · split at h
        · cases h
        · obtain ⟨_, h⟩ := must_some h
          cases h; simp
        · cases h
      · cases h
    unfold storeV at h ⊢
    simp only [this]
    exact h
  | _ => exact h

theorem lenV_st {t : Nat} {x : V} {p : Tri} (h : lenV cx σ t x (fun v fp => some (Oc.val v, ([] : De), fp)) = some p) (ha : agree p.2.2 σ σ') :
    lenV cx σ' t x (fun v fp => some (Oc.val v, ([] : De), fp)) = some p := by
  unfold lenV at h ⊢
  split at h <;> first | exact h | skip
  split at h
  · rename_i ks vs hg
    cases h
    have : getA σ' _ = getA σ _ := ha _ List.mem_cons_self
    rw [this, hg]
  · cases h

theorem appendV_st {site t : Nat} {s x : V} {b : Bool} {p : Tri} (h : appendV cx σ site t s x b (fun v δ fp => some (Oc.val v, δ, fp)) = some p) (ha : agree p.2.2 σ σ') :
    appendV cx σ' site t s x b (fun v δ fp => some (Oc.val v, δ, fp)) = some p := by
  unfold appendV at h ⊢
  split at h <;> first | (cases h; done) | skip
  unfold dataOf at h ⊢
  split at h <;> first | (cases h; done) | skip
  all_goals
    obtain ⟨hc, h⟩ := must_some h
    simp only [hc, must, cond_true]
    cases b
    · simp only [cond_false] at h ⊢
      split at h
      · rename_i id _
        split at h
        · rename_i n hg
          obtain ⟨hc2, h⟩ := must_some h
          cases h
          have : getA σ' _ = getA σ _ := ha _ List.mem_cons_self
          rw [this, hg]
          simp only [hc2, cond_true]
        · cases h
      · cases h
    · simp only [cond_true] at h ⊢
      obtain ⟨hc2, h⟩ := must_some h
      cases h
      rw [freshAll_st1 (ha _ List.mem_cons_self), hc2]
      rfl

theorem bound_nat {v : Option V} {y d : Nat} {K : Nat → Option R} {r : R} (h : bound v y d K = some r) : ∃ n, K n = some r ∧ ∀ (R' : Type) (K' : Nat → Option R'), bound v y d K' = K' n := by
  unfold bound at h ⊢
  split at h
  · exact ⟨_, h, fun _ _ => rfl⟩
  · obtain ⟨hc, h⟩ := must_some h
    exact ⟨_, h, fun _ _ => by simp only [hc, must, cond_true]⟩
  · cases h

theorem sliceV_st {site t : Nat} {x : V} {lo hi mx : Option V} {p : Tri} (h : sliceV cx σ site t x lo hi mx (fun v δ fp => some (Oc.val v, δ, fp)) = some p) (ha : agree p.2.2 σ σ') :
    sliceV cx σ' site t x lo hi mx (fun v δ fp => some (Oc.val v, δ, fp)) = some p := by
  unfold sliceV at h ⊢
  split at h <;> first | exact h | skip
  obtain ⟨h1, h⟩ := must_some h
  simp only [h1, must, cond_true]
  unfold dataS at h ⊢
  split at h <;> first | (cases h; done) | skip
  all_goals
    obtain ⟨h2, h⟩ := must_some h
    simp only [h2, must, cond_true]
    split at h <;> first | exact h | skip
    obtain ⟨h3, h⟩ := must_some h
    simp only [h3, must, cond_true]
    obtain ⟨n1, h, e1⟩ := bound_nat h
    obtain ⟨n2, h, e2⟩ := bound_nat h
    obtain ⟨n3, h, e3⟩ := bound_nat h
    rw [e1, e2, e3]
    cases hb : Nat.beq n1 n3 <;> rw [hb] at h
    · exact h
    · rw [cond_true] at h ⊢
      obtain ⟨h4, h⟩ := must_some h
      cases h
      rw [freshAll_st1 (ha _ List.mem_cons_self), h4]
      rfl

theorem opdO_nat {fr : Fr} {x : Option Operand} {K : Option V → Option R} {r : R} (h : opdO fr x K = some r) : ∃ v, K v = some r ∧ ∀ (R' : Type) (K' : Option V → Option R'), opdO fr x K' = K' v := by
  unfold opdO at h ⊢
  split at h
  · exact ⟨_, h, fun _ _ => rfl⟩
  · obtain ⟨v, hv, h⟩ := optK_some h
    exact ⟨_, h, fun _ _ => by simp only [hv, optK]⟩

theorem evOp_st {m nt : Nat} {call : Nat → List V → St → Option (Out × St)} {o : Oper} {fr : Fr} {p : Tri} (h : evOp1 cx m nt call o fr σ = some p) (ha : agree p.2.2 σ σ') :
    evOp1 cx m nt call o fr σ' = some p := by
  unfold evOp1 at h ⊢
  obtain ⟨dst, op, type, pos, after, guard⟩ := o
  cases op
  case makeFunc fn first caps => cases fn <;> exact h
  case makeMap t r =>
    cases r <;> simp only [evOp] at h ⊢
    · obtain ⟨hc, h⟩ := must_some h
      cases h
      rw [freshAll_st1 (ha _ List.mem_cons_self), hc]
      rfl
    · cases h
  case move x | assign x =>
    simp only [evOp] at h ⊢
    split at h <;> first | exact h | skip
    split at h <;> first | exact h | skip
    split at h
    · rename_i hg
      cases h
      rw [ha _ List.mem_cons_self, hg]
    · rename_i hg
      cases h
      rw [ha _ List.mem_cons_self, hg]
  case alloc e =>
    simp only [evOp] at h ⊢
    obtain ⟨z, hz, h⟩ := optK_some h
    simp only [hz, optK]
    obtain ⟨hc, h⟩ := must_some h
    cases h
    rw [freshAll_st ha, hc]
    rfl
  case box e x =>
    simp only [evOp] at h ⊢
    obtain ⟨z, hz, h⟩ := optK_some h
    simp only [hz, optK]
    obtain ⟨hc, h⟩ := must_some h
    cases h
    rw [freshAll_st1 (ha _ List.mem_cons_self), hc]
    rfl
  case build t ps =>
    simp only [evOp] at h ⊢
    cases hty : cx.typed nt (dst.getD 0)
    · rw [hty] at h; exact h
    · rw [hty] at h
      simp only [cond_true] at h ⊢
      obtain ⟨z, hz, h⟩ := optK_some h
      simp only [hz, optK]
      obtain ⟨hc, h⟩ := must_some h
      cases h
      rw [freshAll_st ha, hc]
      rfl
  case buildSlice t n ps =>
    simp only [evOp] at h ⊢
    split at h
    · obtain ⟨z, hz, h⟩ := optK_some h
      obtain ⟨l, hl, h⟩ := optK_some h
      obtain ⟨xs, hx, h⟩ := optK_some h
      obtain ⟨hc, h⟩ := must_some h
      cases hbare : isBare cx nt dst ps.toList <;> rw [hbare] at h <;>
      · cases h
        simp only [hz, hl, hx, optK]
        rw [freshAll_st1 (ha _ List.mem_cons_self), hc]
        rfl
    · cases h
  case load t q =>
    simp only [evOp] at h ⊢
    obtain ⟨z, hz, h⟩ := optK_some h
    simp only [hz, optK]
    exact loadV_st h ha
  case store t q x =>
    simp only [evOp] at h ⊢
    obtain ⟨z, hz, h⟩ := optK_some h
    obtain ⟨v, hv, h⟩ := optK_some h
    obtain ⟨hc, h⟩ := must_some h
    simp only [hz, hv, hc, optK, must, cond_true]
    exact storeV_st h ha
  case convert s t x =>
    simp only [evOp] at h ⊢
    obtain ⟨v, hv, h⟩ := optK_some h
    simp only [hv, optK]
    split at h
    · split at h
      · rename_i hu hg
        obtain ⟨hc, h⟩ := must_some h
        cases h
        rw [hu, ha _ List.mem_cons_self, hg]
        simp only [hc, must, cond_true]
      · cases h
    · rename_i hno
      cases hun : isUns cx.P s t <;> rw [hun] at h
      · exact h
      · simp only [cond_true] at h ⊢
        unfold convU at h ⊢
        split at h
        · split at h
          · rename_i hg
            obtain ⟨hc, h⟩ := must_some h
            cases h
            rw [ha _ List.mem_cons_self, hg]
            simp only [hc, must, cond_true]
          · cases h
        · cases h
  case slice t x lo hi mx =>
    simp only [evOp] at h ⊢
    obtain ⟨v, hv, h⟩ := optK_some h
    simp only [hv, optK]
    obtain ⟨v1, h, e1⟩ := opdO_nat h
    obtain ⟨v2, h, e2⟩ := opdO_nat h
    obtain ⟨v3, h, e3⟩ := opdO_nat h
    rw [e1, e2, e3]
    exact sliceV_st h ha
  case call c =>
    obtain ⟨callee, cargs, ctypes⟩ := c
    cases callee with
    | value f =>
      simp only [evOp] at h ⊢
      obtain ⟨v, hv, h⟩ := optK_some h
      simp only [hv, optK]
      split at h
      · rename_i g cap
        have wrap : ∀ {l : List V} {xs : List Nat}, freshAll σ [(m + dst.getD 0, Ob.tok 0)] = true →
            (callV cx call (putA σ (m + dst.getD 0) (.tok 0)) type g l xs fun oc δ fp => some (oc, (m + dst.getD 0, Ob.tok 0) :: δ, (m + dst.getD 0) :: fp)) = some p →
            (must (freshAll σ' [(m + dst.getD 0, Ob.tok 0)]) (callV cx call (putA σ' (m + dst.getD 0) (.tok 0)) type g l xs fun oc δ fp => some (oc, (m + dst.getD 0, Ob.tok 0) :: δ, (m + dst.getD 0) :: fp))) = some p := by
          intro l xs hfr h
          have e : ∀ τ : St, (callV cx call (putA τ (m + dst.getD 0) (.tok 0)) type g l xs fun oc δ fp => some (oc, (m + dst.getD 0, Ob.tok 0) :: δ, (m + dst.getD 0) :: fp)) =
              optK (callV cx call (putA τ (m + dst.getD 0) (.tok 0)) type g l xs fun oc δ fp => some (oc, δ, fp)) fun p => some (p.1, (m + dst.getD 0, Ob.tok 0) :: p.2.1, (m + dst.getD 0) :: p.2.2) := fun τ => (callV_push (σ := putA τ (m + dst.getD 0) (.tok 0)) call type g l xs (fun oc δ fp => some (oc, δ, fp)) (fun p : Tri => some (p.1, (m + dst.getD 0, Ob.tok 0) :: p.2.1, (m + dst.getD 0) :: p.2.2))).symm
          rw [e] at h
          obtain ⟨q, hq, h⟩ := optK_some h
          cases h
          have hfr' : freshAll σ' [(m + dst.getD 0, Ob.tok 0)] = true := by
            have := ha (m + dst.getD 0) List.mem_cons_self
            unfold freshAll at hfr ⊢
            rw [this]; exact hfr
          rw [hfr', e, callV_st hq (σ' := putA σ' (m + dst.getD 0) (.tok 0)) fun i hi => by
            rw [getA_putA, getA_putA, ha i (List.mem_cons_of_mem _ hi)]]
          rfl
        cases hsm : (isSame cx.P g && cap.isEmpty) <;> rw [hsm] at h <;> simp only [cond_true, cond_false] at h ⊢
        rotate_left
        · obtain ⟨l, hl, h⟩ := optK_some h
          simp only [hl]
          exact h
        cases hgv : cx.gives g <;> rw [hgv] at h
        · cases hnil : (cx.keep g && hasNil cargs.toList) <;> rw [hnil] at h
          · obtain ⟨l, hl, h⟩ := optK_some h
            simp only [hl, cond_false]
            exact callV_st h ha
          · obtain ⟨l, hl, h⟩ := optK_some h
            obtain ⟨hfr, h⟩ := must_some h
            simp only [hl, cond_true, cond_false]
            exact wrap hfr h
        · obtain ⟨l, hl, h⟩ := optK_some h
          obtain ⟨hfr, h⟩ := must_some h
          simp only [hl, cond_true]
          exact wrap hfr h
      · cases h
    | invoke r nm => exact h
    | builtin b =>
      cases b <;> first | exact h | skip
      · simp only [evOp] at h ⊢
        split at h
        · obtain ⟨v, hv, h⟩ := optK_some h
          obtain ⟨u, hu, h⟩ := optK_some h
          obtain ⟨hc, h⟩ := must_some h
          simp only [hv, hu, optK, hc, must, cond_true]
          exact appendV_st h ha
        · cases h
      · simp only [evOp] at h ⊢
        split at h
        · obtain ⟨v, hv, h⟩ := optK_some h
          simp only [hv, optK]
          exact lenV_st h ha
        · cases h
  all_goals exact h

end
end Go.Vai
end

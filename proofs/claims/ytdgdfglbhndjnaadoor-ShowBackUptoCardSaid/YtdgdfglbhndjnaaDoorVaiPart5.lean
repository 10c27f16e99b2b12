/-
  Regions whose order is open.
  Regions whose order is open: every order.
  Regions whose order is open: the interpreter's one order stands for all.
  Regions, and all code.
  Regions whose order is open, in two parts.
  A region whose order is open, at the end of which a place is made behind a slice's end and filled, and the slice is stored.
  All code.
-/
import Derived.Test.YtdgdfglbhndjnaaDoorVaiPart4

set_option linter.all false
set_option linter.unusedSimpArgs false
set_option linter.unusedVariables false

section
namespace Go.Vai

section
variable {R : Type} {cx : Cx} {w : World} {σ σ' : St} {μ : Mu}

/-- Worlds told in other words. -/
def sameSt (σ σ' : St) : Prop := ∀ i, getA σ' i = getA σ i

theorem sameSt.own (h : sameSt σ σ') : OwnOf σ' μ = OwnOf σ μ := by
  funext b i
  simp only [OwnOf, Mine, h _]

theorem sameSt.after (h : sameSt σ σ') (hi : Inv cx w σ μ) : After cx w σ μ w σ' μ := by
  have hown := h.own (μ := μ)
  have hst : Stays w (OwnOf σ μ) w (OwnOf σ' μ) := by rw [hown]; exact Stays.refl _ _
  have hstill : ∀ id o, getA σ id = some o → stillOb μ id o μ (getA σ' id) := fun id o ho => by rw [h id, ho]; exact stillOb.refl μ id o
  have rv : ∀ v x, RV w σ μ v x → RV w σ' μ v x := fun v x hv => hv.stays hst fun id _ o ho => hstill id o ho
  have hm : Mine σ' μ = Mine σ μ := by funext b i; simp only [Mine, h _]
  refine ⟨⟨fun id o ho => ?_, fun id id' o o' b i ho ho' => hi.apart id id' o o' b i (h id ▸ ho) (h id' ▸ ho'), by rw [hown]; exact hi.glob, fun id o b i ho => hi.frame id o b i (h id ▸ ho), hi.frLt, hi.frMap⟩, ⟨⟨rfl, rfl, Nat.le_refl _, fun _ _ _ => rfl, fun _ _ _ _ h => h⟩, fun b i _ ho => by rw [hm] at ho; exact ho, rfl⟩, hstill, rfl⟩
  have hok := hi.ob id o (h id ▸ ho)
  cases o with
  | val n v =>
    obtain ⟨b, cs, el, hb, hh, hn, ht, h1, hr, htag⟩ := hok
    exact ⟨b, cs, el, hb, hh, hn, ht, h1, hr.map fun v x _ => rv v x, htag⟩
  | row l =>
    obtain ⟨b, cs, el, hb, hh, h1, hr⟩ := hok
    exact ⟨b, cs, el, hb, hh, h1, hr.stays hst⟩
  | tok n => exact hok
  | map ks vs =>
    obtain ⟨b, es, clock, hb, hh, hk, hv⟩ := hok
    exact ⟨b, es, clock, hb, hh, hk.stays hst, hv.stays hst⟩

/-- What came of an operation. -/
inductive Res where
  | dep
  | off
  | val (v : V) (δ : De) (fp : List Nat)
  | pan (v : V) (δ : De) (fp : List Nat)

structure It where
  i : Nat
  o : Oper
  res : Res

/-- The slot written. -/
def It.wf (t : It) : Option (Nat × V) :=
  match t.res with
  | .off => t.o.dst.map fun d => (d, undefV)
  | .val v _ _ => t.o.dst.map fun d => (d, v)
  | _ => none

def It.ws (t : It) : De :=
  match t.res with
  | .val _ δ _ | .pan _ δ _ => δ
  | _ => []

def It.rf (ops : List Oper) (t : It) : List Nat :=
  match t.res with
  | .dep => []
  | _ => looks ops t.o

def It.rs (t : It) : List Nat :=
  match t.res with
  | .val _ _ fp | .pan _ _ fp => fp
  | _ => []

def It.nextF (t : It) (fr : Fr) : Fr := match t.wf with | some p => p :: fr | none => fr
def It.nextS (t : It) (σ : St) : St := applyDe σ t.ws

/-- The operation comes out so. -/
def Good (cx : Cx) (m nt : Nat) (call : Nat → List V → St → Option (Out × St)) (ops : List Oper) (fr : Fr) (σ : St) (t : It) : Prop :=
  match t.res with
  | .dep => True
  | .off => wants ops t.o fr = some false
  | .val v δ fp => wants ops t.o fr = some true ∧ evOp1 cx m nt call t.o fr σ = some (.val v, δ, fp)
  | .pan v δ fp => wants ops t.o fr = some true ∧ evOp1 cx m nt call t.o fr σ = some (.pan v, δ, fp)

/-- Two that may change places. -/
structure Comm (ops : List Oper) (a b : It) : Prop where
  ab : ∀ p, a.wf = some p → p.1 ∉ b.rf ops
  ba : ∀ p, b.wf = some p → p.1 ∉ a.rf ops
  ff : ∀ p q, a.wf = some p → b.wf = some q → p.1 ≠ q.1
  sab : ∀ i ∈ a.ws.map (·.1), i ∉ b.rs ∧ i ∉ b.ws.map (·.1)
  sba : ∀ i ∈ b.ws.map (·.1), i ∉ a.rs ∧ i ∉ a.ws.map (·.1)

variable {m nt : Nat} {call : Nat → List V → St → Option (Out × St)} {ops : List Oper}

theorem opd_same {fr fr' : Fr} {x : Operand} (h : ∀ t, x = .tmp t → getA fr' t = getA fr t) : opd fr' x = opd fr x := by
  cases x <;> first | rfl | exact h _ rfl

theorem looks_op {o : Oper} {x : Operand} (hx : x ∈ o.op.operands) {t : Nat} (ht : x = .tmp t) : t ∈ looks ops o := by
  subst ht
  exact List.mem_append_left _ (List.mem_filterMap.2 ⟨.tmp t, by simpa using hx, rfl⟩)

theorem wants_same {o : Oper} {fr fr' : Fr} (h : ∀ t ∈ looks ops o, getA fr' t = getA fr t) : wants ops o fr' = wants ops o fr := by
  unfold wants
  split
  · rfl
  · rename_i j want hg
    split
    · rfl
    · rename_i t ht
      rw [h t (List.mem_append_right _ (by simp [hg, ht]))]

theorem Good.same {fr fr' : Fr} {t : It} (h : Good cx m nt call ops fr σ t) (hf : ∀ s ∈ t.rf ops, getA fr' s = getA fr s) (hs : agree t.rs σ σ') : Good cx m nt call ops fr' σ' t := by
  unfold Good at h ⊢
  obtain ⟨i, o, res⟩ := t
  have key : ∀ p : Tri, (∀ s ∈ looks ops o, getA fr' s = getA fr s) → evOp1 cx m nt call o fr σ = some p → agree p.2.2 σ σ' → evOp1 cx m nt call o fr' σ' = some p := fun p hl h1 h2 => by
    have : evOp1 cx m nt call o fr' σ' = evOp1 cx m nt call o fr σ' := evOp_fr fun x hx => opd_same fun t ht => hl t (looks_op hx ht)
    rw [this]
    exact evOp_st h1 h2
  cases res with
  | dep => trivial
  | off => exact (wants_same hf).trans h
  | val v δ fp => exact ⟨(wants_same hf).trans h.1, key _ hf h.2 hs⟩
  | pan v δ fp => exact ⟨(wants_same hf).trans h.1, key _ hf h.2 hs⟩

theorem nextF_get (t : It) (fr : Fr) (s : Nat) : getA (t.nextF fr) s = match t.wf with | some p => if p.1 = s then some p.2 else getA fr s | none => getA fr s := by
  unfold It.nextF
  cases t.wf with
  | none => rfl
  | some p =>
    obtain ⟨d, v⟩ := p
    simp only [getA]
    by_cases h : d = s
    · subst h; simp
    · simp [h, beqF h]

theorem nextF_not {t : It} {fr : Fr} {s : Nat} (h : ∀ p, t.wf = some p → p.1 ≠ s) : getA (t.nextF fr) s = getA fr s := by
  rw [nextF_get]
  cases hw : t.wf with
  | none => rfl
  | some p => simp [h p hw]

theorem nextS_not {t : It} {s : Nat} (h : s ∉ t.ws.map (·.1)) : getA (t.nextS σ) s = getA σ s := getA_applyDe_not h

theorem applyDe_same {δ : De} : ∀ {σ σ' : St} {i : Nat}, i ∈ δ.map (·.1) ∨ getA σ' i = getA σ i → getA (applyDe σ' δ) i = getA (applyDe σ δ) i := by
  induction δ with
  | nil => intro σ σ' i h; rcases h with h | h; · simp at h
           exact h
  | cons p δ ih =>
    intro σ σ' i h
    obtain ⟨j, o⟩ := p
    simp only [applyDe]
    refine ih ?_
    by_cases hj : j = i
    · right; subst hj; simp [getA_putA]
    · simp only [List.map_cons, List.mem_cons] at h
      rcases h with (h | h) | h
      · exact absurd h.symm hj
      · exact .inl h
      · right; simp [getA_putA, hj, h]

theorem nextS_same {t : It} (h : sameSt σ σ') : sameSt (t.nextS σ) (t.nextS σ') := fun i => applyDe_same (.inr (h i))
theorem nextF_same {t : It} {fr fr' : Fr} (h : sameFr fr fr') : sameFr (t.nextF fr) (t.nextF fr') := fun i => by rw [nextF_get, nextF_get]; split <;> simp [h i]

theorem Comm.swapF {a b : It} (h : Comm ops a b) (fr : Fr) : sameFr (b.nextF (a.nextF fr)) (a.nextF (b.nextF fr)) := fun i => by
  rw [nextF_get, nextF_get, nextF_get, nextF_get]
  cases ha : a.wf with
  | none => rfl
  | some p =>
    cases hb : b.wf with
    | none => rfl
    | some q =>
      have := h.ff p q ha hb
      by_cases h1 : p.1 = i
      · have : q.1 ≠ i := fun e => this (h1.trans e.symm)
        simp [h1, this]
      · simp [h1]

theorem Comm.swapS {a b : It} (h : Comm ops a b) (σ : St) : sameSt (b.nextS (a.nextS σ)) (a.nextS (b.nextS σ)) := fun i => by
  by_cases ha : i ∈ a.ws.map (·.1)
  · have hb := (h.sab i ha).2
    rw [nextS_not (t := b) hb]
    exact applyDe_same (.inl ha)
  · rw [nextS_not (t := a) ha]
    by_cases hb : i ∈ b.ws.map (·.1)
    · exact (applyDe_same (.inl hb))
    · rw [nextS_not (t := b) hb, nextS_not (t := b) hb, nextS_not (t := a) ha]

/-- All that remains comes out so, in the text's order. -/
def Rem (cx : Cx) (m nt : Nat) (call : Nat → List V → St → Option (Out × St)) (ops : List Oper) : List It → Fr → St → Prop
  | [], _, _ => True
  | t :: L, fr, σ => Good cx m nt call ops fr σ t ∧ Rem cx m nt call ops L (t.nextF fr) (t.nextS σ)

def endF : List It → Fr → Fr
  | [], fr => fr
  | t :: L, fr => endF L (t.nextF fr)
def endS : List It → St → St
  | [], σ => σ
  | t :: L, σ => endS L (t.nextS σ)

theorem Rem.same : ∀ {L : List It} {fr fr' : Fr} {σ σ' : St}, Rem cx m nt call ops L fr σ → sameFr fr fr' → sameSt σ σ' → Rem cx m nt call ops L fr' σ'
  | [], _, _, _, _, _, _, _ => trivial
  | _ :: _, _, _, _, _, h, hf, hs => ⟨h.1.same (fun s _ => hf s) (fun i _ => hs i), Rem.same h.2 (nextF_same hf) (nextS_same hs)⟩

theorem endF_same : ∀ {L : List It} {fr fr' : Fr}, sameFr fr fr' → sameFr (endF L fr) (endF L fr')
  | [], _, _, h => h
  | t :: L, fr, fr', h => endF_same (L := L) (fr := t.nextF fr) (fr' := t.nextF fr') (nextF_same h)
theorem endS_same : ∀ {L : List It} {σ σ' : St}, sameSt σ σ' → sameSt (endS L σ) (endS L σ')
  | [], _, _, h => h
  | t :: L, σ, σ', h => endS_same (L := L) (σ := t.nextS σ) (σ' := t.nextS σ') (nextS_same h)

theorem sameFr.trans {a b c : Fr} (h : sameFr a b) (h' : sameFr b c) : sameFr a c := fun t => (h' t).trans (h t)
theorem sameSt.trans {a b c : St} (h : sameSt a b) (h' : sameSt b c) : sameSt a c := fun t => (h' t).trans (h t)
theorem sameSt.refl (a : St) : sameSt a a := fun _ => rfl

/-- One of those that remain comes first. -/
theorem Rem.pull {b : It} {B : List It} : ∀ {A : List It} {fr : Fr} {σ : St}, Rem cx m nt call ops (A ++ b :: B) fr σ → (∀ a ∈ A, Comm ops a b) →
    Good cx m nt call ops fr σ b ∧ Rem cx m nt call ops (A ++ B) (b.nextF fr) (b.nextS σ) ∧ sameFr (endF (A ++ b :: B) fr) (endF (A ++ B) (b.nextF fr)) ∧ sameSt (endS (A ++ b :: B) σ) (endS (A ++ B) (b.nextS σ))
  | [], fr, σ, h, _ => ⟨h.1, h.2, sameFr.refl _, sameSt.refl _⟩
  | a :: A, fr, σ, h, hc => by
    have hab := hc a List.mem_cons_self
    obtain ⟨h1, h2⟩ := h
    obtain ⟨g1, g2, g3, g4⟩ := Rem.pull h2 fun x hx => hc x (List.mem_cons_of_mem _ hx)
    have gb : Good cx m nt call ops fr σ b := g1.same (fun s hs => (nextF_not fun p hp e => hab.ab p hp (e ▸ hs)).symm) (fun i hi => (nextS_not fun hm => (hab.sab i hm).1 hi).symm)
    have ga : Good cx m nt call ops (b.nextF fr) (b.nextS σ) a := h1.same (fun s hs => nextF_not fun p hp e => hab.ba p hp (e ▸ hs)) (fun i hi => nextS_not fun hm => (hab.sba i hm).1 hi)
    exact ⟨gb, ⟨ga, g2.same (hab.swapF fr) (hab.swapS σ)⟩, g3.trans (endF_same (hab.swapF fr)), g4.trans (endS_same (hab.swapS σ))⟩

end
end Go.Vai
end

section
namespace Go.Vai

section
variable {R : Type} {cx : Cx}

theorem pres_pre : ∀ (ops : List Oper) (acc : List Nat) (i : Nat), i < acc.length → (pres ops acc).getD i 0 = acc.getD i 0
  | [], _, _, _ => rfl
  | o :: r, acc, i, h => by
    simp only [pres]
    rw [pres_pre r _ i (by simp; omega)]
    simp [List.getD_eq_getElem?_getD, List.getElem?_append_left h]

theorem presFold {acc : List Nat} {k : Nat} : ∀ (es : List Edge) (s : Nat),
    (es.foldl (fun s e => bif Region.binds .any e then s ||| 2 ^ e.on ||| acc.getD e.on 0 else s) s).testBit k = true →
    s.testBit k = true ∨ ∃ e ∈ es, Region.binds .any e = true ∧ (k = e.on ∨ (acc.getD e.on 0).testBit k = true)
  | [], s, h => .inl h
  | e :: es, s, h => by
    simp only [List.foldl_cons] at h
    rcases presFold es _ h with h | ⟨e', he', h⟩
    · cases hb : Region.binds .any e <;> rw [hb] at h
      · exact .inl h
      · simp only [cond_true, Nat.testBit_or, Bool.or_eq_true] at h
        rcases h with (h | h) | h
        · exact .inl h
        · refine .inr ⟨e, List.mem_cons_self, hb, .inl ?_⟩
          rw [Nat.testBit_two_pow] at h
          simpa [eq_comm] using h
        · exact .inr ⟨e, List.mem_cons_self, hb, .inr h⟩
    · exact .inr ⟨e', List.mem_cons_of_mem _ he', h⟩

theorem pres_spec : ∀ (ops : List Oper) (acc : List Nat) (i k : Nat), acc.length ≤ i → preHas (pres ops acc) i k = true →
    ∃ o e, ops[i - acc.length]? = some o ∧ e ∈ o.after.toList ∧ Region.binds .any e = true ∧ (k = e.on ∨ preHas (pres ops acc) e.on k = true)
  | [], acc, i, k, hi, h => by
    simp only [pres, preHas, List.getD_eq_getElem?_getD, List.getElem?_eq_none hi] at h
    simp at h
  | o :: r, acc, i, k, hi, h => by
    simp only [pres] at h ⊢
    by_cases he : i = acc.length
    · subst he
      have h0 := h
      simp only [preHas] at h
      rw [pres_pre r _ _ (by simp)] at h
      simp only [List.getD_eq_getElem?_getD, List.getElem?_concat_length, Option.getD_some] at h
      rcases presFold _ _ h with h | ⟨e, he, hb, h⟩
      · simp at h
      · refine ⟨o, e, by simp, he, hb, h.imp id fun h => ?_⟩
        by_cases hlt : e.on < acc.length
        · simp only [preHas]
          rw [pres_pre r _ _ (by simp; omega)]
          simpa [List.getD_eq_getElem?_getD, List.getElem?_append_left hlt] using h
        · simp [List.getD_eq_getElem?_getD, List.getElem?_eq_none (Nat.le_of_not_lt hlt)] at h
    · obtain ⟨o', e, h1, h2⟩ := pres_spec r (acc ++ [_]) i k (by simp; omega) h
      refine ⟨o', e, ?_, h2⟩
      have : i - acc.length = (i - (acc ++ [o.after.toList.foldl (fun s e => bif Region.binds .any e then s ||| 2 ^ e.on ||| acc.getD e.on 0 else s) 0]).length) + 1 := by simp; omega
      rw [this, List.getElem?_cons_succ]
      exact h1

def isPan (t : It) : Prop := match t.res with | .pan .. => True | _ => False

def logOf (t : It) : Log := ⟨t.i, t.ws.map (·.1) ++ t.rs, t.ws.map (·.1)⟩

variable {m nt : Nat} {call : Nat → List V → St → Option (Out × St)} {ds : List Deferred} {w₀ : World} {σ₀ : St} {μ₀ : Mu}

def lis (listed : Array Bool) (i : Nat) : Prop := listed.getD i false = true

theorem lis_set {listed : Array Bool} {i j : Nat} (hi : i < listed.size) : lis (listed.setIfInBounds i true) j ↔ j = i ∨ lis listed j := by
  unfold lis
  by_cases h : i = j
  · subst h; simp [Array.getD_eq_getD_getElem?, hi]
  · simp [Array.getD_eq_getD_getElem?, Array.getElem?_setIfInBounds_ne h, Ne.symm h]

theorem any_ok (hcall : CallOk cx call) (hn : noRoutines cx.P) {arr : Array Oper} {K : Ex → Fr → St → Option R} {r : R}
    {Q : Exit → Act → World → Prop} {frE : Fr} {σE : St}
    (hQ : ∀ e fr σ, K e fr σ = some r → ∀ x a w μ, exits w σ μ e x → Now cx nt ds w₀ σ₀ μ₀ a w σ μ fr → Q x a w)
    (hedge : ∀ (j : Nat) o, arr.toList[j]? = some o → edgesOk j o = true) :
    ∀ (N : Nat) (L : List It) (listed : Array Bool) (fr : Fr) (σ : St) (a : Act) (w : World) (μ : Mu), L.length = N → listed.size = arr.size →
      (∀ t ∈ L, arr.toList[t.i]? = some t.o) → (∀ i, i < arr.size → (lis listed i ↔ ∀ t ∈ L, t.i ≠ i)) →
      L.Pairwise (fun a b => a.i < b.i ∧ (preHas (pres arr.toList []) b.i a.i = true ∨ Comm arr.toList a b)) →
      (∀ j k, lis listed j → preHas (pres arr.toList []) j k = true → lis listed k) →
      (∀ t ∈ L, t.res = .dep ∨ dstOk nt t.o.dst = true) →
      (∀ t ∈ L, t.res = .dep → ∃ t' ∈ L, isPan t' ∧ preHas (pres arr.toList []) t.i t'.i = true) →
      (∀ t ∈ L, ∀ v δ fp, t.res = .pan v δ fp → K (.pan v) [] σE = some r ∧ ∀ t' ∈ L, t'.ws = [] ∨ t'.i = t.i ∨ preHas (pres arr.toList []) t.i t'.i = true) →
      ((∃ t ∈ L, isPan t) ∨ K .normal frE σE = some r) →
      Rem cx m nt call arr.toList L fr σ → sameFr (endF L fr) frE → sameSt (endS L σ) σE →
      Now cx nt ds w₀ σ₀ μ₀ a w σ μ fr → wpAny cx.P .any arr Q N listed a w := by
  intro N
  induction N with
  | zero =>
    intro L listed fr σ a w μ hN hsz hops hlis hpair hclosed hdst hdep hpan hend hrem hF hS hnow
    obtain rfl := List.eq_nil_of_length_eq_zero hN
    have hK : K .normal frE σE = some r := hend.resolve_left (by simp)
    refine ⟨?_, ?_⟩
    · simp only [Region.ready, List.filter_eq_nil_iff, List.mem_range]
      intro i hi
      have : lis listed i := (hlis i hi).2 (by simp)
      have hi' : i < listed.size := by omega
      simp [lis, Array.getD_eq_getD_getElem?, hi'] at this ⊢
      simp [this]
    · have haf := hS.after hnow.after.inv
      exact hQ _ _ _ hK _ _ _ μ trivial ⟨hnow.after.trans haf, (haf.frs hnow.after.inv hnow.fr).same hF, hnow.size, hnow.defers⟩
  | succ N ih =>
    intro L listed fr σ a w μ hN hsz hops hlis hpair hclosed hdst hdep hpan hend hrem hF hS hnow
    refine ⟨fun hready => ?_, fun i hi => ?_⟩
    · -- something is always ready
      exfalso
      cases L with
      | nil => simp at hN
      | cons t L =>
        have ht := hops t List.mem_cons_self
        have hlt : t.i < arr.size := by have := (List.getElem?_eq_some_iff.1 ht).1; simpa using this
        have hnl : ¬ lis listed t.i := fun h => ((hlis t.i hlt).1 h) t List.mem_cons_self rfl
        have : t.i ∈ Region.ready .any arr listed := by
          simp only [Region.ready, List.mem_filter, List.mem_range]
          refine ⟨hlt, ?_⟩
          have h1 : arr[t.i]? = some t.o := by simpa using ht
          have h2 : listed.getD t.i true = false := by
            have hi' : t.i < listed.size := by omega
            simp [lis, Array.getD_eq_getD_getElem?, hi'] at hnl ⊢
            exact hnl
          simp only [h1, h2, Bool.not_false, Bool.true_and, Option.map_some, Option.getD_some]
          rw [← Array.all_toList, List.all_eq_true]
          intro e he
          have he2 := List.all_eq_true.1 (hedge t.i t.o ht) e he
          cases hb : Region.binds .any e
          · rfl
          · rw [hb] at he2
            have hlt2 : e.on < t.i := by simpa using he2
            have : lis listed e.on := (hlis e.on (by omega)).2 fun u hu hui => by
              rcases List.mem_cons.1 hu with rfl | hu
              · omega
              · have := (List.pairwise_cons.1 hpair).1 u hu
                omega
            simpa [lis] using this
        rw [hready] at this
        cases this
    · -- one that is ready
      simp only [Region.ready, List.mem_filter, List.mem_range, Bool.and_eq_true] at hi
      obtain ⟨hlt, hnl, haft⟩ := hi
      have hnl' : ¬ lis listed i := by
        have hi' : i < listed.size := by omega
        simp [lis, Array.getD_eq_getD_getElem?, hi'] at hnl ⊢
        exact hnl
      obtain ⟨b, hb, hbi⟩ : ∃ b ∈ L, b.i = i := Classical.byContradiction fun hne => hnl' ((hlis i hlt).2 fun t ht he => hne ⟨t, ht, he⟩)
      subst hbi
      obtain ⟨A, B, rfl⟩ := List.append_of_mem hb
      have hbo := hops b hb
      have hbo' : arr[b.i]? = some b.o := by simpa using hbo
      simp only [hbo', Option.map_some, Option.getD_some] at haft
      have hbefore : ∀ k, preHas (pres arr.toList []) b.i k = true → lis listed k := by
        intro k hk
        obtain ⟨o, e, h1, h2, h3, h4⟩ := pres_spec arr.toList [] b.i k (Nat.zero_le _) hk
        rw [List.length_nil, Nat.sub_zero, hbo] at h1
        cases h1
        rw [← Array.all_toList, List.all_eq_true] at haft
        have he := haft e h2
        rw [h3] at he
        have hl : lis listed e.on := by simpa [lis] using he
        rcases h4 with rfl | h4
        · exact hl
        · exact hclosed _ _ hl h4
      have hunl : ∀ t ∈ A ++ b :: B, ¬ lis listed t.i := fun t ht h => by
        have hto := hops t ht
        have hlt : t.i < arr.size := by have := (List.getElem?_eq_some_iff.1 hto).1; simpa using this
        exact (hlis t.i hlt).1 h t ht rfl
      have hpair' := hpair
      rw [List.pairwise_append] at hpair'
      obtain ⟨hpA, hpB, hpAB⟩ := hpair'
      rw [List.pairwise_cons] at hpB
      have hcomm : ∀ x ∈ A, Comm arr.toList x b := fun x hx =>
        ((hpAB x hx b List.mem_cons_self).2).resolve_left fun h => hunl x (List.mem_append_left _ hx) (hbefore _ h)
      obtain ⟨hg, hrem', hF', hS'⟩ := hrem.pull hcomm
      have hsub : ∀ t ∈ A ++ B, t ∈ A ++ b :: B := fun t ht => by
        rcases List.mem_append.1 ht with h | h
        · exact List.mem_append_left _ h
        · exact List.mem_append_right _ (List.mem_cons_of_mem _ h)
      have hne : ∀ t ∈ A ++ B, t.i ≠ b.i := fun t ht => by
        rcases List.mem_append.1 ht with h | h
        · have := (hpAB t h b List.mem_cons_self).1; omega
        · have := (hpB.1 t h).1; omega
      have hsz' : b.i < listed.size := by omega
      -- the rest, once this one is done
      have rest : ¬ isPan b → ∀ (a' : Act) (w' : World) (μ' : Mu), Now cx nt ds w₀ σ₀ μ₀ a' w' (b.nextS σ) μ' (b.nextF fr) → wpAny cx.P .any arr Q N (listed.setIfInBounds b.i true) a' w' := by
        intro hnp a' w' μ' hnow'
        refine ih (A ++ B) _ _ _ a' w' μ' ?_ (by simpa using hsz) (fun t ht => hops t (hsub t ht)) ?_ ?_ ?_ (fun t ht => hdst t (hsub t ht)) ?_ ?_ ?_ hrem' (fun s => (hF s).trans (hF' s).symm) (fun s => (hS s).trans (hS' s).symm) hnow'
        · simp at hN ⊢; omega
        · intro j hj
          rw [lis_set hsz', hlis j hj]
          constructor
          · rintro (rfl | h) t ht
            · exact hne t ht
            · exact h t (hsub t ht)
          · intro h
            by_cases hjb : j = b.i
            · exact .inl hjb
            · refine .inr fun t ht => ?_
              rcases List.mem_append.1 ht with h' | h'
              · exact h t (List.mem_append_left _ h')
              · rcases List.mem_cons.1 h' with rfl | h'
                · exact fun e => hjb e.symm
                · exact h t (List.mem_append_right _ h')
        · rw [List.pairwise_append]
          exact ⟨hpA, hpB.2, fun x hx y hy => hpAB x hx y (List.mem_cons_of_mem _ hy)⟩
        · intro j k hj hk
          rw [lis_set hsz'] at hj ⊢
          rcases hj with rfl | hj
          · exact .inr (hbefore k hk)
          · exact .inr (hclosed j k hj hk)
        · intro t ht htd
          obtain ⟨t', ht', hp, hpre⟩ := hdep t (hsub t ht) htd
          refine ⟨t', ?_, hp, hpre⟩
          rcases List.mem_append.1 ht' with h' | h'
          · exact List.mem_append_left _ h'
          · rcases List.mem_cons.1 h' with rfl | h'
            · exact (hnp hp).elim
            · exact List.mem_append_right _ h'
        · intro t ht v δ fp htp
          obtain ⟨h1, h2⟩ := hpan t (hsub t ht) v δ fp htp
          exact ⟨h1, fun t' ht' => h2 t' (hsub t' ht')⟩
        · refine hend.imp (fun ⟨t, ht, hp⟩ => ⟨t, ?_, hp⟩) id
          rcases List.mem_append.1 ht with h' | h'
          · exact List.mem_append_left _ h'
          · rcases List.mem_cons.1 h' with rfl | h'
            · exact (hnp hp).elim
            · exact List.mem_append_right _ h'
      unfold wpOp
      simp only [hbo']
      have hd := hdst b hb
      cases hres : b.res with
      | dep =>
        obtain ⟨t', ht', _, hpre⟩ := hdep b hb hres
        exact (hunl t' ht' (hbefore _ hpre)).elim
      | off =>
        have hd := hd.resolve_left (by rw [hres]; intro h; cases h)
        simp only [Good, hres] at hg
        rw [wants_ok rfl hnow.fr hg]
        simp only [Bool.false_eq_true, if_false]
        have e1 : b.nextF fr = putF fr b.o.dst undefV := by simp only [It.nextF, It.wf, hres, putF]; cases b.o.dst <;> rfl
        have e2 : b.nextS σ = σ := by simp only [It.nextS, It.ws, hres]; rfl
        refine rest (by simp [isPan, hres]) _ _ μ ?_
        rw [e1, e2]
        exact ⟨hnow.after, FR.put hnow.fr hd hnow.size undef_ok, by rw [put_size]; exact hnow.size, by rw [put_defers']; exact hnow.defers⟩
      | val v δ fp =>
        have hd := hd.resolve_left (by rw [hres]; intro h; cases h)
        simp only [Good, hres] at hg
        obtain ⟨hw, hev⟩ := hg
        rw [wants_ok rfl hnow.fr hw, if_pos rfl]
        left
        obtain ⟨oc, δ', fp', hK, hok⟩ := evOp_ok hcall hn hnow.after.inv hnow.fr hev
        cases hK
        refine hok _ _ ?_
        intro v' w' μ' haf hv
        have e1 : b.nextF fr = putF fr b.o.dst v := by simp only [It.nextF, It.wf, hres, putF]; cases b.o.dst <;> rfl
        have e2 : b.nextS σ = applyDe σ δ := by simp only [It.nextS, It.ws, hres]
        refine rest (by simp [isPan, hres]) _ _ μ' ?_
        rw [e1, e2]
        exact ⟨hnow.after.trans haf, FR.put (haf.frs hnow.after.inv hnow.fr) hd hnow.size hv, by rw [put_size]; exact hnow.size, by rw [put_defers']; exact hnow.defers⟩
      | pan v δ fp =>
        simp only [Good, hres] at hg
        obtain ⟨hw, hev⟩ := hg
        rw [wants_ok rfl hnow.fr hw, if_pos rfl]
        left
        obtain ⟨oc, δ', fp', hK, hok⟩ := evOp_ok hcall hn hnow.after.inv hnow.fr hev
        cases hK
        refine hok _ _ ?_
        intro x w' μ' haf hv
        obtain ⟨hKp, hws⟩ := hpan b hb v δ fp hres
        have e2 : b.nextS σ = applyDe σ δ := by simp only [It.nextS, It.ws, hres]
        have hquiet : ∀ (L : List It) (σ : St), (∀ t ∈ L, t.ws = []) → endS L σ = σ := by
          intro L
          induction L with
          | nil => intro σ _; rfl
          | cons t L ihL =>
            intro σ h
            simp only [endS]
            rw [ihL _ fun u hu => h u (List.mem_cons_of_mem _ hu)]
            simp only [It.nextS, h t List.mem_cons_self, applyDe]
        have hall : ∀ t ∈ A ++ B, t.ws = [] := fun t ht => by
          rcases hws t (hsub t ht) with h | h | h
          · exact h
          · exact (hne t ht h).elim
          · exact (hunl t (hsub t ht) (hbefore _ h)).elim
        have hsame : sameSt (applyDe σ δ) σE := by
          intro s
          rw [hS s, ← hS' s, hquiet _ _ hall, e2]
        have haf2 := hsame.after haf.inv
        exact hQ _ _ _ hKp _ _ _ μ' ⟨x, rfl, haf2.rv haf.inv hv⟩ ⟨(hnow.after.trans haf).trans haf2, FR.nil, hnow.size, hnow.defers⟩

end
end Go.Vai
end

section
namespace Go.Vai

section
variable {R : Type} {cx : Cx} {m nt : Nat} {call : Nat → List V → St → Option (Out × St)} {ops : List Oper}

theorem looks_guard {o : Oper} {fr fr' : Fr} (h : sameFr fr fr') : wants ops o fr' = wants ops o fr := wants_same fun t _ => h t

/-- The last words of a drawn region. -/
def Last (K : Ex → Fr → St → Option R) (r : R) (pre : List Nat) (log : List Log) (L : List It) (fr : Fr) (σ : St) : Option (Nat × V) → Prop
  | some (k, v) => (∀ t ∈ L, ¬ isPan t) ∧ (∀ t ∈ L, t.res = .dep → preHas pre t.i k = true) ∧ K (.pan v) [] (endS L σ) = some r ∧
      (∀ e ∈ log, e.w = [] ∨ e.i = k ∨ preHas pre k e.i = true) ∧ ∀ t ∈ L, t.ws = [] ∨ t.i = k ∨ preHas pre k t.i = true
  | none => ((∀ t ∈ L, ¬ isPan t) ∧ (∀ t ∈ L, t.res ≠ .dep) ∧ ∃ frE, sameFr (endF L fr) frE ∧ K .normal frE (endS L σ) = some r) ∨
      ∃ t₀ ∈ L, ∃ v δ fp, t₀.res = .pan v δ fp ∧ (∀ t ∈ L, isPan t → t = t₀) ∧ (∀ t ∈ L, t.res = .dep → preHas pre t.i t₀.i = true) ∧ K (.pan v) [] (endS L σ) = some r ∧
        (∀ e ∈ log, e.w = [] ∨ e.i = t₀.i ∨ preHas pre t₀.i e.i = true) ∧ ∀ t ∈ L, t.ws = [] ∨ t.i = t₀.i ∨ preHas pre t₀.i t.i = true

theorem meet_none {pre : List Nat} {e : Log} {i : Nat} : meetOk pre e ⟨i, [], []⟩ = true := by simp [meetOk, disj]
theorem meet_none' {pre : List Nat} {e : Log} {i : Nat} : meetOk pre ⟨i, [], []⟩ e = true := by simp [meetOk, disj]

theorem isEmpty_eq {α : Type} {l : List α} (h : l.isEmpty = true) : l = [] := by simpa using h

theorem evDraw_items {K0 : Nat} {pre : List Nat} {K : Ex → Fr → St → Option R} {r : R} :
    ∀ (l : List Oper) (i : Nat) (log : List Log) (dead : Option (Nat × V)) (fr : Fr) (σ : St), (ops.take K0).drop i = l → (∀ k v, dead = some (k, v) → k < i) →
      evDraw cx m nt call ops pre i l log dead fr σ K = some r →
      ∃ L : List It, (∀ t ∈ L, (i ≤ t.i ∧ t.i < (ops.take K0).length) ∧ ops[t.i]? = some t.o) ∧ (∀ j, i ≤ j → j < (ops.take K0).length → ∃ t ∈ L, t.i = j) ∧ L.Pairwise (fun a b => a.i < b.i ∧ meetOk pre (logOf a) (logOf b) = true) ∧
        (∀ e ∈ log, ∀ t ∈ L, meetOk pre e (logOf t) = true) ∧ (∀ t ∈ L, t.res = .dep ∨ dstOk nt t.o.dst = true) ∧ Rem cx m nt call ops L fr σ ∧ Last K r pre log L fr σ dead ∧ L.length + i = max i (ops.take K0).length := by
  intro l
  induction l with
  | nil =>
    intro i log dead fr σ hl hk h
    have hlen : (ops.take K0).length ≤ i := by have := congrArg List.length hl; rw [List.length_drop] at this; simp only [List.length_nil, List.length_cons] at this; omega
    refine ⟨[], by simp, fun j h1 h2 => by omega, .nil, by simp, by simp, trivial, ?_, by rw [List.length_nil]; omega⟩
    cases dead with
    | none => exact .inl ⟨by simp, by simp, fr, sameFr.refl fr, h⟩
    | some p =>
      obtain ⟨k, v⟩ := p
      simp only [evDraw] at h
      obtain ⟨hc, h⟩ := must_some h
      refine ⟨by simp, by simp, h, fun e he => ?_, by simp⟩
      have := List.all_eq_true.1 hc e he
      simp only [Bool.or_eq_true] at this
      rcases this with (h | h) | h
      · exact .inl (isEmpty_eq h)
      · exact .inr (.inl (Nat.eq_of_beq_eq_true h))
      · exact .inr (.inr h)
  | cons o l ih =>
    intro i log dead fr σ hl hk h
    have hlt : i < (ops.take K0).length := by have := congrArg List.length hl; rw [List.length_drop] at this; simp only [List.length_nil, List.length_cons] at this; omega
    have ho : ops[i]? = some o := by
      have := congrArg (·[0]?) hl
      have h2 : (ops.take K0)[i]? = some o := by simpa using this
      rw [List.getElem?_take_of_lt (by rw [List.length_take] at hlt; omega)] at h2
      exact h2
    have hrest : (ops.take K0).drop (i + 1) = l := by rw [← List.drop_drop, hl]; rfl
    have hcover : ∀ {L : List It} {t : It}, t.i = i → (∀ j, i + 1 ≤ j → j < (ops.take K0).length → ∃ t ∈ L, t.i = j) → ∀ j, i ≤ j → j < (ops.take K0).length → ∃ u ∈ t :: L, u.i = j := by
      intro L t ht h j h1 h2
      by_cases hj : j = i
      · exact ⟨t, List.mem_cons_self, ht.trans hj.symm⟩
      · obtain ⟨u, hu, huj⟩ := h j (by omega) h2
        exact ⟨u, List.mem_cons_of_mem _ hu, huj⟩
    simp only [evDraw] at h
    cases hdep : deadDep pre i dead
    · rw [hdep, cond_false] at h
      obtain ⟨hd, h⟩ := must_some h
      obtain ⟨fr', hs, h⟩ := guardV_some h
      rcases h with ⟨hw, h⟩ | ⟨hw, h⟩
      · -- it runs
        obtain ⟨p, hp, h⟩ := optK_some h
        obtain ⟨hmeet, h⟩ := must_some h
        obtain ⟨oc, δ, fp⟩ := p
        have hfr : evOp1 cx m nt call o fr σ = some (oc, δ, fp) := by
          rw [← hp]
          unfold evOp1
          exact (evOp_fr fun x _ => opd_same fun t _ => hs t).symm
        cases oc with
        | val v =>
          simp only at h hmeet
          obtain ⟨L, h1, h2, h3, h4, h5, h6, h7, h8⟩ := ih (i + 1) _ dead _ _ hrest (fun k v hd => Nat.lt_succ_of_lt (hk k v hd)) h
          let t : It := ⟨i, o, .val v δ fp⟩
          have hlog : logOf t = ⟨i, δ.map (·.1) ++ fp, δ.map (·.1)⟩ := rfl
          have hsF : sameFr (t.nextF fr) (putF fr' o.dst v) := fun s => by
            rw [getA_putF, nextF_get, show t.wf = o.dst.map fun d => (d, v) from rfl]
            cases o.dst with
            | none => simp [hs s]
            | some d => simp [hs s]
          refine ⟨t :: L, ?_, hcover rfl h2, ?_, ?_, ?_, ⟨⟨hw, hfr⟩, h6.same (fun s => (hsF s).symm) (fun _ => rfl)⟩, ?_, by rw [List.length_cons]; omega⟩
          · intro u hu
            rcases List.mem_cons.1 hu with rfl | hu
            · exact ⟨⟨Nat.le_refl _, hlt⟩, ho⟩
            · exact ⟨by have := (h1 u hu).1; omega, (h1 u hu).2⟩
          · refine List.pairwise_cons.2 ⟨fun u hu => ⟨by have := (h1 u hu).1; show i < u.i; omega, ?_⟩, h3⟩
            exact h4 _ List.mem_cons_self u hu
          · intro e he u hu
            rcases List.mem_cons.1 hu with rfl | hu
            · exact List.all_eq_true.1 hmeet e he
            · exact h4 e (List.mem_cons_of_mem _ he) u hu
          · intro u hu
            rcases List.mem_cons.1 hu with rfl | hu
            · exact .inr hd
            · exact h5 u hu
          · have hws : t.ws = [] ↔ δ.map (·.1) = [] := by show δ = [] ↔ _; simp
            cases dead with
            | some q =>
              obtain ⟨k, u⟩ := q
              obtain ⟨g1, g2, g3, g4, g5⟩ := h7
              refine ⟨fun x hx => ?_, fun x hx hd => ?_, g3, fun e he => g4 e (List.mem_cons_of_mem _ he), fun x hx => ?_⟩
              · rcases List.mem_cons.1 hx with rfl | hx
                · exact fun h => h
                · exact g1 x hx
              · rcases List.mem_cons.1 hx with rfl | hx
                · cases hd
                · exact g2 x hx hd
              · rcases List.mem_cons.1 hx with rfl | hx
                · have := g4 _ List.mem_cons_self
                  rw [hws]; exact this
                · exact g5 x hx
            | none =>
              rcases h7 with ⟨g1, g2, frE, g3, g4⟩ | ⟨t₀, g1, v₀, δ₀, fp₀, g2, g3, g4, g5, g6, g7⟩
              · refine .inl ⟨fun x hx => ?_, fun x hx => ?_, frE, (endF_same hsF).trans g3, g4⟩
                · rcases List.mem_cons.1 hx with rfl | hx
                  · exact fun h => h
                  · exact g1 x hx
                · rcases List.mem_cons.1 hx with rfl | hx
                  · intro h; cases h
                  · exact g2 x hx
              · refine .inr ⟨t₀, List.mem_cons_of_mem _ g1, v₀, δ₀, fp₀, g2, fun x hx hp => ?_, fun x hx hd => ?_, g5, fun e he => g6 e (List.mem_cons_of_mem _ he), fun x hx => ?_⟩
                · rcases List.mem_cons.1 hx with rfl | hx
                  · exact hp.elim
                  · exact g3 x hx hp
                · rcases List.mem_cons.1 hx with rfl | hx
                  · cases hd
                  · exact g4 x hx hd
                · rcases List.mem_cons.1 hx with rfl | hx
                  · have := g6 _ List.mem_cons_self
                    rw [hws]; exact this
                  · exact g7 x hx
        | pan v =>
          cases dead with
          | some q => cases h
          | none =>
            simp only at h hmeet
            obtain ⟨L, h1, h2, h3, h4, h5, h6, h7, h8⟩ := ih (i + 1) _ (some (i, v)) _ _ hrest (fun k v hd => by cases hd; omega) h
            let t : It := ⟨i, o, .pan v δ fp⟩
            obtain ⟨g1, g2, g3, g4, g5⟩ := h7
            refine ⟨t :: L, ?_, hcover rfl h2, ?_, ?_, ?_, ⟨⟨hw, hfr⟩, h6.same (fun s => (hs s).symm) (fun _ => rfl)⟩, ?_, by rw [List.length_cons]; omega⟩
            · intro u hu
              rcases List.mem_cons.1 hu with rfl | hu
              · exact ⟨⟨Nat.le_refl _, hlt⟩, ho⟩
              · exact ⟨by have := (h1 u hu).1; omega, (h1 u hu).2⟩
            · refine List.pairwise_cons.2 ⟨fun u hu => ⟨by have := (h1 u hu).1; show i < u.i; omega, ?_⟩, h3⟩
              exact h4 _ List.mem_cons_self u hu
            · intro e he u hu
              rcases List.mem_cons.1 hu with rfl | hu
              · exact List.all_eq_true.1 hmeet e he
              · exact h4 e (List.mem_cons_of_mem _ he) u hu
            · intro u hu
              rcases List.mem_cons.1 hu with rfl | hu
              · exact .inr hd
              · exact h5 u hu
            · refine .inr ⟨t, List.mem_cons_self, v, δ, fp, rfl, fun x hx hp => ?_, fun x hx hd => ?_, g3, fun e he => g4 e (List.mem_cons_of_mem _ he), fun x hx => ?_⟩
              · rcases List.mem_cons.1 hx with rfl | hx
                · rfl
                · exact (g1 x hx hp).elim
              · rcases List.mem_cons.1 hx with rfl | hx
                · cases hd
                · exact g2 x hx hd
              · rcases List.mem_cons.1 hx with rfl | hx
                · exact .inr (.inl rfl)
                · exact g5 x hx
      · -- it is not wanted
        obtain ⟨L, h1, h2, h3, h4, h5, h6, h7, h8⟩ := ih (i + 1) _ dead _ _ hrest (fun k v hd => Nat.lt_succ_of_lt (hk k v hd)) h
        let t : It := ⟨i, o, .off⟩
        have hsF : sameFr (t.nextF fr) (putF fr' o.dst undefV) := fun s => by
          rw [getA_putF, nextF_get, show t.wf = o.dst.map fun d => (d, undefV) from rfl]
          cases o.dst with
          | none => simp [hs s]
          | some d => simp [hs s]
        refine ⟨t :: L, ?_, hcover rfl h2, ?_, ?_, ?_, ⟨hw, h6.same (fun s => (hsF s).symm) (fun _ => rfl)⟩, ?_, by rw [List.length_cons]; omega⟩
        · intro u hu
          rcases List.mem_cons.1 hu with rfl | hu
          · exact ⟨⟨Nat.le_refl _, hlt⟩, ho⟩
          · exact ⟨by have := (h1 u hu).1; omega, (h1 u hu).2⟩
        · exact List.pairwise_cons.2 ⟨fun u hu => ⟨by have := (h1 u hu).1; show i < u.i; omega, meet_none'⟩, h3⟩
        · intro e he u hu
          rcases List.mem_cons.1 hu with rfl | hu
          · exact meet_none
          · exact h4 e he u hu
        · intro u hu
          rcases List.mem_cons.1 hu with rfl | hu
          · exact .inr hd
          · exact h5 u hu
        · cases dead with
          | some q =>
            obtain ⟨k, u⟩ := q
            obtain ⟨g1, g2, g3, g4, g5⟩ := h7
            refine ⟨fun x hx => ?_, fun x hx hd => ?_, g3, g4, fun x hx => ?_⟩
            · rcases List.mem_cons.1 hx with rfl | hx
              · exact fun h => h
              · exact g1 x hx
            · rcases List.mem_cons.1 hx with rfl | hx
              · cases hd
              · exact g2 x hx hd
            · rcases List.mem_cons.1 hx with rfl | hx
              · exact .inl rfl
              · exact g5 x hx
          | none =>
            rcases h7 with ⟨g1, g2, frE, g3, g4⟩ | ⟨t₀, g1, v₀, δ₀, fp₀, g2, g3, g4, g5, g6, g7⟩
            · refine .inl ⟨fun x hx => ?_, fun x hx => ?_, frE, (endF_same hsF).trans g3, g4⟩
              · rcases List.mem_cons.1 hx with rfl | hx
                · exact fun h => h
                · exact g1 x hx
              · rcases List.mem_cons.1 hx with rfl | hx
                · intro h; cases h
                · exact g2 x hx
            · refine .inr ⟨t₀, List.mem_cons_of_mem _ g1, v₀, δ₀, fp₀, g2, fun x hx hp => ?_, fun x hx hd => ?_, g5, g6, fun x hx => ?_⟩
              · rcases List.mem_cons.1 hx with rfl | hx
                · exact hp.elim
                · exact g3 x hx hp
              · rcases List.mem_cons.1 hx with rfl | hx
                · cases hd
                · exact g4 x hx hd
              · rcases List.mem_cons.1 hx with rfl | hx
                · exact .inl rfl
                · exact g7 x hx
    · -- it waits for the one that panicked
      rw [hdep, cond_true] at h
      obtain ⟨L, h1, h2, h3, h4, h5, h6, h7, h8⟩ := ih (i + 1) _ dead _ _ hrest (fun k v hd => Nat.lt_succ_of_lt (hk k v hd)) h
      let t : It := ⟨i, o, .dep⟩
      refine ⟨t :: L, ?_, hcover rfl h2, ?_, ?_, ?_, ⟨trivial, h6⟩, ?_, by rw [List.length_cons]; omega⟩
      · intro u hu
        rcases List.mem_cons.1 hu with rfl | hu
        · exact ⟨⟨Nat.le_refl _, hlt⟩, ho⟩
        · exact ⟨by have := (h1 u hu).1; omega, (h1 u hu).2⟩
      · exact List.pairwise_cons.2 ⟨fun u hu => ⟨by have := (h1 u hu).1; show i < u.i; omega, meet_none'⟩, h3⟩
      · intro e he u hu
        rcases List.mem_cons.1 hu with rfl | hu
        · exact meet_none
        · exact h4 e he u hu
      · intro u hu
        rcases List.mem_cons.1 hu with rfl | hu
        · exact .inl rfl
        · exact h5 u hu
      · cases dead with
        | some q =>
          obtain ⟨k, u⟩ := q
          obtain ⟨g1, g2, g3, g4, g5⟩ := h7
          refine ⟨fun x hx => ?_, fun x hx hd => ?_, g3, g4, fun x hx => ?_⟩
          · rcases List.mem_cons.1 hx with rfl | hx
            · exact fun h => h
            · exact g1 x hx
          · rcases List.mem_cons.1 hx with rfl | hx
            · exact hdep
            · exact g2 x hx hd
          · rcases List.mem_cons.1 hx with rfl | hx
            · exact .inl rfl
            · exact g5 x hx
        | none => cases hdep

end
end Go.Vai
end

section
namespace Go.Vai

section
variable {R : Type} {cx : Cx} {m nt : Nat} {call : Nat → List V → St → Option (Out × St)} {ds : List Deferred} {w₀ : World} {σ₀ : St} {μ₀ : Mu}

theorem opsOk_spec {ops : List Oper} {pre : List Nat} : ∀ {l : List Oper} {j : Nat}, opsOk ops pre j l = true → ∀ (i : Nat) o, l[i]? = some o →
    readsOk pre (looks ops o) (j + i) 0 ops = true ∧ edgesOk (j + i) o = true
  | [], _, _, i, o, h => by simp at h
  | x :: l, j, h, i, o, ho => by
    simp only [opsOk, Bool.and_eq_true] at h
    cases i with
    | zero => simp at ho; subst ho; exact h.1
    | succ i =>
      have := opsOk_spec h.2 i o (by simpa using ho)
      rwa [show j + 1 + i = j + (i + 1) by omega] at this

theorem readsOk_spec {pre ls : List Nat} {j : Nat} : ∀ {l : List Oper} {k : Nat}, readsOk pre ls j k l = true → ∀ (i : Nat) o t, l[i]? = some o → o.dst = some t → t ∈ ls → (k + i < j ∧ preHas pre j (k + i) = true) ∨ (j < k + i ∧ preHas pre (k + i) j = true)
  | [], _, _, i, o, t, h, _, _ => by simp at h
  | x :: l, k, h, i, o, t, ho, hd, ht => by
    simp only [readsOk, Bool.and_eq_true] at h
    cases i with
    | zero =>
      simp at ho; subst ho
      have := h.1
      rw [hd] at this
      simp only [Bool.or_eq_true, Bool.not_eq_true', Bool.and_eq_true] at this
      rcases this with (h | ⟨h1, h2⟩) | ⟨h1, h2⟩
      · simp [ht] at h
      · exact .inl ⟨Nat.le_of_ble_eq_true h1, h2⟩
      · exact .inr ⟨Nat.le_of_ble_eq_true h1, h2⟩
    | succ i =>
      have := readsOk_spec h.2 i o t (by simpa using ho) hd ht
      rwa [show k + 1 + i = k + (i + 1) by omega] at this

theorem dsts_mem : ∀ {l : List Oper} {i : Nat} {o : Oper} {t : Nat}, l[i]? = some o → o.dst = some t → t ∈ dsts l
  | [], _, _, _, h, _ => by simp at h
  | x :: l, i, o, t, h, hd => by
    cases i with
    | zero => simp at h; subst h; simp [dsts, hd]
    | succ i => exact List.mem_append_right _ (dsts_mem (by simpa using h) hd)

theorem dsts_nodup : ∀ {l : List Oper} {i j : Nat} {o o' : Oper} {t : Nat}, (dsts l).Nodup → l[i]? = some o → l[j]? = some o' → o.dst = some t → o'.dst = some t → i = j
  | [], _, _, _, _, _, _, h, _, _, _ => by simp at h
  | x :: l, i, j, o, o', t, hn, h, h', hd, hd' => by
    simp only [dsts, List.nodup_append] at hn
    cases i with
    | zero =>
      cases j with
      | zero => rfl
      | succ j =>
        simp at h; subst h
        rw [hd] at hn
        exact (hn.2.2 t (by simp) t (dsts_mem (by simpa using h') hd') rfl).elim
    | succ i =>
      cases j with
      | zero =>
        simp at h'; subst h'
        rw [hd'] at hn
        exact (hn.2.2 t (by simp) t (dsts_mem (by simpa using h) hd) rfl).elim
      | succ j => have : i = j := dsts_nodup hn.2.1 (by simpa using h) (by simpa using h') hd hd'; omega

theorem disj_spec {a b : List Nat} (h : disj a b = true) : ∀ i ∈ a, i ∉ b := fun i hi hb => by
  have := List.all_eq_true.1 h i hi
  simp [hb] at this

theorem wf_dst {t : It} {p : Nat × V} (h : t.wf = some p) : t.o.dst = some p.1 ∧ t.res ≠ .dep := by
  cases hr : t.res <;> simp only [It.wf, hr] at h
  · cases h
  · obtain ⟨d, h1, rfl⟩ := Option.map_eq_some_iff.1 h
    exact ⟨h1, by intro e; cases e⟩
  · obtain ⟨d, h1, rfl⟩ := Option.map_eq_some_iff.1 h
    exact ⟨h1, by intro e; cases e⟩
  · cases h

theorem rf_looks {ops : List Oper} {t : It} {s : Nat} (h : s ∈ t.rf ops) : s ∈ looks ops t.o := by
  unfold It.rf at h
  split at h
  · cases h
  · exact h

theorem evDraw_ok (hcall : CallOk cx call) (hn : noRoutines cx.P) (hmix : cx.P.follows .mixedOrders = true) {arr : Array Oper} {id : Nat} {K : Ex → Fr → St → Option R} {r : R} {Q : Exit → Act → World → Prop}
    (hQ : ∀ e fr σ, K e fr σ = some r → ∀ x a w μ, exits w σ μ e x → Now cx nt ds w₀ σ₀ μ₀ a w σ μ fr → Q x a w)
    (hdraw : ∀ w σ μ, Inv cx w σ μ → After cx w σ μ { w with drawn := w.drawn + 1 } σ μ)
    {fr : Fr} {σ : St} (h : must (drawOk arr.toList (pres arr.toList [])) (evDraw cx m nt call arr.toList (pres arr.toList []) 0 arr.toList [] none fr σ K) = some r)
    {a : Act} {w : World} {μ : Mu} (hnow : Now cx nt ds w₀ σ₀ μ₀ a w σ μ fr) : (Code.region id arr true).wp cx.P Q a w := by
  obtain ⟨hok, h⟩ := must_some h
  simp only [drawOk, Bool.and_eq_true] at hok
  obtain ⟨hnd, hops⟩ := hok
  have hnd := nodupB_spec hnd
  obtain ⟨L, h1, h2, h3, h4, h5, h6, h7, h8⟩ := evDraw_items (ops := arr.toList) (K0 := arr.toList.length) arr.toList 0 [] none fr σ (by rw [List.take_length, List.drop_zero]) (by simp) h
  simp only [List.take_length] at h2 h8
  have hlen : L.length = arr.size := by simpa using h8
  have hspec : ∀ t ∈ L, readsOk (pres arr.toList []) (looks arr.toList t.o) t.i 0 arr.toList = true ∧ edgesOk t.i t.o = true := fun t ht => by
    have := opsOk_spec hops t.i t.o (h1 t ht).2
    rwa [Nat.zero_add] at this
  have hpair : L.Pairwise (fun a b => a.i < b.i ∧ (preHas (pres arr.toList []) b.i a.i = true ∨ Comm arr.toList a b)) := by
    refine (List.Pairwise.and_mem.1 h3).imp fun {x y} ⟨hx, hy, hlt, hm⟩ => ⟨hlt, ?_⟩
    by_cases hp : preHas (pres arr.toList []) y.i x.i = true
    · exact .inl hp
    right
    have hsd : (∀ i ∈ x.ws.map (·.1), i ∉ y.rs ∧ i ∉ y.ws.map (·.1)) ∧ (∀ i ∈ y.ws.map (·.1), i ∉ x.rs ∧ i ∉ x.ws.map (·.1)) := by
      simp only [meetOk, logOf, Bool.or_eq_true, Bool.and_eq_true] at hm
      rcases hm with (⟨e1, e2⟩ | h) | ⟨d1, d2⟩
      · rw [isEmpty_eq e1, isEmpty_eq e2]
        exact ⟨by simp, by simp⟩
      · exact absurd h hp
      · refine ⟨fun i hi => ?_, fun i hi => ?_⟩
        · have := disj_spec d1 i hi
          simp only [List.mem_append, not_or] at this
          exact ⟨this.2, this.1⟩
        · have := disj_spec d2 i hi
          simp only [List.mem_append, not_or] at this
          exact ⟨this.2, this.1⟩
    refine ⟨fun p hpw hs => ?_, fun p hpw hs => ?_, fun p q hpw hqw e => ?_, hsd.1, hsd.2⟩
    · have := readsOk_spec (hspec y hy).1 x.i x.o p.1 (h1 x hx).2 (wf_dst hpw).1 (rf_looks hs)
      rw [Nat.zero_add] at this
      rcases this with h | h
      · exact hp h.2
      · omega
    · have := readsOk_spec (hspec x hx).1 y.i y.o p.1 (h1 y hy).2 (wf_dst hpw).1 (rf_looks hs)
      rw [Nat.zero_add] at this
      rcases this with h | h
      · omega
      · exact hp h.2
    · have := dsts_nodup hnd (h1 x hx).2 (h1 y hy).2 (wf_dst hpw).1 (e ▸ (wf_dst hqw).1)
      omega
  have hedge : ∀ (j : Nat) o, arr.toList[j]? = some o → edgesOk j o = true := fun j o ho => by
    have := (opsOk_spec hops j o ho).2
    rwa [Nat.zero_add] at this
  have haf := hdraw w σ μ hnow.after.inv
  have hnow' : Now cx nt ds w₀ σ₀ μ₀ a { w with drawn := w.drawn + 1 } σ μ fr := ⟨hnow.after.trans haf, haf.frs hnow.after.inv hnow.fr, hnow.size, hnow.defers⟩
  have hlis0 : ∀ i, ¬ lis (Array.replicate arr.size false) i := fun i hi => by
    unfold lis at hi
    rw [Array.getD_eq_getD_getElem?] at hi
    by_cases hlt : i < arr.size
    · simp [hlt] at hi
    · simp [hlt] at hi
  have run : ∀ frE σE, sameFr (endF L fr) frE → sameSt (endS L σ) σE → (∀ t ∈ L, t.res = .dep → ∃ t' ∈ L, isPan t' ∧ preHas (pres arr.toList []) t.i t'.i = true) →
      (∀ t ∈ L, ∀ v δ fp, t.res = .pan v δ fp → K (.pan v) [] σE = some r ∧ ∀ t' ∈ L, t'.ws = [] ∨ t'.i = t.i ∨ preHas (pres arr.toList []) t.i t'.i = true) →
      ((∃ t ∈ L, isPan t) ∨ K .normal frE σE = some r) → (Code.region id arr true).wp cx.P Q a w := fun frE σE hF hS hdep hpan hend =>
    wp_region_any hmix (any_ok hcall hn hQ hedge arr.size L _ fr σ a _ μ hlen (by simp) (fun t ht => (h1 t ht).2)
      (fun i hi => ⟨fun h => (hlis0 i h).elim, fun h => by
        obtain ⟨t, ht, hti⟩ := h2 i (Nat.zero_le _) (by simpa using hi)
        exact (h t ht hti).elim⟩) hpair (fun j k hj => (hlis0 j hj).elim) h5 hdep hpan hend h6 hF hS hnow')
  rcases h7 with ⟨g1, g2, frE, g3, g4⟩ | ⟨t₀, g1, v, δ, fp, g2, g3, g4, g5, g6, g7⟩
  · exact run frE _ g3 (sameSt.refl _) (fun t ht hd => (g2 t ht hd).elim) (fun t ht v δ fp hp => (g1 t ht (by simp [isPan, hp])).elim) (.inr g4)
  · refine run _ _ (sameFr.refl _) (sameSt.refl _) (fun t ht hd => ⟨t₀, g1, by simp [isPan, g2], g4 t ht hd⟩) (fun t ht v' δ' fp' hp => ?_) (.inl ⟨t₀, g1, by simp [isPan, g2]⟩)
    have := g3 t ht (by simp [isPan, hp])
    subst this
    rw [g2] at hp; cases hp
    exact ⟨g5, g7⟩

end
end Go.Vai
end

section
namespace Go.Vai

section
variable {R : Type} {cx : Cx} {m nt : Nat} {call : Nat → List V → St → Option (Out × St)} {ds : List Deferred} {w₀ : World} {σ₀ : St} {μ₀ : Mu}

/-- The first operations of a region whose order is open; behind them all the others wait. -/
theorem any_part (hcall : CallOk cx call) (hn : noRoutines cx.P) {arr : Array Oper} {K : Ex → Fr → St → Option R} {r : R}
    {Q : Exit → Act → World → Prop} {frE : Fr} {σE : St} {k₀ T : Nat} (hk₀ : arr.size = k₀ + T)
    (hwait : ∀ listed : Array Bool, listed.size = arr.size → (∃ i, i < k₀ ∧ ¬ lis listed i) → (∀ j, k₀ ≤ j → ¬ lis listed j) → ∀ j, k₀ ≤ j → j ∉ Region.ready .any arr listed)
    (hfin : ∀ fr σ, K .normal fr σ = some r → ∀ listed : Array Bool, listed.size = arr.size → (∀ i, i < k₀ → lis listed i) → (∀ j, k₀ ≤ j → ¬ lis listed j) → ∀ a w μ, Now cx nt ds w₀ σ₀ μ₀ a w σ μ fr → wpAny cx.P .any arr Q T listed a w)
    (hQ : ∀ v fr σ, K (.pan v) fr σ = some r → ∀ x a w μ, exits w σ μ (.pan v) x → Now cx nt ds w₀ σ₀ μ₀ a w σ μ fr → Q x a w)
    (hedge : ∀ (j : Nat) o, arr.toList[j]? = some o → edgesOk j o = true) :
    ∀ (N : Nat) (L : List It) (listed : Array Bool) (fr : Fr) (σ : St) (a : Act) (w : World) (μ : Mu), L.length = N → listed.size = arr.size →
      (∀ t ∈ L, arr.toList[t.i]? = some t.o) → (∀ i, i < k₀ → (lis listed i ↔ ∀ t ∈ L, t.i ≠ i)) → (∀ t ∈ L, t.i < k₀) → (∀ j, k₀ ≤ j → ¬ lis listed j) →
      L.Pairwise (fun a b => a.i < b.i ∧ (preHas (pres arr.toList []) b.i a.i = true ∨ Comm arr.toList a b)) →
      (∀ j k, lis listed j → preHas (pres arr.toList []) j k = true → lis listed k) →
      (∀ t ∈ L, t.res = .dep ∨ dstOk nt t.o.dst = true) →
      (∀ t ∈ L, t.res = .dep → ∃ t' ∈ L, isPan t' ∧ preHas (pres arr.toList []) t.i t'.i = true) →
      (∀ t ∈ L, ∀ v δ fp, t.res = .pan v δ fp → K (.pan v) [] σE = some r ∧ ∀ t' ∈ L, t'.ws = [] ∨ t'.i = t.i ∨ preHas (pres arr.toList []) t.i t'.i = true) →
      ((∃ t ∈ L, isPan t) ∨ K .normal frE σE = some r) →
      Rem cx m nt call arr.toList L fr σ → sameFr (endF L fr) frE → sameSt (endS L σ) σE →
      Now cx nt ds w₀ σ₀ μ₀ a w σ μ fr → wpAny cx.P .any arr Q (N + T) listed a w := by
  intro N
  induction N with
  | zero =>
    intro L listed fr σ a w μ hN hsz hops hlis hbnd hun hpair hclosed hdst hdep hpan hend hrem hF hS hnow
    obtain rfl := List.eq_nil_of_length_eq_zero hN
    have hK : K .normal frE σE = some r := hend.resolve_left (by simp)
    have haf := hS.after hnow.after.inv
    rw [Nat.zero_add]
    exact hfin _ _ hK listed hsz (fun i hi => (hlis i hi).2 (by simp)) hun _ _ _ ⟨hnow.after.trans haf, (haf.frs hnow.after.inv hnow.fr).same hF, hnow.size, hnow.defers⟩
  | succ N ih =>
    intro L listed fr σ a w μ hN hsz hops hlis hbnd hun hpair hclosed hdst hdep hpan hend hrem hF hS hnow
    rw [show N + 1 + T = (N + T) + 1 by omega]
    refine ⟨fun hready => ?_, fun i hi => ?_⟩
    · -- something is always ready
      exfalso
      cases L with
      | nil => simp at hN
      | cons t L =>
        have ht := hops t List.mem_cons_self
        have hlt : t.i < arr.size := by have := (List.getElem?_eq_some_iff.1 ht).1; simpa using this
        have hlt0 : t.i < k₀ := hbnd t List.mem_cons_self
        have hnl : ¬ lis listed t.i := fun h => ((hlis t.i hlt0).1 h) t List.mem_cons_self rfl
        have : t.i ∈ Region.ready .any arr listed := by
          simp only [Region.ready, List.mem_filter, List.mem_range]
          refine ⟨hlt, ?_⟩
          have h1 : arr[t.i]? = some t.o := by simpa using ht
          have h2 : listed.getD t.i true = false := by
            have hi' : t.i < listed.size := by omega
            simp [lis, Array.getD_eq_getD_getElem?, hi'] at hnl ⊢
            exact hnl
          simp only [h1, h2, Bool.not_false, Bool.true_and, Option.map_some, Option.getD_some]
          rw [← Array.all_toList, List.all_eq_true]
          intro e he
          have he2 := List.all_eq_true.1 (hedge t.i t.o ht) e he
          cases hb : Region.binds .any e
          · rfl
          · rw [hb] at he2
            have hlt2 : e.on < t.i := by simpa using he2
            have : lis listed e.on := (hlis e.on (by omega)).2 fun u hu hui => by
              rcases List.mem_cons.1 hu with rfl | hu
              · omega
              · have := (List.pairwise_cons.1 hpair).1 u hu
                omega
            simpa [lis] using this
        rw [hready] at this
        cases this
    · -- one that is ready
      have hik : i < k₀ := Nat.lt_of_not_le fun hle => by
        cases L with
        | nil => simp at hN
        | cons t L =>
          have ht0 := hbnd t List.mem_cons_self
          exact hwait listed hsz ⟨t.i, ht0, fun h => ((hlis t.i ht0).1 h) t List.mem_cons_self rfl⟩ hun i hle hi
      simp only [Region.ready, List.mem_filter, List.mem_range, Bool.and_eq_true] at hi
      obtain ⟨hlt, hnl, haft⟩ := hi
      have hnl' : ¬ lis listed i := by
        have hi' : i < listed.size := by omega
        simp [lis, Array.getD_eq_getD_getElem?, hi'] at hnl ⊢
        exact hnl
      obtain ⟨b, hb, hbi⟩ : ∃ b ∈ L, b.i = i := Classical.byContradiction fun hne => hnl' ((hlis i hik).2 fun t ht he => hne ⟨t, ht, he⟩)
      subst hbi
      obtain ⟨A, B, rfl⟩ := List.append_of_mem hb
      have hbo := hops b hb
      have hbo' : arr[b.i]? = some b.o := by simpa using hbo
      simp only [hbo', Option.map_some, Option.getD_some] at haft
      have hbefore : ∀ k, preHas (pres arr.toList []) b.i k = true → lis listed k := by
        intro k hk
        obtain ⟨o, e, h1, h2, h3, h4⟩ := pres_spec arr.toList [] b.i k (Nat.zero_le _) hk
        rw [List.length_nil, Nat.sub_zero, hbo] at h1
        cases h1
        rw [← Array.all_toList, List.all_eq_true] at haft
        have he := haft e h2
        rw [h3] at he
        have hl : lis listed e.on := by simpa [lis] using he
        rcases h4 with rfl | h4
        · exact hl
        · exact hclosed _ _ hl h4
      have hunl : ∀ t ∈ A ++ b :: B, ¬ lis listed t.i := fun t ht h => by
        exact (hlis t.i (hbnd t ht)).1 h t ht rfl
      have hpair' := hpair
      rw [List.pairwise_append] at hpair'
      obtain ⟨hpA, hpB, hpAB⟩ := hpair'
      rw [List.pairwise_cons] at hpB
      have hcomm : ∀ x ∈ A, Comm arr.toList x b := fun x hx =>
        ((hpAB x hx b List.mem_cons_self).2).resolve_left fun h => hunl x (List.mem_append_left _ hx) (hbefore _ h)
      obtain ⟨hg, hrem', hF', hS'⟩ := hrem.pull hcomm
      have hsub : ∀ t ∈ A ++ B, t ∈ A ++ b :: B := fun t ht => by
        rcases List.mem_append.1 ht with h | h
        · exact List.mem_append_left _ h
        · exact List.mem_append_right _ (List.mem_cons_of_mem _ h)
      have hne : ∀ t ∈ A ++ B, t.i ≠ b.i := fun t ht => by
        rcases List.mem_append.1 ht with h | h
        · have := (hpAB t h b List.mem_cons_self).1; omega
        · have := (hpB.1 t h).1; omega
      have hsz' : b.i < listed.size := by omega
      -- the rest, once this one is done
      have rest : ¬ isPan b → ∀ (a' : Act) (w' : World) (μ' : Mu), Now cx nt ds w₀ σ₀ μ₀ a' w' (b.nextS σ) μ' (b.nextF fr) → wpAny cx.P .any arr Q (N + T) (listed.setIfInBounds b.i true) a' w' := by
        intro hnp a' w' μ' hnow'
        refine ih (A ++ B) _ _ _ a' w' μ' ?_ (by simpa using hsz) (fun t ht => hops t (hsub t ht)) ?_ (fun t ht => hbnd t (hsub t ht)) (fun j hj => by rw [lis_set hsz']; rintro (rfl | h); exact absurd hik (by omega); exact hun j hj h) ?_ ?_ (fun t ht => hdst t (hsub t ht)) ?_ ?_ ?_ hrem' (fun s => (hF s).trans (hF' s).symm) (fun s => (hS s).trans (hS' s).symm) hnow'
        · simp at hN ⊢; omega
        · intro j hj
          rw [lis_set hsz', hlis j hj]
          constructor
          · rintro (rfl | h) t ht
            · exact hne t ht
            · exact h t (hsub t ht)
          · intro h
            by_cases hjb : j = b.i
            · exact .inl hjb
            · refine .inr fun t ht => ?_
              rcases List.mem_append.1 ht with h' | h'
              · exact h t (List.mem_append_left _ h')
              · rcases List.mem_cons.1 h' with rfl | h'
                · exact fun e => hjb e.symm
                · exact h t (List.mem_append_right _ h')
        · rw [List.pairwise_append]
          exact ⟨hpA, hpB.2, fun x hx y hy => hpAB x hx y (List.mem_cons_of_mem _ hy)⟩
        · intro j k hj hk
          rw [lis_set hsz'] at hj ⊢
          rcases hj with rfl | hj
          · exact .inr (hbefore k hk)
          · exact .inr (hclosed j k hj hk)
        · intro t ht htd
          obtain ⟨t', ht', hp, hpre⟩ := hdep t (hsub t ht) htd
          refine ⟨t', ?_, hp, hpre⟩
          rcases List.mem_append.1 ht' with h' | h'
          · exact List.mem_append_left _ h'
          · rcases List.mem_cons.1 h' with rfl | h'
            · exact (hnp hp).elim
            · exact List.mem_append_right _ h'
        · intro t ht v δ fp htp
          obtain ⟨h1, h2⟩ := hpan t (hsub t ht) v δ fp htp
          exact ⟨h1, fun t' ht' => h2 t' (hsub t' ht')⟩
        · refine hend.imp (fun ⟨t, ht, hp⟩ => ⟨t, ?_, hp⟩) id
          rcases List.mem_append.1 ht with h' | h'
          · exact List.mem_append_left _ h'
          · rcases List.mem_cons.1 h' with rfl | h'
            · exact (hnp hp).elim
            · exact List.mem_append_right _ h'
      unfold wpOp
      simp only [hbo']
      have hd := hdst b hb
      cases hres : b.res with
      | dep =>
        obtain ⟨t', ht', _, hpre⟩ := hdep b hb hres
        exact (hunl t' ht' (hbefore _ hpre)).elim
      | off =>
        have hd := hd.resolve_left (by rw [hres]; intro h; cases h)
        simp only [Good, hres] at hg
        rw [wants_ok rfl hnow.fr hg]
        simp only [Bool.false_eq_true, if_false]
        have e1 : b.nextF fr = putF fr b.o.dst undefV := by simp only [It.nextF, It.wf, hres, putF]; cases b.o.dst <;> rfl
        have e2 : b.nextS σ = σ := by simp only [It.nextS, It.ws, hres]; rfl
        refine rest (by simp [isPan, hres]) _ _ μ ?_
        rw [e1, e2]
        exact ⟨hnow.after, FR.put hnow.fr hd hnow.size undef_ok, by rw [put_size]; exact hnow.size, by rw [put_defers']; exact hnow.defers⟩
      | val v δ fp =>
        have hd := hd.resolve_left (by rw [hres]; intro h; cases h)
        simp only [Good, hres] at hg
        obtain ⟨hw, hev⟩ := hg
        rw [wants_ok rfl hnow.fr hw, if_pos rfl]
        left
        obtain ⟨oc, δ', fp', hK, hok⟩ := evOp_ok hcall hn hnow.after.inv hnow.fr hev
        cases hK
        refine hok _ _ ?_
        intro v' w' μ' haf hv
        have e1 : b.nextF fr = putF fr b.o.dst v := by simp only [It.nextF, It.wf, hres, putF]; cases b.o.dst <;> rfl
        have e2 : b.nextS σ = applyDe σ δ := by simp only [It.nextS, It.ws, hres]
        refine rest (by simp [isPan, hres]) _ _ μ' ?_
        rw [e1, e2]
        exact ⟨hnow.after.trans haf, FR.put (haf.frs hnow.after.inv hnow.fr) hd hnow.size hv, by rw [put_size]; exact hnow.size, by rw [put_defers']; exact hnow.defers⟩
      | pan v δ fp =>
        simp only [Good, hres] at hg
        obtain ⟨hw, hev⟩ := hg
        rw [wants_ok rfl hnow.fr hw, if_pos rfl]
        left
        obtain ⟨oc, δ', fp', hK, hok⟩ := evOp_ok hcall hn hnow.after.inv hnow.fr hev
        cases hK
        refine hok _ _ ?_
        intro x w' μ' haf hv
        obtain ⟨hKp, hws⟩ := hpan b hb v δ fp hres
        have e2 : b.nextS σ = applyDe σ δ := by simp only [It.nextS, It.ws, hres]
        have hquiet : ∀ (L : List It) (σ : St), (∀ t ∈ L, t.ws = []) → endS L σ = σ := by
          intro L
          induction L with
          | nil => intro σ _; rfl
          | cons t L ihL =>
            intro σ h
            simp only [endS]
            rw [ihL _ fun u hu => h u (List.mem_cons_of_mem _ hu)]
            simp only [It.nextS, h t List.mem_cons_self, applyDe]
        have hall : ∀ t ∈ A ++ B, t.ws = [] := fun t ht => by
          rcases hws t (hsub t ht) with h | h | h
          · exact h
          · exact (hne t ht h).elim
          · exact (hunl t (hsub t ht) (hbefore _ h)).elim
        have hsame : sameSt (applyDe σ δ) σE := by
          intro s
          rw [hS s, ← hS' s, hquiet _ _ hall, e2]
        have haf2 := hsame.after haf.inv
        exact hQ _ _ _ hKp _ _ _ μ' ⟨x, rfl, haf2.rv haf.inv hv⟩ ⟨(hnow.after.trans haf).trans haf2, FR.nil, hnow.size, hnow.defers⟩


theorem draw_part (hcall : CallOk cx call) (hn : noRoutines cx.P) (hmix : cx.P.follows .mixedOrders = true) {arr : Array Oper} {id : Nat} {K : Ex → Fr → St → Option R} {r : R} {Q : Exit → Act → World → Prop}
    (hQ : ∀ v fr σ, K (.pan v) fr σ = some r → ∀ x a w μ, exits w σ μ (.pan v) x → Now cx nt ds w₀ σ₀ μ₀ a w σ μ fr → Q x a w) {k₀ T : Nat} (hk₀ : arr.size = k₀ + T)
    (hwait : ∀ listed : Array Bool, listed.size = arr.size → (∃ i, i < k₀ ∧ ¬ lis listed i) → (∀ j, k₀ ≤ j → ¬ lis listed j) → ∀ j, k₀ ≤ j → j ∉ Region.ready .any arr listed)
    (hfin : ∀ fr σ, K .normal fr σ = some r → ∀ listed : Array Bool, listed.size = arr.size → (∀ i, i < k₀ → lis listed i) → (∀ j, k₀ ≤ j → ¬ lis listed j) → ∀ a w μ, Now cx nt ds w₀ σ₀ μ₀ a w σ μ fr → wpAny cx.P .any arr Q T listed a w)
    (hdraw : ∀ w σ μ, Inv cx w σ μ → After cx w σ μ { w with drawn := w.drawn + 1 } σ μ)
    {fr : Fr} {σ : St} (h : must (drawOk arr.toList (pres arr.toList [])) (evDraw cx m nt call arr.toList (pres arr.toList []) 0 (arr.toList.take k₀) [] none fr σ K) = some r)
    {a : Act} {w : World} {μ : Mu} (hnow : Now cx nt ds w₀ σ₀ μ₀ a w σ μ fr) : (Code.region id arr true).wp cx.P Q a w := by
  obtain ⟨hok, h⟩ := must_some h
  simp only [drawOk, Bool.and_eq_true] at hok
  obtain ⟨hnd, hops⟩ := hok
  have hnd := nodupB_spec hnd
  obtain ⟨L, h1, h2, h3, h4, h5, h6, h7, h8⟩ := evDraw_items (ops := arr.toList) (K0 := k₀) (arr.toList.take k₀) 0 [] none fr σ (by rw [List.drop_zero]) (by simp) h
  have htk : (arr.toList.take k₀).length = k₀ := by rw [List.length_take, Array.length_toList]; omega
  rw [htk] at h2 h8
  have hlen : L.length = k₀ := by omega
  have hspec : ∀ t ∈ L, readsOk (pres arr.toList []) (looks arr.toList t.o) t.i 0 arr.toList = true ∧ edgesOk t.i t.o = true := fun t ht => by
    have := opsOk_spec hops t.i t.o (h1 t ht).2
    rwa [Nat.zero_add] at this
  have hpair : L.Pairwise (fun a b => a.i < b.i ∧ (preHas (pres arr.toList []) b.i a.i = true ∨ Comm arr.toList a b)) := by
    refine (List.Pairwise.and_mem.1 h3).imp fun {x y} ⟨hx, hy, hlt, hm⟩ => ⟨hlt, ?_⟩
    by_cases hp : preHas (pres arr.toList []) y.i x.i = true
    · exact .inl hp
    right
    have hsd : (∀ i ∈ x.ws.map (·.1), i ∉ y.rs ∧ i ∉ y.ws.map (·.1)) ∧ (∀ i ∈ y.ws.map (·.1), i ∉ x.rs ∧ i ∉ x.ws.map (·.1)) := by
      simp only [meetOk, logOf, Bool.or_eq_true, Bool.and_eq_true] at hm
      rcases hm with (⟨e1, e2⟩ | h) | ⟨d1, d2⟩
      · rw [isEmpty_eq e1, isEmpty_eq e2]
        exact ⟨by simp, by simp⟩
      · exact absurd h hp
      · refine ⟨fun i hi => ?_, fun i hi => ?_⟩
        · have := disj_spec d1 i hi
          simp only [List.mem_append, not_or] at this
          exact ⟨this.2, this.1⟩
        · have := disj_spec d2 i hi
          simp only [List.mem_append, not_or] at this
          exact ⟨this.2, this.1⟩
    refine ⟨fun p hpw hs => ?_, fun p hpw hs => ?_, fun p q hpw hqw e => ?_, hsd.1, hsd.2⟩
    · have := readsOk_spec (hspec y hy).1 x.i x.o p.1 (h1 x hx).2 (wf_dst hpw).1 (rf_looks hs)
      rw [Nat.zero_add] at this
      rcases this with h | h
      · exact hp h.2
      · omega
    · have := readsOk_spec (hspec x hx).1 y.i y.o p.1 (h1 y hy).2 (wf_dst hpw).1 (rf_looks hs)
      rw [Nat.zero_add] at this
      rcases this with h | h
      · omega
      · exact hp h.2
    · have := dsts_nodup hnd (h1 x hx).2 (h1 y hy).2 (wf_dst hpw).1 (e ▸ (wf_dst hqw).1)
      omega
  have hedge : ∀ (j : Nat) o, arr.toList[j]? = some o → edgesOk j o = true := fun j o ho => by
    have := (opsOk_spec hops j o ho).2
    rwa [Nat.zero_add] at this
  have haf := hdraw w σ μ hnow.after.inv
  have hnow' : Now cx nt ds w₀ σ₀ μ₀ a { w with drawn := w.drawn + 1 } σ μ fr := ⟨hnow.after.trans haf, haf.frs hnow.after.inv hnow.fr, hnow.size, hnow.defers⟩
  have hlis0 : ∀ i, ¬ lis (Array.replicate arr.size false) i := fun i hi => by
    unfold lis at hi
    rw [Array.getD_eq_getD_getElem?] at hi
    by_cases hlt : i < arr.size
    · simp [hlt] at hi
    · simp [hlt] at hi
  have run : ∀ frE σE, sameFr (endF L fr) frE → sameSt (endS L σ) σE → (∀ t ∈ L, t.res = .dep → ∃ t' ∈ L, isPan t' ∧ preHas (pres arr.toList []) t.i t'.i = true) →
      (∀ t ∈ L, ∀ v δ fp, t.res = .pan v δ fp → K (.pan v) [] σE = some r ∧ ∀ t' ∈ L, t'.ws = [] ∨ t'.i = t.i ∨ preHas (pres arr.toList []) t.i t'.i = true) →
      ((∃ t ∈ L, isPan t) ∨ K .normal frE σE = some r) → (Code.region id arr true).wp cx.P Q a w := fun frE σE hF hS hdep hpan hend =>
    wp_region_any hmix (by
      have key := any_part hcall hn hk₀ hwait hfin hQ hedge k₀ L (Array.replicate arr.size false) fr σ a { w with drawn := w.drawn + 1 } μ hlen (by simp) (fun t ht => (h1 t ht).2)
        (fun i hi => ⟨fun h => (hlis0 i h).elim, fun h => by
          obtain ⟨t, ht, hti⟩ := h2 i (Nat.zero_le _) hi
          exact (h t ht hti).elim⟩) (fun t ht => by have := (h1 t ht).1.2; rw [htk] at this; exact this) (fun j _ => hlis0 j) hpair (fun j k hj => (hlis0 j hj).elim) h5 hdep hpan hend h6 hF hS hnow'
      rw [← hk₀] at key
      exact key)
  rcases h7 with ⟨g1, g2, frE, g3, g4⟩ | ⟨t₀, g1, v, δ, fp, g2, g3, g4, g5, g6, g7⟩
  · exact run frE _ g3 (sameSt.refl _) (fun t ht hd => (g2 t ht hd).elim) (fun t ht v δ fp hp => (g1 t ht (by simp [isPan, hp])).elim) (.inr g4)
  · refine run _ _ (sameFr.refl _) (sameSt.refl _) (fun t ht hd => ⟨t₀, g1, by simp [isPan, g2], g4 t ht hd⟩) (fun t ht v' δ' fp' hp => ?_) (.inl ⟨t₀, g1, by simp [isPan, g2]⟩)
    have := g3 t ht (by simp [isPan, hp])
    subst this
    rw [g2] at hp; cases hp
    exact ⟨g5, g7⟩


end
end Go.Vai
end

section
namespace Go.Vai

section
variable {R : Type} {cx : Cx} {m nt : Nat} {call : Nat → List V → St → Option (Out × St)} {ds : List Deferred} {w₀ : World} {σ₀ : St} {μ₀ : Mu}

theorem ready_mem {arr : Array Oper} {listed : Array Bool} (hsz : listed.size = arr.size) {i : Nat} (h : i ∈ Region.ready .any arr listed) :
    i < arr.size ∧ ¬ lis listed i ∧ ∀ o, arr[i]? = some o → ∀ e ∈ o.after.toList, Region.binds .any e = true → lis listed e.on := by
  simp only [Region.ready, List.mem_filter, List.mem_range, Bool.and_eq_true] at h
  obtain ⟨hlt, hnl, haft⟩ := h
  refine ⟨hlt, ?_, fun o ho e he hb => ?_⟩
  · have hi' : i < listed.size := by omega
    simp [lis, Array.getD_eq_getD_getElem?, hi'] at hnl ⊢
    exact hnl
  · simp only [ho, Option.map_some, Option.getD_some] at haft
    rw [← Array.all_toList, List.all_eq_true] at haft
    have := haft e he
    rw [hb] at this
    simpa [lis] using this

theorem ready_least {arr : Array Oper} {listed : Array Bool} (hsz : listed.size = arr.size) (hedge : ∀ (j : Nat) o, arr.toList[j]? = some o → edgesOk j o = true) {j : Nat} (hj : j < arr.size) (hn : ¬ lis listed j) (hall : ∀ i, i < j → lis listed i) :
    j ∈ Region.ready .any arr listed := by
  obtain ⟨o, ho⟩ : ∃ o, arr[j]? = some o := ⟨_, Array.getElem?_eq_getElem hj⟩
  simp only [Region.ready, List.mem_filter, List.mem_range]
  refine ⟨hj, ?_⟩
  have h2 : listed.getD j true = false := by
    have hi' : j < listed.size := by omega
    simp [lis, Array.getD_eq_getD_getElem?, hi'] at hn ⊢
    exact hn
  simp only [ho, h2, Bool.not_false, Bool.true_and, Option.map_some, Option.getD_some]
  rw [← Array.all_toList, List.all_eq_true]
  intro e he
  have he2 := List.all_eq_true.1 (hedge j o (by simpa using ho)) e he
  cases hb : Region.binds .any e
  · rfl
  · rw [hb] at he2
    have hlt2 : e.on < j := by simpa using he2
    simpa [lis] using hall _ hlt2

theorem any_step {P : Program} {arr : Array Oper} {Q : Exit → Act → World → Prop} {n : Nat} {listed : Array Bool} {a : Act} {w : World} (hne : ∃ i, i ∈ Region.ready .any arr listed)
    (h : ∀ i ∈ Region.ready .any arr listed, wpOp P arr Q i (wpAny P .any arr Q n (listed.setIfInBounds i true)) a w) : wpAny P .any arr Q (n + 1) listed a w :=
  ⟨fun e => (by obtain ⟨i, hi⟩ := hne; rw [e] at hi; cases hi), h⟩

theorem any_done {P : Program} {arr : Array Oper} {Q : Exit → Act → World → Prop} {listed : Array Bool} (hsz : listed.size = arr.size) {a : Act} {w : World} (hall : ∀ i, i < arr.size → lis listed i) (h : Q .normal a w) : wpAny P .any arr Q 0 listed a w := by
  refine ⟨?_, h⟩
  rw [List.eq_nil_iff_forall_not_mem]
  intro i hi
  obtain ⟨h1, h2, _⟩ := ready_mem hsz hi
  exact h2 (hall i h1)

theorem wpOp_value {P : Program} {arr : Array Oper} {Q : Exit → Act → World → Prop} {i : Nat} {o : Oper} {K : Act → World → Prop} {a : Act} {w w' : World} {v : Value} (ho : arr[i]? = some o) (hg : o.guard = none)
    (hr : (execOp a.eval o).run P w = .ok (.value v) w') (h : K (a.put o.dst v) w') : wpOp P arr Q i K a w := by
  unfold wpOp
  simp only [ho]
  rw [if_pos (by simp [Region.wanted, hg])]
  left
  unfold Oper.wp
  rw [hr, Oper.upon_value]
  exact h

theorem wpOp_skip {P : Program} {arr : Array Oper} {Q : Exit → Act → World → Prop} {i : Nat} {o : Oper} {K : Act → World → Prop} {a : Act} {w w' : World} (ho : arr[i]? = some o) (hg : o.guard = none)
    (hr : (execOp a.eval o).run P w = .ok .skip w') (h : K (a.put o.dst undef) w') : wpOp P arr Q i K a w := by
  unfold wpOp
  simp only [ho]
  rw [if_pos (by simp [Region.wanted, hg])]
  left
  unfold Oper.wp
  rw [hr, Oper.upon_skip]
  exact h

/-- The three orders. -/
theorem tail_orders {P : Program} {arr : Array Oper} {Q : Exit → Act → World → Prop} {k : Nat} {o i s t : Oper} (hsize : arr.size = k + 4) (hdrop : arr.toList.drop k = [o, i, s, t])
    (hedge : ∀ (j : Nat) o, arr.toList[j]? = some o → edgesOk j o = true)
    (hi : ∃ e ∈ i.after.toList, Region.binds .any e = true ∧ e.on = k) (hs : ∃ e ∈ s.after.toList, Region.binds .any e = true ∧ e.on = k + 1) (ht : ∃ e ∈ t.after.toList, Region.binds .any e = true ∧ e.on = k)
    (hg : o.guard = none ∧ i.guard = none ∧ s.guard = none ∧ t.guard = none) (hsd : s.dst = none) (htd : t.dst = none)
    {listed : Array Bool} (hsz : listed.size = arr.size) (hl1 : ∀ j, j < k → lis listed j) (hl2 : ∀ j, k ≤ j → ¬ lis listed j) {a : Act} {w w1 w' w2 w'' : World} {v1 v2 : Value}
    (h1 : (execOp a.eval o).run P w = .ok (.value v1) w1) (hidx : ∀ w2, (execOp (a.put o.dst v1).eval i).run P w2 = .ok (.value v2) w2)
    (h3 : (execOp ((a.put o.dst v1).put i.dst v2).eval s).run P w1 = .ok .skip w') (h4 : (execOp ((a.put o.dst v1).put i.dst v2).eval t).run P w' = .ok .skip w'')
    (h5 : ∀ c : Act, c = a.put o.dst v1 ∨ c = (a.put o.dst v1).put i.dst v2 → (execOp c.eval t).run P w1 = .ok .skip w2) (h6 : (execOp ((a.put o.dst v1).put i.dst v2).eval s).run P w2 = .ok .skip w'')
    (hQ : Q .normal ((a.put o.dst v1).put i.dst v2) w'') : wpAny P .any arr Q 4 listed a w := by
  have g0 : arr[k]? = some o := by have := congrArg (·[0]?) hdrop; simpa using this
  have g1 : arr[k + 1]? = some i := by have := congrArg (·[1]?) hdrop; simpa using this
  have g2 : arr[k + 2]? = some s := by have := congrArg (·[2]?) hdrop; simpa using this
  have g3 : arr[k + 3]? = some t := by have := congrArg (·[3]?) hdrop; simpa using this
  have put0 : ∀ (c : Act) (x : Oper), x.dst = none → c.put x.dst undef = c := fun c x hx => by rw [hx]; rfl
  -- who is ready
  have rd : ∀ {listed : Array Bool}, listed.size = arr.size → ∀ {j}, j ∈ Region.ready .any arr listed → j < k + 4 ∧ ¬ lis listed j ∧ (j = k + 1 → lis listed k) ∧ (j = k + 2 → lis listed (k + 1)) ∧ (j = k + 3 → lis listed k) := by
    intro listed hsz j hj
    obtain ⟨q1, q2, q3⟩ := ready_mem hsz hj
    refine ⟨by omega, q2, ?_, ?_, ?_⟩
    · rintro rfl
      obtain ⟨e, he, hb, hon⟩ := hi
      exact hon ▸ q3 i g1 e he hb
    · rintro rfl
      obtain ⟨e, he, hb, hon⟩ := hs
      exact hon ▸ q3 s g2 e he hb
    · rintro rfl
      obtain ⟨e, he, hb, hon⟩ := ht
      exact hon ▸ q3 t g3 e he hb
  have hk : k < listed.size := by omega
  refine any_step ⟨k, ready_least hsz hedge (by omega) (hl2 k (Nat.le_refl _)) hl1⟩ fun j hj => ?_
  obtain ⟨q1, q2, q3, q4, q5⟩ := rd hsz hj
  obtain rfl : j = k := by
    have : k ≤ j := Nat.le_of_not_lt fun h => q2 (hl1 j h)
    have a1 : j ≠ k + 1 := fun e => hl2 k (Nat.le_refl _) (q3 e)
    have a2 : j ≠ k + 2 := fun e => hl2 (k + 1) (by omega) (q4 e)
    have a3 : j ≠ k + 3 := fun e => hl2 k (Nat.le_refl _) (q5 e)
    omega
  refine wpOp_value g0 hg.1 h1 ?_
  clear q1 q2 q3 q4 q5 hj
  -- behind the append
  have m1 : ∀ x, lis (listed.setIfInBounds j true) x ↔ x = j ∨ lis listed x := fun x => lis_set hk
  have z1 : (listed.setIfInBounds j true).size = arr.size := by simpa using hsz
  have n1 : ∀ x, j < x → ¬ lis (listed.setIfInBounds j true) x := fun x hx h => by
    rcases (m1 x).1 h with h | h
    · omega
    · exact hl2 x (by omega) h
  have y1 : ∀ x, x ≤ j → lis (listed.setIfInBounds j true) x := fun x hx => (m1 x).2 (by
    rcases Nat.lt_or_eq_of_le hx with h | h
    · exact .inr (hl1 x h)
    · exact .inl h)
  generalize listed.setIfInBounds j true = l1 at m1 z1 n1 y1 ⊢
  refine any_step ⟨j + 1, ready_least z1 hedge (by omega) (n1 _ (by omega)) fun x hx => y1 x (by omega)⟩ fun x hx => ?_
  obtain ⟨q1, q2, q3, q4, q5⟩ := rd z1 hx
  have hx13 : x = j + 1 ∨ x = j + 3 := by
    have : j < x := Nat.lt_of_not_le fun h => q2 (y1 x h)
    have a2 : x ≠ j + 2 := fun e => n1 (j + 1) (by omega) (q4 e)
    omega
  clear q1 q2 q3 q4 q5 hx
  have hsl : ∀ {l : Array Bool} {x : Nat}, l.size = arr.size → x < arr.size → (l.setIfInBounds x true).size = arr.size ∧ ∀ y, lis (l.setIfInBounds x true) y ↔ y = x ∨ lis l y := fun hz hx => ⟨by simpa using hz, fun y => lis_set (by omega)⟩
  rcases hx13 with rfl | rfl
  · -- the place is looked for next
    refine wpOp_value g1 hg.2.1 (hidx w1) ?_
    obtain ⟨z2, m2⟩ := hsl (x := j + 1) z1 (by omega)
    generalize l1.setIfInBounds (j + 1) true = l2 at z2 m2 ⊢
    have y2 : ∀ x, x ≤ j + 1 → lis l2 x := fun x hx => (m2 x).2 (by rcases Nat.lt_or_eq_of_le hx with h | h; exact .inr (y1 x (by omega)); exact .inl h)
    have n2 : ∀ x, j + 1 < x → ¬ lis l2 x := fun x hx h => by rcases (m2 x).1 h with h | h; omega; exact n1 x (by omega) h
    refine any_step ⟨j + 2, ready_least z2 hedge (by omega) (n2 _ (by omega)) fun x hx => y2 x (by omega)⟩ fun x hx => ?_
    obtain ⟨q1, q2, _⟩ := rd z2 hx
    have hx23 : x = j + 2 ∨ x = j + 3 := by
      have : j + 1 < x := Nat.lt_of_not_le fun h => q2 (y2 x h)
      omega
    obtain ⟨z3, m3⟩ := hsl (x := x) z2 (by omega)
    generalize l2.setIfInBounds x true = l3 at z3 m3 ⊢
    clear q1 q2 hx
    rcases hx23 with rfl | rfl
    · refine wpOp_skip g2 hg.2.2.1 h3 ?_
      rw [put0 _ s hsd]
      have y3 : ∀ x, x ≤ j + 2 → lis l3 x := fun x hx => (m3 x).2 (by rcases Nat.lt_or_eq_of_le hx with h | h; exact .inr (y2 x (by omega)); exact .inl h)
      refine any_step ⟨j + 3, ready_least z3 hedge (by omega) (fun h => by rcases (m3 _).1 h with h | h; omega; exact n2 _ (by omega) h) fun x hx => y3 x (by omega)⟩ fun x hx => ?_
      obtain ⟨q1, q2, _⟩ := rd z3 hx
      obtain rfl : x = j + 3 := by
        have : j + 2 < x := Nat.lt_of_not_le fun h => q2 (y3 x h)
        omega
      refine wpOp_skip g3 hg.2.2.2 h4 ?_
      rw [put0 _ t htd]
      obtain ⟨z4, m4⟩ := hsl (x := j + 3) z3 (by omega)
      exact any_done z4 (fun x hx => (m4 x).2 (by by_cases h : x = j + 3; exact .inl h; exact .inr (y3 x (by omega)))) hQ
    · refine wpOp_skip g3 hg.2.2.2 (h5 _ (.inr rfl)) ?_
      rw [put0 _ t htd]
      refine any_step ⟨j + 2, ready_least z3 hedge (by omega) (fun h => by rcases (m3 _).1 h with h | h; omega; exact n2 _ (by omega) h) fun x hx => (m3 x).2 (.inr (y2 x (by omega)))⟩ fun x hx => ?_
      obtain ⟨q1, q2, _⟩ := rd z3 hx
      obtain rfl : x = j + 2 := by
        have b1 : j + 1 < x := Nat.lt_of_not_le fun h => q2 ((m3 x).2 (.inr (y2 x h)))
        have b2 : x ≠ j + 3 := fun h => q2 ((m3 x).2 (.inl h))
        omega
      refine wpOp_skip g2 hg.2.2.1 h6 ?_
      rw [put0 _ s hsd]
      obtain ⟨z4, m4⟩ := hsl (x := j + 2) z3 (by omega)
      exact any_done z4 (fun x hx => (m4 x).2 (by by_cases h : x = j + 2; exact .inl h; exact .inr ((m3 x).2 (by by_cases h' : x = j + 3; exact .inl h'; exact .inr (y2 x (by omega)))))) hQ
  · -- the slice is stored next
    refine wpOp_skip g3 hg.2.2.2 (h5 _ (.inl rfl)) ?_
    rw [put0 _ t htd]
    obtain ⟨z2, m2⟩ := hsl (x := j + 3) z1 (by omega)
    generalize l1.setIfInBounds (j + 3) true = l2 at z2 m2 ⊢
    refine any_step ⟨j + 1, ready_least z2 hedge (by omega) (fun h => by rcases (m2 _).1 h with h | h; omega; exact n1 _ (by omega) h) fun x hx => (m2 x).2 (.inr (y1 x (by omega)))⟩ fun x hx => ?_
    obtain ⟨q1, q2, _, q4, _⟩ := rd z2 hx
    obtain rfl : x = j + 1 := by
      have b1 : j < x := Nat.lt_of_not_le fun h => q2 ((m2 x).2 (.inr (y1 x h)))
      have b2 : x ≠ j + 3 := fun h => q2 ((m2 x).2 (.inl h))
      have b3 : x ≠ j + 2 := fun e => by rcases (m2 _).1 (q4 e) with h | h; omega; exact n1 (j + 1) (by omega) h
      omega
    refine wpOp_value g1 hg.2.1 (hidx w2) ?_
    obtain ⟨z3, m3⟩ := hsl (x := j + 1) z2 (by omega)
    generalize l2.setIfInBounds (j + 1) true = l3 at z3 m3 ⊢
    refine any_step ⟨j + 2, ready_least z3 hedge (by omega) (fun h => by rcases (m3 _).1 h with h | h; omega; rcases (m2 _).1 h with h | h; omega; exact n1 _ (by omega) h) fun x hx => (m3 x).2 (by by_cases h : x = j + 1; exact .inl h; exact .inr ((m2 x).2 (.inr (y1 x (by omega)))))⟩ fun x hx => ?_
    obtain ⟨q1, q2, _⟩ := rd z3 hx
    obtain rfl : x = j + 2 := by
      have b1 : ¬ x ≤ j := fun h => q2 ((m3 x).2 (.inr ((m2 x).2 (.inr (y1 x h)))))
      have b2 : x ≠ j + 3 := fun h => q2 ((m3 x).2 (.inr ((m2 x).2 (.inl h))))
      have b3 : x ≠ j + 1 := fun h => q2 ((m3 x).2 (.inl h))
      omega
    refine wpOp_skip g2 hg.2.2.1 h6 ?_
    rw [put0 _ s hsd]
    obtain ⟨z4, m4⟩ := hsl (x := j + 2) z3 (by omega)
    exact any_done z4 (fun x hx => (m4 x).2 (by
      by_cases e2 : x = j + 2
      · exact .inl e2
      · refine .inr ((m3 x).2 ?_)
        by_cases e1 : x = j + 1
        · exact .inl e1
        · refine .inr ((m2 x).2 ?_)
          by_cases e3 : x = j + 3
          · exact .inl e3
          · exact .inr (y1 x (by omega)))) hQ

theorem setRow_comm (w : World) {b c : Nat} (h : b ≠ c) (x y : Array Value) : (w.setRow b x).setRow c y = (w.setRow c y).setRow b x := by
  unfold World.setRow
  congr 1
  apply Array.ext_getElem?
  intro k
  simp only [Array.getElem?_modify]
  by_cases hb : b = k
  · subst hb
    have : ¬ c = b := fun e => h e.symm
    simp [this]
  · simp [hb]

theorem tail_ok {arr : Array Oper} {Q : Exit → Act → World → Prop} {k : Nat} {fr : Fr} {σ : St} {K : Fr → St → Option R} {r : R} (htail : tailOk arr.toList k = true)
    (hedge : ∀ (j : Nat) o, arr.toList[j]? = some o → edgesOk j o = true) (h : evTail cx nt arr.toList k fr σ K = some r)
    {listed : Array Bool} (hsz : listed.size = arr.size) (hl1 : ∀ j, j < k → lis listed j) (hl2 : ∀ j, k ≤ j → ¬ lis listed j) {a : Act} {w : World} {μ : Mu} (hnow : Now cx nt ds w₀ σ₀ μ₀ a w σ μ fr)
    (hQ : ∀ fr' σ', K fr' σ' = some r → ∀ a w μ, Now cx nt ds w₀ σ₀ μ₀ a w σ' μ fr' → Q .normal a w) : wpAny cx.P .any arr Q 4 listed a w := by
  unfold evTail at h
  unfold tailOk at htail
  split at h
  case h_2 => cases h
  rename_i o i s t hdrop
  rw [hdrop] at htail
  simp only [Bool.and_eq_true, Option.isNone_iff_eq_none] at htail
  obtain ⟨⟨⟨⟨⟨_, hti⟩, hts⟩, htt⟩, htg⟩, htd⟩ := htail
  have one : ∀ {k : Nat} {x : Oper}, onOne k x = true → ∃ e ∈ x.after.toList, Region.binds .any e = true ∧ e.on = k := by
    intro k x hx
    unfold onOne at hx
    rw [List.any_eq_true] at hx
    obtain ⟨e, he, h2⟩ := hx
    rw [Bool.and_eq_true] at h2
    exact ⟨e, he, h2.1, Nat.eq_of_beq_eq_true h2.2⟩
  have hsize : arr.size = k + 4 := by have := congrArg List.length hdrop; simp at this; omega
  obtain ⟨q, hq, h⟩ := optK_some h
  obtain ⟨fr', σ', hK, v1, v2, w1, w', μ', g1, g2, g3, haf, hf, hidx, b, ncs, idt, nn, hidt, hblk, hw', hput⟩ := pendV_ok hnow.after.inv hnow.fr hnow.size hq h
  clear h
  obtain ⟨ty1, p1, f1, ty2, p2, f2, ty3, p3, f3, rfl, rfl, rfl, _, _, _, hap⟩ := pendOf_spec hq
  obtain ⟨td, top, tty, tp, taf, tgd⟩ := t
  simp only at htg htd hK
  subst htg htd
  split at hK
  case h_2 => cases hK
  rename_i ty pt bb
  obtain ⟨hc, hK1⟩ := must_some hK
  clear hK
  simp only [Bool.and_eq_true, Bool.not_eq_true'] at hc
  obtain ⟨⟨⟨⟨hb, hpa⟩, hpp⟩, hty⟩, hc1⟩ := hc
  have hb := Nat.eq_of_beq_eq_true hb
  subst hb
  have hc1 := Nat.eq_of_beq_eq_true hc1
  have hpa : pt ≠ q.a := fun e => by rw [e] at hpa; simp at hpa
  have hpp : pt ≠ q.p := fun e => by rw [e] at hpp; simp at hpp
  obtain ⟨pv, hpv, hK2⟩ := optK_some hK1
  clear hK1
  obtain ⟨v, hv, hK3⟩ := optK_some hK2
  clear hK2
  split at hK3
  case h_2 => cases hK3
  rename_i ido off sz l id
  split at hK3
  case h_2 => cases hK3
  rename_i n u hido
  obtain ⟨hc, hK⟩ := must_some hK3
  clear hK3
  rw [Bool.and_eq_true] at hc
  have hoff := Nat.eq_of_beq_eq_true hc.1
  have hn1 := Nat.eq_of_beq_eq_true hc.2
  subst hoff hn1
  have hinv := haf.inv
  have rp := hf pt _ hpv
  have rv := hf q.a _ hv
  -- the acts
  have e0 : (((a.put (some q.a) v1).put (some q.p) v2).put none undef) = (a.put (some q.a) v1).put (some q.p) v2 := rfl
  rw [e0] at rp rv hf
  generalize ha2 : (a.put (some q.a) v1).put (some q.p) v2 = a2 at *
  have hn2 : nt ≤ a2.tmps.size := by rw [← ha2, put_size, put_size]; exact hnow.size
  have hd2 : a2.defers = ds := by rw [← ha2, put_defers', put_defers']; exact hnow.defers
  have hva : a2.eval (.tmp q.a) = a2.tmps.getD q.a undef := rfl
  have hpt : a2.eval (.tmp pt) = a2.tmps.getD pt undef := rfl
  have ev1 : ∀ y : Operand, opNot y q.p = true → (a.put (some q.a) v1).eval y = a2.eval y := fun y hy => by rw [← ha2]; exact (opNot_eval hy _ _).symm
  have nb : ∀ {x y : Nat}, x ≠ y → Nat.beq x y = false := fun {x y} h => by
    cases e : Nat.beq x y
    · rfl
    · exact absurd (Nat.eq_of_beq_eq_true e) h
  have k1 : opNot (.tmp pt) q.p = true := by simp [opNot, nb hpp]
  have k2 : opNot (.tmp q.a) q.p = true := by simp [opNot, nb hap]
  generalize a2.tmps.getD pt undef = pval at rp hpt
  generalize a2.tmps.getD q.a undef = vval at rv hva
  have rp0 := rp
  cases rp with | ptr _ _ bo hcell hbo => ?_
  obtain ⟨bo', cs, el, hbo', hheap, hcs, _, _, _⟩ := hinv.ob ido _ hido
  obtain rfl : bo = bo' := by rw [hbo] at hbo'; exact Option.some.inj hbo'
  have hne : bo ≠ b := by
    rintro rfl
    have := hinv.blockApart (i := 0) (i' := (μ' idt).f) hido hidt hbo ⟨hblk, Nat.le_refl _⟩
    rw [this, hidt] at hido
    cases hido
  obtain ⟨base, cap, hvv⟩ := rv.slD.slice_inv
  subst hvv
  obtain ⟨dd, hdd⟩ := hasTy_some hty
  have store : ∀ wX : World, wX.heap[bo]? = some (.cells cs el (0, 0)) → (Instr.storeAt ty (.pointer (some ⟨bo, 0, none⟩)) (.slice base l.length cap)).run cx.P wX =
      .ok () (wX.setRow bo (cs.toList.take 0 ++ (Value.slice base l.length cap).cells.toList ++ cs.toList.drop (0 + (Value.slice base l.length cap).cells.size)).toArray) := fun wX hX =>
    run_storeAt hdd (by rw [hc1]; rfl) hX (by rw [hcs]; exact Nat.le_refl _) (fun x hx => by simp [Value.cells] at hx; subst hx; rfl)
  generalize (cs.toList.take 0 ++ (Value.slice base l.length cap).cells.toList ++ cs.toList.drop (0 + (Value.slice base l.length cap).cells.size)).toArray = X at store
  have exec : ∀ (c : Act) (wX : World), (c = a.put (some q.a) v1 ∨ c = a2) → wX.heap[bo]? = some (.cells cs el (0, 0)) →
      (execOp c.eval ⟨none, .store ty (.tmp pt) (.tmp q.a), tty, tp, taf, none⟩).run cx.P wX = .ok .skip (wX.setRow bo X) := by
    intro c wX hcc hX
    have e1 : c.eval (.tmp pt) = .pointer (some ⟨bo, 0, none⟩) := by
      rcases hcc with rfl | rfl
      · rw [ev1 _ k1, hpt]
      · exact hpt
    have e2 : c.eval (.tmp q.a) = .slice base l.length cap := by
      rcases hcc with rfl | rfl
      · rw [ev1 _ k2, hva]
      · exact hva
    simp only [execOp, e1, e2]
    exact run_u (store wX hX)
  have hh1 : w1.heap[bo]? = some (.cells cs el (0, 0)) := by
    rw [hw'] at hheap
    rw [← hheap]
    exact (setRow_other b bo ncs hne).symm
  have hlast : (w1.setRow bo X).setRow b ncs = w'.setRow bo X := by rw [hw', setRow_comm _ hne]
  -- the state behind
  have hsv : storeV cx σ' ty (.ptr ido 0) (.sl sz l id) (fun δ _ => some δ) = some [(ido, .val 1 (.sl sz l id))] := by
    simp only [storeV, hido, hc1]
    rfl
  obtain ⟨δ, fp, hδ, w3, idd, hrun, hupd, hob⟩ := storeV_ok hinv rp0 rv hsv hty
  cases hδ
  have hw3 : w3 = w'.setRow bo X := by
    have := store w' hheap
    rw [hrun] at this
    cases this
    rfl
  subst hw3
  have haf3 := hupd.after hinv hob
  refine tail_orders hsize hdrop hedge (one hti) (one hts) (one htt) ⟨rfl, rfl, rfl, rfl⟩ rfl rfl hsz hl1 hl2 g1 hidx (v2 := v2) (w2 := w1.setRow bo X) (w' := w') (w'' := w'.setRow bo X) ?_ ?_ ?_ ?_ ?_
  · rw [ha2]; exact g3
  · rw [ha2]; exact exec a2 w' (.inr rfl) hheap
  · intro c hcc
    refine exec c w1 ?_ hh1
    rw [← ha2]; exact hcc
  · rw [ha2]
    have := hput (w1.setRow bo X) (setRow_other bo b X (Ne.symm hne))
    rw [hlast] at this
    exact this
  · rw [ha2]
    exact hQ _ _ hK _ _ _ ⟨hnow.after.trans (haf.trans haf3), haf3.frs hinv hf, hn2, hd2⟩

theorem tail_size {arr : Array Oper} {k : Nat} (h : tailOk arr.toList k = true) : arr.size = k + 4 := by
  unfold tailOk at h
  split at h
  case h_2 => cases h
  rename_i o i s t hd
  have := congrArg List.length hd
  simp at this
  omega

theorem onOne_spec {k : Nat} {x : Oper} (h : onOne k x = true) : ∃ e ∈ x.after.toList, Region.binds .any e = true ∧ e.on = k := by
  unfold onOne at h
  rw [List.any_eq_true] at h
  obtain ⟨e, he, h2⟩ := h
  rw [Bool.and_eq_true] at h2
  exact ⟨e, he, h2.1, Nat.eq_of_beq_eq_true h2.2⟩

/-- None of the last four is ready ahead of what stands before them. -/
theorem tail_wait {arr : Array Oper} {k : Nat} (h : tailOk arr.toList k = true) {listed : Array Bool} (hsz : listed.size = arr.size) (h1 : ∃ i, i < k ∧ ¬ lis listed i)
    (h2 : ∀ j, k ≤ j → ¬ lis listed j) (j : Nat) (hj : k ≤ j) : j ∉ Region.ready .any arr listed := by
  have hsize := tail_size h
  unfold tailOk at h
  split at h
  case h_2 => cases h
  rename_i o i s t hd
  simp only [Bool.and_eq_true] at h
  obtain ⟨⟨⟨⟨⟨ho, hi⟩, hs⟩, ht⟩, _⟩, _⟩ := h
  have at' : ∀ n x, [o, i, s, t][n]? = some x → arr[k + n]? = some x := fun n x hx => by
    rw [← hd, List.getElem?_drop] at hx
    simpa using hx
  intro hr
  obtain ⟨q1, q2, q3⟩ := ready_mem hsz hr
  have hcase : j = k + 0 ∨ j = k + 1 ∨ j = k + 2 ∨ j = k + 3 := by omega
  rcases hcase with rfl | rfl | rfl | rfl
  · obtain ⟨n, hn, hl⟩ := h1
    unfold onAll at ho
    rw [List.all_eq_true] at ho
    have := ho n (List.mem_range.2 hn)
    obtain ⟨e, he, hb, hon⟩ := onOne_spec (k := n) (x := o) this
    exact hl (hon ▸ q3 o (at' 0 o rfl) e he hb)
  · obtain ⟨e, he, hb, hon⟩ := onOne_spec hi
    exact h2 k (Nat.le_refl _) (hon ▸ q3 i (at' 1 i rfl) e he hb)
  · obtain ⟨e, he, hb, hon⟩ := onOne_spec hs
    exact h2 (k + 1) (by omega) (hon ▸ q3 s (at' 2 s rfl) e he hb)
  · obtain ⟨e, he, hb, hon⟩ := onOne_spec ht
    exact h2 k (Nat.le_refl _) (hon ▸ q3 t (at' 3 t rfl) e he hb)

end
end Go.Vai
end

section
namespace Go.Vai

section
variable {R : Type} {cx : Cx} {m nt : Nat} {call : Nat → List V → St → Option (Out × St)} {ds : List Deferred} {w w₀ : World} {σ σ₀ : St} {μ μ₀ : Mu}

theorem drew_upd : Upd cx w σ μ { w with drawn := w.drawn + 1 } σ μ [] where
  os := rfl
  output := rfl
  size := Nat.le_refl _
  blk := fun _ _ _ => rfl
  cell := fun _ _ _ _ h => h
  fr := rfl
  same := fun _ _ => ⟨rfl, rfl⟩
  own := fun _ h => by simp at h
  still := fun _ h => by simp at h
  apart := fun _ h => by simp at h

theorem drew_after (hi : Inv cx w σ μ) : After cx w σ μ { w with drawn := w.drawn + 1 } σ μ := Upd.after drew_upd hi (fun _ h => by simp at h)

theorem getA_keepSt : ∀ (S : List Nat) (i : Nat), getA (keepSt σ S) i = if i ∈ S then getA σ i else none
  | [], i => by simp [keepSt, getA]
  | j :: S, i => by
    simp only [keepSt]
    cases hj : getA σ j with
    | none =>
      simp only [getA_keepSt S i, List.mem_cons]
      by_cases h : i = j
      · subst h; simp [hj]
      · simp [h]
    | some o =>
      simp only [getA, getA_keepSt S i, List.mem_cons]
      by_cases h : j = i
      · subst h; simp [hj]
      · simp [beqF h, Ne.symm h]

theorem closedI_spec {is ren : List Nat} (h : closedI σ is ren = true) : (∀ i ∈ is, i ∈ ren) ∧ ∀ i ∈ ren, ∃ o, getA σ i = some o ∧ ∀ j ∈ o.ids, j ∈ ren := by
  unfold closedI at h
  simp only [Bool.and_eq_true, List.all_eq_true] at h
  obtain ⟨h2, h3⟩ := h
  refine ⟨fun i hi => by simpa using h2 i hi, fun i hi => ?_⟩
  have := h3 i hi
  split at this
  · rename_i o ho
    exact ⟨o, ho, fun j hj => by simpa using List.all_eq_true.1 this j hj⟩
  · cases this

theorem getA_pickLive {fr : Fr} : ∀ (l : List Nat) (t : Nat) (v : V), getA (pickLive fr l) t = some v → getA fr t = some v ∧ t ∈ l
  | [], t, v, h => by cases h
  | s :: l, t, v, h => by
    simp only [pickLive] at h
    split at h
    · rename_i u hu
      simp only [getA] at h
      cases hb : Nat.beq s t <;> rw [hb] at h
      · have := getA_pickLive l t v h
        exact ⟨this.1, List.mem_cons_of_mem _ this.2⟩
      · obtain rfl := Nat.eq_of_beq_eq_true hb
        cases h
        exact ⟨hu, List.mem_cons_self⟩
    · have := getA_pickLive l t v h
      exact ⟨this.1, List.mem_cons_of_mem _ this.2⟩

theorem frIds_mem : ∀ {fr : Fr} {t : Nat} {v : V} {i : Nat}, getA fr t = some v → i ∈ v.ids → i ∈ frIds fr
  | [], _, _, _, h, _ => by cases h
  | (s, u) :: fr, t, v, i, h, hi => by
    simp only [getA] at h
    simp only [frIds, List.mem_append]
    cases hb : Nat.beq s t <;> rw [hb] at h
    · exact .inr (frIds_mem h hi)
    · cases h; exact .inl hi

/-- Objects that nobody needs are let go. -/
theorem keep_now {a : Act} {fr fr' : Fr} {S : List Nat} (hσ₀ : ∀ id o, getA σ₀ id = some o → id < m) (hnow : Now cx nt ds w₀ σ₀ μ₀ a w σ μ fr) (hfr : ∀ t v, getA fr' t = some v → getA fr t = some v)
    (hm : ∀ i, i < m → i ∈ S) (hids : ∀ t v, getA fr' t = some v → ∀ i ∈ v.ids, i ∈ S) (hcl : ∀ i ∈ S, ∃ o, getA σ i = some o ∧ ∀ j ∈ o.ids, j ∈ S) : Now cx nt ds w₀ σ₀ μ₀ a w (keepSt σ S) μ fr' := by
  have hi := hnow.after.inv
  have hget : ∀ {i o}, getA (keepSt σ S) i = some o → i ∈ S ∧ getA σ i = some o := fun {i o} h => by
    rw [getA_keepSt] at h
    by_cases hS : i ∈ S
    · rw [if_pos hS] at h; exact ⟨hS, h⟩
    · rw [if_neg hS] at h; cases h
  have hin : ∀ {i}, i ∈ S → getA (keepSt σ S) i = getA σ i := fun {i} h => by rw [getA_keepSt, if_pos h]
  have hmine : ∀ {b i}, Mine (keepSt σ S) μ b i → Mine σ μ b i := fun ⟨id, o, ho, h⟩ => ⟨id, o, (hget ho).2, h⟩
  have hown : ∀ {b i}, OwnOf (keepSt σ S) μ b i → OwnOf σ μ b i := fun h => h.imp id hmine
  have hst : Stays w (OwnOf σ μ) w (OwnOf (keepSt σ S) μ) := ⟨fun b i x hn hc => ⟨hc, fun h => hn (hown h)⟩, fun r es clock hn hm => ⟨hm, fun h => hn (hown h)⟩⟩
  have rv : ∀ v x, (∀ i ∈ x.ids, i ∈ S) → RV w σ μ v x → RV w (keepSt σ S) μ v x := fun v x hx hv => hv.stays hst fun id hid o ho => by
    rw [hin (hx id hid), ho]; exact stillOb.refl μ id o
  refine ⟨⟨⟨fun id o ho => ?_, fun id id' o o' b i ho ho' => hi.apart id id' o o' b i (hget ho).2 (hget ho').2, fun g x hg => ?_, fun id o b i ho => hi.frame id o b i (hget ho).2, hi.frLt, hi.frMap⟩,
    ⟨hnow.after.goes.kept, fun b i hb h => hnow.after.goes.own b i hb (hmine h), hnow.after.goes.fr⟩, fun id o ho => ?_, hnow.after.fr⟩, fun t v ht => rv _ _ (hids t v ht) (hnow.fr t v (hfr t v ht)), hnow.size, hnow.defers⟩
  · obtain ⟨hS, ho⟩ := hget ho
    have hok := hi.ob id o ho
    obtain ⟨o', ho', hoids⟩ := hcl id hS
    rw [ho] at ho'; cases ho'
    cases o with
    | val n v =>
      obtain ⟨b, cs, el, hb, hh, hn, ht, h1, hr, htag⟩ := hok
      exact ⟨b, cs, el, hb, hh, hn, ht, h1, hr.map fun y x hx => rv y x fun i hi => hoids i (V.cells_ids hx hi), htag⟩
    | row l =>
      obtain ⟨b, cs, el, hb, hh, h1, hr⟩ := hok
      exact ⟨b, cs, el, hb, hh, h1, hr.stays hst⟩
    | tok n => exact hok
    | map ks vs =>
      obtain ⟨b, es, clock, hb, hh, hk, hv⟩ := hok
      exact ⟨b, es, clock, hb, hh, hk.stays hst, hv.stays hst⟩
  · obtain ⟨xs, hc, hr⟩ := hi.glob g x hg
    exact ⟨xs, fun j hj => ⟨(hc j hj).1, fun h => (hc j hj).2.1 (hown h), (hc j hj).2.2⟩, fun j c hj => (hr j c hj).stays hst⟩
  · rw [hin (hm id (hσ₀ id o ho))]
    exact hnow.after.still id o ho

theorem unds_cells : ∀ {l : List V} {ds : List D}, unds (l.map V.handed) = some ds → l.map V.handed = ds.map .d
  | [], ds, h => by cases h; rfl
  | x :: l, ds, h => by
    simp only [List.map_cons] at h ⊢
    generalize hq : V.handed x = q at h ⊢
    cases q <;> first | (simp [unds] at h; done) | skip
    rename_i d
    simp only [unds] at h
    split at h
    · rename_i l' hl
      cases h
      rw [unds_cells hl]; rfl
    · cases h

theorem flat_one {i n : Nat} {l : List V} {ds' : List D} {a : Act} {fr : Fr} (hg : getA σ i = some (.val n (.agg l))) (hu : unds (l.map V.handed) = some ds') (hnow : Now cx nt ds w₀ σ₀ μ₀ a w σ μ fr) :
    Now cx nt ds w₀ σ₀ μ₀ a w (putA σ i (.val n (.d (.agg ds')))) μ fr := by
  have hi := hnow.after.inv
  have hup : Upd cx w σ μ w (putA σ i (.val n (.d (.agg ds')))) μ [i] := {
    os := rfl
    output := rfl
    size := Nat.le_refl _
    blk := fun _ _ _ => rfl
    cell := fun _ _ _ _ h => h
    fr := rfl
    same := fun j hj => ⟨by rw [getA_putA, if_neg (by simpa using Ne.symm (by simpa using hj))], rfl⟩
    own := fun j hj o' ho' b k hb _ => by
      simp only [List.mem_singleton] at hj
      subst hj
      rw [getA_putA, if_pos rfl] at ho'
      cases ho'
      exact ⟨_, hg, hb⟩
    still := fun j hj o ho => by
      simp only [List.mem_singleton] at hj
      subst hj
      rw [hg] at ho
      cases ho
      rw [getA_putA, if_pos rfl]
      exact ⟨rfl, rfl⟩
    apart := fun j hj j' hj' _ _ _ _ _ _ _ _ _ => by simp only [List.mem_singleton] at hj hj'; rw [hj, hj'] }
  have haf : After cx w σ μ w (putA σ i (.val n (.d (.agg ds')))) μ := hup.after hi fun j hj o' ho' => by
    simp only [List.mem_singleton] at hj
    subst hj
    rw [getA_putA, if_pos rfl] at ho'
    cases ho'
    obtain ⟨b, cs, el, h1, h2, h3, _, h5, h6, htag⟩ := hi.ob j _ hg
    replace h6 : RVs w σ μ cs.toList l := h6
    refine ⟨b, cs, el, h1, h2, h3, rfl, h5, ?_, htag⟩
    have hs := hup.goes.stays' hi
    have hst := hup.stillAll
    have hlen : l.length = ds'.length := by have := congrArg List.length (unds_cells hu); simpa using this
    show RVs w _ μ cs.toList (ds'.map .d)
    rw [← unds_cells hu]
    refine ⟨by simpa using h6.1, fun k x y hx hy => ?_⟩
    simp only [List.getElem?_map, Option.map_eq_some_iff] at hy
    obtain ⟨z, hz, rfl⟩ := hy
    exact (handed_ok (h6.2 k x z hx hz)).stays hs fun id _ o ho => hst id o ho
  exact ⟨hnow.after.trans haf, haf.frs hi hnow.fr, hnow.size, hnow.defers⟩

theorem flat_now {a : Act} {fr : Fr} : ∀ (l : List Nat) {σ : St}, Now cx nt ds w₀ σ₀ μ₀ a w σ μ fr → Now cx nt ds w₀ σ₀ μ₀ a w (flatSt l σ) μ fr
  | [], _, h => h
  | i :: r, σ, h => by
    unfold flatSt
    refine flat_now r ?_
    split
    · rename_i n l hg
      split
      · rename_i ds' hu
        exact flat_one hg hu h
      · exact h
    · exact h

theorem tidy_ok {f key : Nat} {fr : Fr} {K : Fr → St → Option R} {r : R} (h : tidy cx m f key fr σ K = some r) (hσ₀ : ∀ id o, getA σ₀ id = some o → id < m) :
    ∃ fr' σ', K fr' σ' = some r ∧ ∀ {a w μ}, Now cx nt ds w₀ σ₀ μ₀ a w σ μ fr → Now cx nt ds w₀ σ₀ μ₀ a w σ' μ fr' := by
  unfold tidy at h
  simp only at h
  obtain ⟨hc, h⟩ := must_some h
  obtain ⟨h1, h2⟩ := closedI_spec hc
  exact ⟨_, _, h, fun hnow => keep_now hσ₀ (flat_now _ hnow) (fun t v ht => (getA_pickLive _ t v ht).1) (fun i hi => h1 i (List.mem_append_left _ (List.mem_range.2 hi)))
    (fun t v ht i hi => h1 i (List.mem_append_right _ (frIds_mem ht hi))) h2⟩

theorem evCode_ok' (hcall : CallOk cx call) (hn : noRoutines cx.P) (hmix : cx.P.follows .mixedOrders = true) {f n : Nat} :
    ∀ (c : Code), (hasTidy c = true → ∀ id o, getA σ₀ id = some o → id < m) → ∀ {K : Ex → Fr → St → Option R} {r : R} {fr : Fr} {σ : St}, evCode cx f m nt call n c fr σ K = some r → ∀ {Q : Exit → Act → World → Prop},
      (∀ e fr σ, K e fr σ = some r → ∀ x a w μ, exits w σ μ e x → Now cx nt ds w₀ σ₀ μ₀ a w σ μ fr → Q x a w) → ∀ {a w μ}, Now cx nt ds w₀ σ₀ μ₀ a w σ μ fr → c.wp cx.P Q a w := by
  intro c
  induction c with
  | skip => intro hσ₀ K r fr σ h Q hQ a w μ hnow; exact wp_skip (hQ _ _ _ h _ _ _ _ trivial hnow)
  | label l => intro hσ₀ K r fr σ h Q hQ a w μ hnow; exact wp_label (hQ _ _ _ h _ _ _ _ trivial hnow)
  | exit id => intro hσ₀ K r fr σ h Q hQ a w μ hnow; exact wp_exit (hQ _ _ _ h _ _ _ _ rfl hnow)
  | goto l => intro hσ₀ K r fr σ h Q hQ a w μ hnow; exact wp_goto (hQ _ _ _ h _ _ _ _ rfl hnow)
  | ret => intro hσ₀ K r fr σ h Q hQ a w μ hnow; exact wp_ret (hQ _ _ _ h _ _ _ _ trivial hnow)
  | refuse why => intro hσ₀ K r fr σ h; cases h
  | rangeFunc f params assign body _ _ => intro hσ₀ K r fr σ h; cases h
  | region id ops draw =>
    intro hσ₀ K r fr σ h Q hQ a w μ hnow
    cases draw
    · simp only [evCode] at h
      split at h
      · exact wp_region (by simpa using evOps_ok hcall hn hQ ops.toList 0 rfl fr σ h a w μ hnow)
      · rename_i k hk
        refine wp_region ?_
        have key := evOps_part (cx := cx) (nt := nt) (ds := ds) (w₀ := w₀) (σ₀ := σ₀) (μ₀ := μ₀) hcall hn (arr := ops) (tl := ops.toList.drop k) (Q := Q) (fun fr σ h a w μ hnow i hi => ?_) (fun v fr σ h x a w μ hx hnow => ?_) (ops.toList.take k) 0 (by simp) fr σ h a w μ hnow
        · simpa using key
        · simp only at h
          have hik : (List.range ops.size).drop i = (List.range ops.size).drop k := by
            by_cases hlt : k < ops.size
            · have := congrArg List.length hi
              simp at this
              have : i = k := by omega
              rw [this]
            · rw [List.drop_eq_nil_of_le (by simp; have := congrArg List.length hi; simp at this; omega), List.drop_eq_nil_of_le (by simp; omega)]
          rw [hik]
          exact evPend_ok h hnow fun l fr' σ' hK hl a w μ hnow => evOps_ok hcall hn hQ l (k + 3) hl fr' σ' hK a w μ hnow
        · cases x <;> first | exact hx.elim | exact hQ _ _ _ h _ _ _ μ hx hnow
    · simp only [evCode] at h
      split at h
      · exact evDraw_ok hcall hn hmix hQ (fun w σ μ hi => drew_after hi) h hnow
      · rename_i k hk
        obtain ⟨ht, h⟩ := must_some h
        have hedge : ∀ (j : Nat) o, ops.toList[j]? = some o → edgesOk j o = true := fun j o ho => by
          have hok := (must_some h).1
          simp only [drawOk, Bool.and_eq_true] at hok
          have := (opsOk_spec hok.2 j o ho).2
          rwa [Nat.zero_add] at this
        have hsize : ops.size = k + 4 := tail_size ht
        refine draw_part hcall hn hmix ?_ (k₀ := k) (T := 4) hsize (fun listed hsz hl1 hl2 => tail_wait ht hsz hl1 hl2) ?_ (fun w σ μ hi => drew_after hi) h hnow
        · intro v fr σ h x a w μ hx hnow
          cases x <;> first | exact hx.elim | exact hQ _ _ _ h _ _ _ μ hx hnow
        · intro fr σ h listed hsz hl1 hl2 a w μ hnow
          exact tail_ok ht hedge h hsz hl1 hl2 hnow fun fr' σ' hK a w μ hnow => hQ _ _ _ hK _ _ _ μ trivial hnow
  | seq x y ihx ihy =>
    intro hσ₀ K r fr σ h Q hQ a w μ hnow
    refine wp_seq (ihx (fun h => hσ₀ (by simp [hasTidy, h])) h (fun e fr σ hK x a w μ hx hnow => ?_) hnow)
    cases e with
    | normal => cases x <;> first | exact ihy (fun h => hσ₀ (by simp [hasTidy, h])) hK hQ hnow | exact hx.elim
    | exit i => cases x <;> first | exact hQ _ _ _ hK _ _ _ μ hx hnow | exact hx.elim
    | goto l => cases x <;> first | exact hQ _ _ _ hK _ _ _ μ hx hnow | exact hx.elim
    | ret => cases x <;> first | exact hQ _ _ _ hK _ _ _ μ hx hnow | exact hx.elim
    | pan v => cases x <;> first | exact hQ _ _ _ hK _ _ _ μ hx hnow | exact hx.elim
  | cond c x y ihx ihy =>
    intro hσ₀ K r fr σ h Q hQ a w μ hnow
    simp only [evCode] at h
    obtain ⟨v, hv, h⟩ := optK_some h
    obtain ⟨b, rfl, h⟩ := asB_some h
    have hcb : a.eval c = .bool b := by
      have hr := opd_ok hnow.fr hv
      generalize a.eval c = q at hr
      cases hr with | d _ _ hd => cases hd; rfl
    refine wp_cond hcb ?_
    cases b
    · exact ihy (fun h => hσ₀ (by simp [hasTidy, h])) h hQ hnow
    · exact ihx (fun h => hσ₀ (by simp [hasTidy, h])) h hQ hnow
  | block id c ih =>
    intro hσ₀ K r fr σ h Q hQ a w μ hnow
    replace hσ₀ := hσ₀ rfl
    refine wp_block (ih (fun _ => hσ₀) h (fun e fr σ hK x a w μ hx hnow => ?_) hnow)
    have tid : ∀ {fr σ}, tidy cx m f (2 * id) fr σ (K .normal) = some r → Now cx nt ds w₀ σ₀ μ₀ a w σ μ fr → Q .normal a w := fun h hnow => by
      obtain ⟨fr', σ', hK, hN⟩ := tidy_ok (nt := nt) (w₀ := w₀) (μ₀ := μ₀) h hσ₀
      exact hQ _ _ _ hK _ _ _ μ trivial (hN hnow)
    cases e with
    | normal => cases x <;> first | exact tid hK hnow | exact hx.elim
    | exit i =>
      cases x <;> first | exact hx.elim | skip
      rename_i j
      obtain rfl : i = j := hx
      show if i = id then _ else _
      simp only at hK
      by_cases hid : i = id
      · subst hid
        rw [beqT, cond_true] at hK
        rw [if_pos rfl]
        exact tid hK hnow
      · rw [beqF hid, cond_false] at hK
        rw [if_neg hid]
        exact hQ _ _ _ hK _ _ _ μ rfl hnow
    | goto l => cases x <;> first | exact hQ _ _ _ hK _ _ _ μ hx hnow | exact hx.elim
    | ret => cases x <;> first | exact hQ _ _ _ hK _ _ _ μ hx hnow | exact hx.elim
    | pan v => cases x <;> first | exact hQ _ _ _ hK _ _ _ μ hx hnow | exact hx.elim
  | loop c ih =>
    intro hσ₀ K r fr σ h Q hQ a w μ hnow
    replace hσ₀ := hσ₀ rfl
    simp only [evCode] at h
    obtain ⟨fr', σ', h, hN⟩ := tidy_ok (nt := nt) (w₀ := w₀) (μ₀ := μ₀) h hσ₀
    refine wp_loop_rounds n ?_
    have key : ∀ (k : Nat) (fr : Fr) (σ : St) (a : Act) (w : World) (μ : Mu), iter (evCode cx f m nt call n c) (tidy cx m f (2 * firstRegion c + 1)) k fr σ K = some r → Now cx nt ds w₀ σ₀ μ₀ a w σ μ fr →
        Code.rounds cx.P c Q k a w := by
      intro k
      induction k with
      | zero => intro fr σ a w μ h; cases h
      | succ k ihk =>
        intro fr σ a w μ h hnow
        rw [rounds_succ]
        refine ih (fun _ => hσ₀) h (fun e fr σ hK x a w μ hx hnow => ?_) hnow
        cases e with
        | normal =>
          cases x <;> first | exact hx.elim | skip
          simp only at hK
          obtain ⟨fr', σ', h, hN⟩ := tidy_ok (nt := nt) (w₀ := w₀) (μ₀ := μ₀) hK hσ₀
          exact ihk _ _ _ _ μ h (hN hnow)
        | exit i => cases x <;> first | exact hQ _ _ _ hK _ _ _ μ hx hnow | exact hx.elim
        | goto l => cases x <;> first | exact hQ _ _ _ hK _ _ _ μ hx hnow | exact hx.elim
        | ret => cases x <;> first | exact hQ _ _ _ hK _ _ _ μ hx hnow | exact hx.elim
        | pan v => cases x <;> first | exact hQ _ _ _ hK _ _ _ μ hx hnow | exact hx.elim
    exact key n fr' σ' a w μ h (hN hnow)
  | scope c ih =>
    intro hσ₀ K r fr σ h Q hQ a w μ hnow
    refine wp_scope_straight (ih hσ₀ h (fun e fr σ hK x a w μ hx hnow => ?_) hnow)
    cases e with
    | normal => cases x <;> first | exact hQ _ _ _ hK _ _ _ μ hx hnow | exact hx.elim
    | exit i => cases x <;> first | exact hQ _ _ _ hK _ _ _ μ hx hnow | exact hx.elim
    | goto l => cases hK
    | ret => cases x <;> first | exact hQ _ _ _ hK _ _ _ μ hx hnow | exact hx.elim
    | pan v => cases x <;> first | exact hQ _ _ _ hK _ _ _ μ hx hnow | exact hx.elim

theorem evCode_ok (hcall : CallOk cx call) (hn : noRoutines cx.P) (hmix : cx.P.follows .mixedOrders = true) (hσ₀ : ∀ id o, getA σ₀ id = some o → id < m) {f n : Nat}
    (c : Code) {K : Ex → Fr → St → Option R} {r : R} {fr : Fr} {σ : St} (h : evCode cx f m nt call n c fr σ K = some r) {Q : Exit → Act → World → Prop}
    (hQ : ∀ e fr σ, K e fr σ = some r → ∀ x a w μ, exits w σ μ e x → Now cx nt ds w₀ σ₀ μ₀ a w σ μ fr → Q x a w) {a w μ} (hnow : Now cx nt ds w₀ σ₀ μ₀ a w σ μ fr) : c.wp cx.P Q a w :=
  evCode_ok' hcall hn hmix c (fun _ => hσ₀) h hQ hnow

end
end Go.Vai
end

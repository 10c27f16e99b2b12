/-
  Regions in the text's order.
  On what an operation's answer rests.
  An operation's answer rests on the objects of its footprint alone.
  Regions whose order is open.
  Regions whose order is open: every order.
  Regions whose order is open: the interpreter's one order stands for all.
  Regions, and all code.
  All code.
  Calls: what leaves them.
  Calls of functions.
-/
import Derived.Test.YtkaopadaeefoiaaDoorVaiPart3
import Derived.Orders
import Derived.LoopN
import Derived.Scope

set_option linter.all false
set_option linter.unusedSimpArgs false
set_option linter.unusedVariables false

section
namespace Go.Vai

section
variable {R : Type} {cx : Cx} {w : World} {σ : St} {μ : Mu}

/-- Which end stands for which. -/
def exits (w : World) (σ : St) (μ : Mu) : Ex → Exit → Prop
  | .normal, .normal => True
  | .ret, .ret => True
  | .exit i, .exit j => i = j
  | .goto i, .goto j => i = j
  | .pan v, .panic chain => ∃ x, chain = [{ v := x, recovered := false }] ∧ RV w σ μ x v
  | _, _ => False

/-- The moment: since the call began. -/
structure Now (cx : Cx) (nt : Nat) (w₀ : World) (σ₀ : St) (μ₀ : Mu) (a : Act) (w : World) (σ : St) (μ : Mu) (fr : Fr) : Prop where
  after : After cx w₀ σ₀ μ₀ w σ μ
  fr : FR w σ μ a.tmps fr
  size : nt ≤ a.tmps.size
  defers : a.defers = []

/-- Slots, told in other words. -/
def sameFr (fr fr' : Fr) : Prop := ∀ t, getA fr' t = getA fr t

theorem FR.same {tmps : Array Value} {fr fr' : Fr} (h : FR w σ μ tmps fr) (hs : sameFr fr fr') : FR w σ μ tmps fr' := fun t v ht => h t v (by rw [← hs t]; exact ht)

theorem sameFr.refl (fr : Fr) : sameFr fr fr := fun _ => rfl

theorem sameFr.dup {fr : Fr} {t : Nat} {v : V} (h : getA fr t = some v) : sameFr fr ((t, v) :: fr) := by
  intro t'
  simp only [getA]
  cases hb : Nat.beq t t'
  · rfl
  · obtain rfl := Nat.eq_of_beq_eq_true hb
    exact h.symm

theorem RV.bool_of {v : V} {b : Bool} (h : RV w σ μ (.bool b) v) : v = .d (.bool b) := by
  cases h with
  | d _ x hd => cases hd; rfl
  | sl _ sz l id n hd => cases hd

theorem getD_of {tmps : Array Value} {t : Nat} {v : Value} (h : tmps[t]? = some v) : tmps.getD t undef = v := by
  simp [Array.getD_eq_getD_getElem?, h]

theorem of_getD {tmps : Array Value} {t : Nat} {b : Bool} (h : tmps.getD t undef = .bool b) : tmps[t]? = some (.bool b) := by
  cases hg : tmps[t]? with
  | none => simp [Array.getD_eq_getD_getElem?, hg, undef] at h
  | some v => simp [Array.getD_eq_getD_getElem?, hg] at h; rw [h]

/-- What a guard says, from the slots alone. -/
def wants (ops : List Oper) (o : Oper) (fr : Fr) : Option Bool :=
  match o.guard with
  | none => some true
  | some (j, want) =>
    match slotOf ops j with
    | none => some false
    | some t =>
      match getA fr t with
      | some (.d (.bool b)) => some (b == want)
      | some _ => some false
      | none => none

theorem guardV_some {ops : List Oper} {o : Oper} {fr : Fr} {yes no : Fr → Option R} {r : R} (h : guardV ops o fr yes no = some r) :
    ∃ fr', sameFr fr fr' ∧ ((wants ops o fr = some true ∧ yes fr' = some r) ∨ (wants ops o fr = some false ∧ no fr' = some r)) := by
  unfold guardV at h
  unfold wants
  split at h
  · exact ⟨fr, sameFr.refl fr, .inl ⟨by simp [*], h⟩⟩
  · rename_i j want hg
    simp only [hg]
    split at h
    · exact ⟨fr, sameFr.refl fr, .inr ⟨by simp [*], h⟩⟩
    · rename_i t ht
      simp only [ht]
      split at h
      · rename_i b hb
        cases b <;> cases want <;> simp only [cond_true, cond_false] at h
        · exact ⟨_, sameFr.dup hb, .inl ⟨by simp [hb], h⟩⟩
        · exact ⟨_, sameFr.dup hb, .inr ⟨by simp [hb], h⟩⟩
        · exact ⟨_, sameFr.dup hb, .inr ⟨by simp [hb], h⟩⟩
        · exact ⟨_, sameFr.dup hb, .inl ⟨by simp [hb], h⟩⟩
      · rename_i x hn hx
        refine ⟨fr, sameFr.refl fr, .inr ⟨?_, h⟩⟩
        rw [hx]
        split
        · rename_i b hb; exact (hn _ (Option.some.inj hb)).elim
        · rfl
        · rename_i hb; cases hb
      · cases h

theorem slotOf_bind {ops : List Oper} {arr : Array Oper} (h : arr.toList = ops) (j : Nat) : (arr[j]?).bind (·.dst) = slotOf ops j := by
  unfold slotOf
  rw [← h, Array.getElem?_toList]
  cases arr[j]? <;> rfl

theorem wants_ok {ops : List Oper} {arr : Array Oper} (harr : arr.toList = ops) {o : Oper} {fr : Fr} {tmps : Array Value} (hf : FR w σ μ tmps fr) {b : Bool} (h : wants ops o fr = some b) :
    Region.wanted o (yielded arr tmps) = b := by
  unfold wants at h
  unfold Region.wanted
  split at h
  · rename_i hg; simp only [hg]; cases h; rfl
  · rename_i j want hg
    simp only [hg, yielded, slotOf_bind harr]
    split at h
    · rename_i ht; cases h; simp [ht]
    · rename_i t ht
      simp only [ht, Option.bind_some]
      split at h
      · rename_i c hb
        cases h
        have hr := hf t _ hb
        have : tmps[t]? = some (.bool c) := by
          cases hr' : tmps.getD t undef <;> rw [hr'] at hr
          case bool c' =>
            have := hr.bool_of; cases this
            exact of_getD hr'
          all_goals (cases hr with | d _ _ hd => cases hd)
        rw [this]
        cases c <;> cases want <;> rfl
      · rename_i x hn hx
        cases h
        have hr := hf t _ hx
        cases hq : tmps[t]? with
        | none => simp
        | some q =>
          rw [getD_of hq] at hr
          cases q <;> first | rfl | skip
          have := hr.bool_of
          subst this
          exact (hn _ rfl).elim
      · cases h

theorem getA_putF {fr : Fr} {dst : Option Nat} {v : V} {t : Nat} : getA (putF fr dst v) t = if dst = some t then some v else getA fr t := by
  cases dst with
  | none => simp [putF]
  | some d =>
    simp only [putF, getA]
    by_cases h : d = t
    · subst h; simp
    · simp [h, beqF h]

theorem FR.put {nt : Nat} {a : Act} {fr : Fr} (h : FR w σ μ a.tmps fr) {dst : Option Nat} (hd : dstOk nt dst = true) (hs : nt ≤ a.tmps.size) {v' : Value} {v : V} (hv : RV w σ μ v' v) :
    FR w σ μ (a.put dst v').tmps (putF fr dst v) := by
  intro t u ht
  rw [getA_putF] at ht
  cases dst with
  | none => exact h t u (by simpa using ht)
  | some d =>
    have hlt : d < a.tmps.size := Nat.lt_of_lt_of_le (Nat.le_of_ble_eq_true hd) hs
    by_cases he : d = t
    · subst he
      simp at ht; subst ht
      simpa [Act.put, Array.getD_eq_getD_getElem?, hlt] using hv
    · simp [he] at ht
      have := h t u ht
      simpa [Act.put, Array.getD_eq_getD_getElem?, Array.getElem?_setIfInBounds_ne he] using this

theorem put_size (a : Act) (dst : Option Nat) (v : Value) : (a.put dst v).tmps.size = a.tmps.size := by cases dst <;> simp [Act.put]
theorem put_defers' (a : Act) (dst : Option Nat) (v : Value) : (a.put dst v).defers = a.defers := by cases dst <;> rfl

theorem undef_ok : RV w σ μ undef undefV := .tup #[] [] rfl (by simp)

theorem FR.nil {tmps : Array Value} : FR w σ μ tmps [] := fun _ _ h => by cases h

variable {nt : Nat} {w₀ : World} {σ₀ : St} {μ₀ : Mu}

theorem evOps_ok {m : Nat} {call : Nat → List V → St → Option (Out × St)} (hcall : CallOk cx call) (hn : noRoutines cx.P) {arr : Array Oper} {K : Ex → Fr → St → Option R} {r : R}
    {Q : Exit → Act → World → Prop}
    (hQ : ∀ e fr σ, K e fr σ = some r → ∀ x a w μ, exits w σ μ e x → Now cx nt w₀ σ₀ μ₀ a w σ μ fr → Q x a w) :
    ∀ (l : List Oper) (i : Nat), arr.toList.drop i = l → ∀ (fr : Fr) (σ : St), evOps cx m nt call arr.toList l fr σ K = some r →
      ∀ a w μ, Now cx nt w₀ σ₀ μ₀ a w σ μ fr → wpOps cx.P arr Q ((List.range arr.size).drop i) a w := by
  intro l
  induction l with
  | nil =>
    intro i hi fr σ h a w μ hnow
    have : arr.size ≤ i := by have := congrArg List.length hi; simp at this; omega
    rw [List.drop_eq_nil_of_le (by simpa using this)]
    exact hQ _ _ _ h _ _ _ _ trivial hnow
  | cons o l ih =>
    intro i hi fr σ h a w μ hnow
    have hlt : i < arr.size := by
      have := congrArg List.length hi
      simp at this; omega
    have ho : arr[i]? = some o := by
      have := congrArg (·[0]?) hi
      simpa using this
    have hrest : arr.toList.drop (i + 1) = l := by
      rw [← List.drop_drop, hi]; rfl
    have hdrop : (List.range arr.size).drop i = i :: (List.range arr.size).drop (i + 1) := by
      rw [List.drop_eq_getElem_cons (by simpa using hlt)]; simp
    rw [hdrop]
    simp only [wpOps, ho]
    unfold evOps at h
    obtain ⟨hd, h⟩ := must_some h
    obtain ⟨fr', hs, h⟩ := guardV_some h
    have hf' := hnow.fr.same hs
    rcases h with ⟨hw, h⟩ | ⟨hw, h⟩
    · rw [wants_ok rfl hnow.fr hw, if_pos rfl]
      left
      obtain ⟨p, hp, h⟩ := optK_some h
      obtain ⟨oc, δ, fp, hK0, hok⟩ := evOp_ok hcall hn hnow.after.inv hf' hp
      cases hK0
      have hK := h
      refine hok _ _ ?_
      cases oc with
      | val v =>
        intro v' w' μ' haf hv
        refine ih (i + 1) hrest _ _ hK _ _ μ' ⟨hnow.after.trans haf, FR.put (haf.frs hnow.after.inv hf') hd hnow.size hv, ?_, ?_⟩
        · rw [put_size]; exact hnow.size
        · rw [put_defers']; exact hnow.defers
      | pan v =>
        intro x w' μ' haf hv
        exact hQ _ _ _ hK _ _ _ μ' ⟨x, rfl, hv⟩ ⟨hnow.after.trans haf, FR.nil, hnow.size, hnow.defers⟩
    · rw [wants_ok rfl hnow.fr hw]
      simp only [Bool.false_eq_true, if_false]
      refine ih (i + 1) hrest _ _ h _ _ μ ⟨hnow.after, FR.put hf' hd hnow.size undef_ok, ?_, ?_⟩
      · rw [put_size]; exact hnow.size
      · rw [put_defers']; exact hnow.defers

end
end Go.Vai
end

section
namespace Go.Vai

section
variable {R : Type} {cx : Cx} {σ σ' : St}

theorem opdT_fr {P : Program} {t : Nat} {fr fr' : Fr} {x : Operand} (h : opd fr' x = opd fr x) : opdT P t fr' x = opdT P t fr x := by
  unfold opdT
  split
  · rfl
  · exact h

theorem opds_fr {P : Program} {t : Nat} {fr fr' : Fr} : ∀ {ps : List (Nat × Operand)}, (∀ p ∈ ps, opd fr' p.2 = opd fr p.2) → opds P fr' t ps = opds P fr t ps
  | [], _ => rfl
  | (i, x) :: ps, h => by
    simp only [opds]
    rw [opdT_fr (h (i, x) List.mem_cons_self), opds_fr fun p hp => h p (List.mem_cons_of_mem _ hp)]

theorem argsOf_fr {P : Program} {fr fr' : Fr} : ∀ {xs : List Operand} {ts : List Nat}, (∀ x ∈ xs, opd fr' x = opd fr x) → argsOf P fr' xs ts = argsOf P fr xs ts
  | [], _, _ => rfl
  | x :: xs, ts, h => by
    simp only [argsOf]
    rw [opdT_fr (h x List.mem_cons_self), argsOf_fr fun p hp => h p (List.mem_cons_of_mem _ hp)]

theorem opdO_fr {fr fr' : Fr} {x : Option Operand} (h : ∀ y ∈ x, opd fr' y = opd fr y) {K : Option V → Option R} : opdO fr' x K = opdO fr x K := by
  cases x with
  | none => rfl
  | some x => simp only [opdO, h x rfl]

theorem evOp_fr {m nt : Nat} {call : Nat → List V → St → Option (Out × St)} {o : Oper} {fr fr' : Fr} (h : ∀ x ∈ o.op.operands, opd fr' x = opd fr x) {K : Oc → De → List Nat → Option R} :
    evOp cx m nt call o fr' σ K = evOp cx m nt call o fr σ K := by
  obtain ⟨dst, op, type, pos, after, guard⟩ := o
  cases op <;> simp only [Op.operands] at h
  case move x | assign x =>
    simp only [evOp]
    split
    · rfl
    · rw [h x (by simp)]
  case makeFunc fn first caps =>
    cases fn <;> simp only [evOp]
    rw [argsOf_fr fun x hx => h x (by simp at hx; simp [hx])]
  case makeMap t r => cases r <;> simp only [evOp]
  case build t ps => simp only [evOp]; rw [opds_fr fun p hp => h p.2 (by simp; exact ⟨p.1, by simpa using hp⟩)]
  case buildSlice t n ps => simp only [evOp]; rw [opds_fr fun p hp => h p.2 (by simp; exact ⟨p.1, by simpa using hp⟩)]
  case box t x => simp only [evOp]; rw [opdT_fr (h x (by simp))]
  case store t p x => simp only [evOp]; rw [h p (by simp), opdT_fr (h x (by simp))]
  case binOp op t x y u => simp only [evOp]; rw [opdT_fr (h x (by simp)), opdT_fr (h y (by simp))]
  case convert s t x => simp only [evOp]; rw [opdT_fr (h x (by simp))]
  case makeInterface t x => simp only [evOp]; rw [opdT_fr (h x (by simp))]
  case slice t x lo hi mx =>
    simp only [evOp]
    have e1 : ∀ {K : Option V → Option R}, opdO fr' lo K = opdO fr lo K := opdO_fr fun y hy => h y (by cases hy; simp)
    have e2 : ∀ {K : Option V → Option R}, opdO fr' hi K = opdO fr hi K := opdO_fr fun y hy => h y (by cases hy; simp)
    have e3 : ∀ {K : Option V → Option R}, opdO fr' mx K = opdO fr mx K := opdO_fr fun y hy => h y (by cases hy; simp)
    simp only [opdT_fr (h x (by simp)), e1, e2, e3]
  case call c =>
    obtain ⟨callee, cargs, ctypes⟩ := c
    simp only [Call.operands] at h
    cases callee with
    | value f =>
      simp only [evOp]
      rw [h f (by simp)]
      have e : ∀ {ts}, argsOf cx.P fr' cargs.toList ts = argsOf cx.P fr cargs.toList ts := argsOf_fr fun x hx => h x (by simp at hx; simp [hx])
      simp only [e]
    | invoke r nm => simp only [evOp]
    | builtin b =>
      have e : ∀ x ∈ cargs.toList, ∀ {P t}, opdT P t fr' x = opdT P t fr x := fun x hx {P t} => opdT_fr (h x (by simp at hx; simp [hx]))
      cases b <;> simp only [evOp]
      · split
        · rename_i s x t t' hx ht
          rw [e s (by rw [hx]; simp), e x (by rw [hx]; simp)]
        · rfl
      · split
        · rename_i x t hx ht
          rw [e x (by rw [hx]; simp)]
        · rfl
  all_goals simp only [evOp]
  all_goals first | rfl | skip
  all_goals (simp only [Array.mem_def, List.mem_cons, List.not_mem_nil, or_false, forall_eq_or_imp, forall_eq] at h)
  all_goals first | (simp only [h]; done) | (simp only [h.1, h.2]; done) | (simp only [h.1, h.2.1, h.2.2]; done)

end
end Go.Vai
end

section
namespace Go.Vai

section
variable {R : Type} {cx : Cx} {σ σ' : St}

def agree (S : List Nat) (σ σ' : St) : Prop := ∀ i ∈ S, getA σ' i = getA σ i

theorem reach_st {S : List Nat} (ha : agree S σ σ') (hc : ∀ i ∈ S, ∃ o, getA σ i = some o ∧ ∀ j ∈ o.ids, j ∈ S) :
    ∀ (n : Nat) (todo seen : List Nat), (∀ i ∈ todo, i ∈ S) → reach σ' n todo seen = reach σ n todo seen := by
  intro n
  induction n with
  | zero => intro todo seen _; rfl
  | succ n ih =>
    intro todo seen ht
    cases todo with
    | nil => rfl
    | cons i todo =>
      have hi := ht i List.mem_cons_self
      have htl : ∀ j ∈ todo, j ∈ S := fun j hj => ht j (List.mem_cons_of_mem _ hj)
      simp only [reach]
      rw [ha i hi]
      obtain ⟨o, ho, hids⟩ := hc i hi
      rw [ho]
      cases seen.elem i
      · simp only [cond_false]
        exact ih _ _ fun j hj => by
          rcases List.mem_append.1 hj with h | h
          · exact hids j h
          · exact htl j h
      · exact ih _ _ htl

theorem renSt_st (full : List Nat) : ∀ (ren : List Nat) (k : Nat), agree ren σ σ' → renSt σ' full k ren = renSt σ full k ren
  | [], _, _ => rfl
  | i :: r, k, h => by
    simp only [renSt, h i List.mem_cons_self]
    split
    · rw [renSt_st full r (k + 1) fun j hj => h j (List.mem_cons_of_mem _ hj)]
    · exact renSt_st full r (k + 1) fun j hj => h j (List.mem_cons_of_mem _ hj)

theorem backOb_st {full : List Nat} {τ : St} : ∀ (ren : List Nat) (k : Nat) {K : De → Option R}, agree ren σ σ' → backOb full σ' τ k ren K = backOb full σ τ k ren K
  | [], _, _, _ => rfl
  | i :: r, k, K, h => by
    have e : ∀ K : De → Option R, backOb full σ' τ (k + 1) r K = backOb full σ τ (k + 1) r K := fun K => backOb_st r (k + 1) fun j hj => h j (List.mem_cons_of_mem _ hj)
    simp only [backOb, h i List.mem_cons_self, e]

theorem all_congr' {α : Type} {l : List α} {f g : α → Bool} (h : ∀ x ∈ l, f x = g x) : l.all f = l.all g := by
  induction l with
  | nil => rfl
  | cons a l ih => simp only [List.all_cons]; rw [h a List.mem_cons_self, ih fun x hx => h x (List.mem_cons_of_mem _ hx)]

theorem closedIn_st {args : List V} {ren : List Nat} (h : agree ren σ σ') : closedIn σ' args ren = closedIn σ args ren := by
  unfold closedIn
  congr 1
  exact all_congr' fun i hi => by rw [h i hi]

abbrev Tri := Oc × De × List Nat

theorem callV_st {call : Nat → List V → St → Option (Out × St)} {t f : Nat} {args : List V} {p : Tri} (h : callV cx call σ t f args (fun oc δ fp => some (oc, δ, fp)) = some p) (ha : agree p.2.2 σ σ') :
    callV cx call σ' t f args (fun oc δ fp => some (oc, δ, fp)) = some p := by
  have hfp : reach σ 1000 (V.idsL args) [] = p.2.2 := by
    unfold callV at h
    obtain ⟨_, h⟩ := must_some h
    obtain ⟨_, h⟩ := must_some h
    split at h
    · obtain ⟨δ, h1, _⟩ := backOb_ok _ _ h
      obtain ⟨u, h2, _⟩ := castOut_ok h1
      cases h2; rfl
    · obtain ⟨δ, h1, _⟩ := backOb_ok _ _ h
      cases h1; rfl
    · cases h
  unfold callV at h ⊢
  simp only [hfp] at h ⊢
  obtain ⟨hc, h⟩ := must_some h
  obtain ⟨_, hargs, hcl⟩ := closedIn_spec hc
  obtain ⟨hdom, h⟩ := must_some h
  rw [reach_st ha hcl 1000 _ _ hargs, hfp, closedIn_st ha, hc, hdom]
  simp only [renSt_st _ _ _ ha, backOb_st _ _ ha]
  exact h

theorem freshAll_st : ∀ {δ : De}, agree (δ.map (·.1)) σ σ' → freshAll σ' δ = freshAll σ δ
  | [], _ => rfl
  | (i, o) :: δ, h => by
    simp only [freshAll]
    rw [h i (by simp), freshAll_st (δ := δ) fun j hj => h j (by simp at hj ⊢; exact .inr hj)]

theorem freshAll_st1 {i : Nat} {o : Ob} (h : getA σ' i = getA σ i) : freshAll σ' [(i, o)] = freshAll σ [(i, o)] := freshAll_st (by intro j hj; simp at hj; subst hj; exact h)

theorem loadV_st {t : Nat} {q : V} {p : Tri} (h : loadV cx σ t q (fun v fp => some (Oc.val v, ([] : De), fp)) = some p) (ha : agree p.2.2 σ σ') :
    loadV cx σ' t q (fun v fp => some (Oc.val v, ([] : De), fp)) = some p := by
  cases q with
  | ptr id off =>
    have : getA σ' id = getA σ id := by
      refine ha id ?_
      unfold loadV at h
      obtain ⟨_, h⟩ := must_some h
      simp only at h
      split at h
      · cases hb : (Nat.beq off 0 && Nat.beq _ (cx.P.cellsOf t)) <;> rw [hb] at h
        · rw [cond_false] at h
          cases ha : aggTy cx.P t <;> rw [ha] at h
          · obtain ⟨c, _, h⟩ := nthV_some h
            obtain ⟨u, h, _⟩ := castV_any h
            cases h; simp
          · obtain ⟨_, h⟩ := must_some h
            cases h; simp
        · obtain ⟨u, h, _⟩ := castV_any h
          cases h; simp
      · obtain ⟨c, _, h⟩ := nthD_some h
        obtain ⟨u, h, _⟩ := castV_any (v := .d c) (K := fun v => some (Oc.val v, ([] : De), [id])) (by simpa only [castV] using h)
        cases h; simp
      · cases h
    unfold loadV at h ⊢
    simp only [this]
    exact h
  | _ => exact h

theorem storeV_st {t : Nat} {q v : V} {p : Tri} (h : storeV cx σ t q v (fun δ fp => some (Oc.val undefV, δ, fp)) = some p) (ha : agree p.2.2 σ σ') :
    storeV cx σ' t q v (fun δ fp => some (Oc.val undefV, δ, fp)) = some p := by
  cases q with
  | ptr id off =>
    have : getA σ' id = getA σ id := by
      refine ha id ?_
      unfold storeV at h
      simp only at h
      split at h
      · cases hb : (Nat.beq off 0 && Nat.beq _ (cx.P.cellsOf t)) <;> rw [hb] at h
        · rw [cond_false] at h
          obtain ⟨_, h⟩ := must_some h
          cases h; simp
        · obtain ⟨_, h⟩ := must_some h
          cases h; simp
      · split at h
        · cases h
        · obtain ⟨_, h⟩ := must_some h
          cases h; simp
        · cases h
      · cases h
    unfold storeV at h ⊢
    simp only [this]
    exact h
  | _ => exact h

theorem lenV_st {t : Nat} {x : V} {p : Tri} (h : lenV cx σ t x (fun v fp => some (Oc.val v, ([] : De), fp)) = some p) (ha : agree p.2.2 σ σ') :
    lenV cx σ' t x (fun v fp => some (Oc.val v, ([] : De), fp)) = some p := by
  unfold lenV at h ⊢
  split at h <;> first | exact h | skip
  split at h
  · rename_i ks vs hg
    cases h
    have : getA σ' _ = getA σ _ := ha _ List.mem_cons_self
    rw [this, hg]
  · cases h

theorem appendV_st {site t : Nat} {s x : V} {b : Bool} {p : Tri} (h : appendV cx σ site t s x b (fun v δ fp => some (Oc.val v, δ, fp)) = some p) (ha : agree p.2.2 σ σ') :
    appendV cx σ' site t s x b (fun v δ fp => some (Oc.val v, δ, fp)) = some p := by
  unfold appendV at h ⊢
  split at h <;> first | (cases h; done) | skip
  unfold dataOf at h ⊢
  split at h <;> first | (cases h; done) | skip
  all_goals
    obtain ⟨hc, h⟩ := must_some h
    simp only [hc, must, cond_true]
    cases b
    · simp only [cond_false] at h ⊢
      split at h
      · rename_i id _
        split at h
        · rename_i n hg
          obtain ⟨hc2, h⟩ := must_some h
          cases h
          have : getA σ' _ = getA σ _ := ha _ List.mem_cons_self
          rw [this, hg]
          simp only [hc2, cond_true]
        · cases h
      · cases h
    · simp only [cond_true] at h ⊢
      obtain ⟨hc2, h⟩ := must_some h
      cases h
      rw [freshAll_st1 (ha _ List.mem_cons_self), hc2]
      rfl

theorem bound_nat {v : Option V} {y d : Nat} {K : Nat → Option R} {r : R} (h : bound v y d K = some r) : ∃ n, K n = some r ∧ ∀ (R' : Type) (K' : Nat → Option R'), bound v y d K' = K' n := by
  unfold bound at h ⊢
  split at h
  · exact ⟨_, h, fun _ _ => rfl⟩
  · obtain ⟨hc, h⟩ := must_some h
    exact ⟨_, h, fun _ _ => by simp only [hc, must, cond_true]⟩
  · cases h

theorem sliceV_st {site t : Nat} {x : V} {lo hi mx : Option V} {p : Tri} (h : sliceV cx σ site t x lo hi mx (fun v δ fp => some (Oc.val v, δ, fp)) = some p) (ha : agree p.2.2 σ σ') :
    sliceV cx σ' site t x lo hi mx (fun v δ fp => some (Oc.val v, δ, fp)) = some p := by
  unfold sliceV at h ⊢
  split at h <;> first | exact h | skip
  obtain ⟨h1, h⟩ := must_some h
  simp only [h1, must, cond_true]
  unfold dataS at h ⊢
  split at h <;> first | (cases h; done) | skip
  all_goals
    obtain ⟨h2, h⟩ := must_some h
    simp only [h2, must, cond_true]
    split at h <;> first | exact h | skip
    obtain ⟨h3, h⟩ := must_some h
    simp only [h3, must, cond_true]
    obtain ⟨n1, h, e1⟩ := bound_nat h
    obtain ⟨n2, h, e2⟩ := bound_nat h
    obtain ⟨n3, h, e3⟩ := bound_nat h
    rw [e1, e2, e3]
    cases hb : Nat.beq n1 n3 <;> rw [hb] at h
    · exact h
    · rw [cond_true] at h ⊢
      obtain ⟨h4, h⟩ := must_some h
      cases h
      rw [freshAll_st1 (ha _ List.mem_cons_self), h4]
      rfl

theorem opdO_nat {fr : Fr} {x : Option Operand} {K : Option V → Option R} {r : R} (h : opdO fr x K = some r) : ∃ v, K v = some r ∧ ∀ (R' : Type) (K' : Option V → Option R'), opdO fr x K' = K' v := by
  unfold opdO at h ⊢
  split at h
  · exact ⟨_, h, fun _ _ => rfl⟩
  · obtain ⟨v, hv, h⟩ := optK_some h
    exact ⟨_, h, fun _ _ => by simp only [hv, optK]⟩

theorem evOp_st {m nt : Nat} {call : Nat → List V → St → Option (Out × St)} {o : Oper} {fr : Fr} {p : Tri} (h : evOp1 cx m nt call o fr σ = some p) (ha : agree p.2.2 σ σ') :
    evOp1 cx m nt call o fr σ' = some p := by
  unfold evOp1 at h ⊢
  obtain ⟨dst, op, type, pos, after, guard⟩ := o
  cases op
  case makeFunc fn first caps => cases fn <;> exact h
  case makeMap t r =>
    cases r <;> simp only [evOp] at h ⊢
    · obtain ⟨hc, h⟩ := must_some h
      cases h
      rw [freshAll_st1 (ha _ List.mem_cons_self), hc]
      rfl
    · cases h
  case move x | assign x =>
    simp only [evOp] at h ⊢
    split at h <;> first | exact h | skip
    split at h <;> first | exact h | skip
    split at h
    · rename_i hg
      cases h
      rw [ha _ List.mem_cons_self, hg]
    · rename_i hg
      cases h
      rw [ha _ List.mem_cons_self, hg]
  case alloc e =>
    simp only [evOp] at h ⊢
    obtain ⟨z, hz, h⟩ := optK_some h
    simp only [hz, optK]
    obtain ⟨hc, h⟩ := must_some h
    cases h
    rw [freshAll_st ha, hc]
    rfl
  case box e x =>
    simp only [evOp] at h ⊢
    obtain ⟨z, hz, h⟩ := optK_some h
    simp only [hz, optK]
    obtain ⟨hc, h⟩ := must_some h
    cases h
    rw [freshAll_st1 (ha _ List.mem_cons_self), hc]
    rfl
  case buildSlice t n ps =>
    simp only [evOp] at h ⊢
    split at h
    · obtain ⟨z, hz, h⟩ := optK_some h
      obtain ⟨l, hl, h⟩ := optK_some h
      obtain ⟨xs, hx, h⟩ := optK_some h
      obtain ⟨hc, h⟩ := must_some h
      cases h
      simp only [hz, hl, hx, optK]
      rw [freshAll_st1 (ha _ List.mem_cons_self), hc]
      rfl
    · cases h
  case load t q =>
    simp only [evOp] at h ⊢
    obtain ⟨z, hz, h⟩ := optK_some h
    simp only [hz, optK]
    exact loadV_st h ha
  case store t q x =>
    simp only [evOp] at h ⊢
    obtain ⟨z, hz, h⟩ := optK_some h
    obtain ⟨v, hv, h⟩ := optK_some h
    obtain ⟨hc, h⟩ := must_some h
    simp only [hz, hv, hc, optK, must, cond_true]
    exact storeV_st h ha
  case convert s t x =>
    simp only [evOp] at h ⊢
    obtain ⟨v, hv, h⟩ := optK_some h
    simp only [hv, optK]
    split at h
    · split at h
      · rename_i hu hg
        obtain ⟨hc, h⟩ := must_some h
        cases h
        rw [hu, ha _ List.mem_cons_self, hg]
        simp only [hc, must, cond_true]
      · cases h
    · rename_i hno
      exact h
  case slice t x lo hi mx =>
    simp only [evOp] at h ⊢
    obtain ⟨v, hv, h⟩ := optK_some h
    simp only [hv, optK]
    obtain ⟨v1, h, e1⟩ := opdO_nat h
    obtain ⟨v2, h, e2⟩ := opdO_nat h
    obtain ⟨v3, h, e3⟩ := opdO_nat h
    rw [e1, e2, e3]
    exact sliceV_st h ha
  case call c =>
    obtain ⟨callee, cargs, ctypes⟩ := c
    cases callee with
    | value f =>
      simp only [evOp] at h ⊢
      obtain ⟨v, hv, h⟩ := optK_some h
      simp only [hv, optK]
      split at h
      · obtain ⟨l, hl, h⟩ := optK_some h
        simp only [hl]
        exact callV_st h ha
      · cases h
    | invoke r nm => exact h
    | builtin b =>
      cases b <;> first | exact h | skip
      · simp only [evOp] at h ⊢
        split at h
        · obtain ⟨v, hv, h⟩ := optK_some h
          obtain ⟨u, hu, h⟩ := optK_some h
          obtain ⟨hc, h⟩ := must_some h
          simp only [hv, hu, optK, hc, must, cond_true]
          exact appendV_st h ha
        · cases h
      · simp only [evOp] at h ⊢
        split at h
        · obtain ⟨v, hv, h⟩ := optK_some h
          simp only [hv, optK]
          exact lenV_st h ha
        · cases h
  all_goals exact h

end
end Go.Vai
end

section
namespace Go.Vai

section
variable {R : Type} {cx : Cx} {w : World} {σ σ' : St} {μ : Mu}

/-- Worlds told in other words. -/
def sameSt (σ σ' : St) : Prop := ∀ i, getA σ' i = getA σ i

theorem sameSt.own (h : sameSt σ σ') : OwnOf σ' μ = OwnOf σ μ := by
  funext b i
  simp only [OwnOf, Mine, h _]

theorem sameSt.after (h : sameSt σ σ') (hi : Inv cx w σ μ) : After cx w σ μ w σ' μ := by
  have hown := h.own (μ := μ)
  have hst : Stays w (OwnOf σ μ) w (OwnOf σ' μ) := by rw [hown]; exact Stays.refl _ _
  have hstill : ∀ id o, getA σ id = some o → stillOb μ id o μ (getA σ' id) := fun id o ho => by rw [h id, ho]; exact stillOb.refl μ id o
  have rv : ∀ v x, RV w σ μ v x → RV w σ' μ v x := fun v x hv => hv.stays hst fun id _ o ho => hstill id o ho
  have hm : Mine σ' μ = Mine σ μ := by funext b i; simp only [Mine, h _]
  refine ⟨⟨fun id o ho => ?_, fun id id' o o' b i ho ho' => hi.apart id id' o o' b i (h id ▸ ho) (h id' ▸ ho'), by rw [hown]; exact hi.glob, fun id o b i ho => hi.frame id o b i (h id ▸ ho), hi.frLt, hi.frMap⟩, ⟨⟨rfl, rfl, Nat.le_refl _, fun _ _ _ => rfl, fun _ _ _ _ h => h⟩, fun b i _ ho => by rw [hm] at ho; exact ho, rfl⟩, hstill, rfl⟩
  have hok := hi.ob id o (h id ▸ ho)
  cases o with
  | val n v =>
    obtain ⟨b, cs, el, hb, hh, hn, ht, h1, hr⟩ := hok
    exact ⟨b, cs, el, hb, hh, hn, ht, h1, hr.map fun v x _ => rv v x⟩
  | row l =>
    obtain ⟨b, cs, el, hb, hh, h1, hr⟩ := hok
    exact ⟨b, cs, el, hb, hh, h1, hr.stays hst⟩
  | tok n => exact hok
  | map ks vs =>
    obtain ⟨b, es, clock, hb, hh, hk, hv⟩ := hok
    exact ⟨b, es, clock, hb, hh, hk.stays hst, hv.stays hst⟩

/-- What came of an operation. -/
inductive Res where
  | dep
  | off
  | val (v : V) (δ : De) (fp : List Nat)
  | pan (v : V) (δ : De) (fp : List Nat)

structure It where
  i : Nat
  o : Oper
  res : Res

/-- The slot written. -/
def It.wf (t : It) : Option (Nat × V) :=
  match t.res with
  | .off => t.o.dst.map fun d => (d, undefV)
  | .val v _ _ => t.o.dst.map fun d => (d, v)
  | _ => none

def It.ws (t : It) : De :=
  match t.res with
  | .val _ δ _ | .pan _ δ _ => δ
  | _ => []

def It.rf (ops : List Oper) (t : It) : List Nat :=
  match t.res with
  | .dep => []
  | _ => looks ops t.o

def It.rs (t : It) : List Nat :=
  match t.res with
  | .val _ _ fp | .pan _ _ fp => fp
  | _ => []

def It.nextF (t : It) (fr : Fr) : Fr := match t.wf with | some p => p :: fr | none => fr
def It.nextS (t : It) (σ : St) : St := applyDe σ t.ws

/-- The operation comes out so. -/
def Good (cx : Cx) (m nt : Nat) (call : Nat → List V → St → Option (Out × St)) (ops : List Oper) (fr : Fr) (σ : St) (t : It) : Prop :=
  match t.res with
  | .dep => True
  | .off => wants ops t.o fr = some false
  | .val v δ fp => wants ops t.o fr = some true ∧ evOp1 cx m nt call t.o fr σ = some (.val v, δ, fp)
  | .pan v δ fp => wants ops t.o fr = some true ∧ evOp1 cx m nt call t.o fr σ = some (.pan v, δ, fp)

/-- Two that may change places. -/
structure Comm (ops : List Oper) (a b : It) : Prop where
  ab : ∀ p, a.wf = some p → p.1 ∉ b.rf ops
  ba : ∀ p, b.wf = some p → p.1 ∉ a.rf ops
  ff : ∀ p q, a.wf = some p → b.wf = some q → p.1 ≠ q.1
  sab : ∀ i ∈ a.ws.map (·.1), i ∉ b.rs ∧ i ∉ b.ws.map (·.1)
  sba : ∀ i ∈ b.ws.map (·.1), i ∉ a.rs ∧ i ∉ a.ws.map (·.1)

variable {m nt : Nat} {call : Nat → List V → St → Option (Out × St)} {ops : List Oper}

theorem opd_same {fr fr' : Fr} {x : Operand} (h : ∀ t, x = .tmp t → getA fr' t = getA fr t) : opd fr' x = opd fr x := by
  cases x <;> first | rfl | exact h _ rfl

theorem looks_op {o : Oper} {x : Operand} (hx : x ∈ o.op.operands) {t : Nat} (ht : x = .tmp t) : t ∈ looks ops o := by
  subst ht
  exact List.mem_append_left _ (List.mem_filterMap.2 ⟨.tmp t, by simpa using hx, rfl⟩)

theorem wants_same {o : Oper} {fr fr' : Fr} (h : ∀ t ∈ looks ops o, getA fr' t = getA fr t) : wants ops o fr' = wants ops o fr := by
  unfold wants
  split
  · rfl
  · rename_i j want hg
    split
    · rfl
    · rename_i t ht
      rw [h t (List.mem_append_right _ (by simp [hg, ht]))]

theorem Good.same {fr fr' : Fr} {t : It} (h : Good cx m nt call ops fr σ t) (hf : ∀ s ∈ t.rf ops, getA fr' s = getA fr s) (hs : agree t.rs σ σ') : Good cx m nt call ops fr' σ' t := by
  unfold Good at h ⊢
  obtain ⟨i, o, res⟩ := t
  have key : ∀ p : Tri, (∀ s ∈ looks ops o, getA fr' s = getA fr s) → evOp1 cx m nt call o fr σ = some p → agree p.2.2 σ σ' → evOp1 cx m nt call o fr' σ' = some p := fun p hl h1 h2 => by
    have : evOp1 cx m nt call o fr' σ' = evOp1 cx m nt call o fr σ' := evOp_fr fun x hx => opd_same fun t ht => hl t (looks_op hx ht)
    rw [this]
    exact evOp_st h1 h2
  cases res with
  | dep => trivial
  | off => exact (wants_same hf).trans h
  | val v δ fp => exact ⟨(wants_same hf).trans h.1, key _ hf h.2 hs⟩
  | pan v δ fp => exact ⟨(wants_same hf).trans h.1, key _ hf h.2 hs⟩

theorem nextF_get (t : It) (fr : Fr) (s : Nat) : getA (t.nextF fr) s = match t.wf with | some p => if p.1 = s then some p.2 else getA fr s | none => getA fr s := by
  unfold It.nextF
  cases t.wf with
  | none => rfl
  | some p =>
    obtain ⟨d, v⟩ := p
    simp only [getA]
    by_cases h : d = s
    · subst h; simp
    · simp [h, beqF h]

theorem nextF_not {t : It} {fr : Fr} {s : Nat} (h : ∀ p, t.wf = some p → p.1 ≠ s) : getA (t.nextF fr) s = getA fr s := by
  rw [nextF_get]
  cases hw : t.wf with
  | none => rfl
  | some p => simp [h p hw]

theorem nextS_not {t : It} {s : Nat} (h : s ∉ t.ws.map (·.1)) : getA (t.nextS σ) s = getA σ s := getA_applyDe_not h

theorem applyDe_same {δ : De} : ∀ {σ σ' : St} {i : Nat}, i ∈ δ.map (·.1) ∨ getA σ' i = getA σ i → getA (applyDe σ' δ) i = getA (applyDe σ δ) i := by
  induction δ with
  | nil => intro σ σ' i h; rcases h with h | h; · simp at h
           exact h
  | cons p δ ih =>
    intro σ σ' i h
    obtain ⟨j, o⟩ := p
    simp only [applyDe]
    refine ih ?_
    by_cases hj : j = i
    · right; subst hj; simp [getA_putA]
    · simp only [List.map_cons, List.mem_cons] at h
      rcases h with (h | h) | h
      · exact absurd h.symm hj
      · exact .inl h
      · right; simp [getA_putA, hj, h]

theorem nextS_same {t : It} (h : sameSt σ σ') : sameSt (t.nextS σ) (t.nextS σ') := fun i => applyDe_same (.inr (h i))
theorem nextF_same {t : It} {fr fr' : Fr} (h : sameFr fr fr') : sameFr (t.nextF fr) (t.nextF fr') := fun i => by rw [nextF_get, nextF_get]; split <;> simp [h i]

theorem Comm.swapF {a b : It} (h : Comm ops a b) (fr : Fr) : sameFr (b.nextF (a.nextF fr)) (a.nextF (b.nextF fr)) := fun i => by
  rw [nextF_get, nextF_get, nextF_get, nextF_get]
  cases ha : a.wf with
  | none => rfl
  | some p =>
    cases hb : b.wf with
    | none => rfl
    | some q =>
      have := h.ff p q ha hb
      by_cases h1 : p.1 = i
      · have : q.1 ≠ i := fun e => this (h1.trans e.symm)
        simp [h1, this]
      · simp [h1]

theorem Comm.swapS {a b : It} (h : Comm ops a b) (σ : St) : sameSt (b.nextS (a.nextS σ)) (a.nextS (b.nextS σ)) := fun i => by
  by_cases ha : i ∈ a.ws.map (·.1)
  · have hb := (h.sab i ha).2
    rw [nextS_not (t := b) hb]
    exact applyDe_same (.inl ha)
  · rw [nextS_not (t := a) ha]
    by_cases hb : i ∈ b.ws.map (·.1)
    · exact (applyDe_same (.inl hb))
    · rw [nextS_not (t := b) hb, nextS_not (t := b) hb, nextS_not (t := a) ha]

/-- All that remains comes out so, in the text's order. -/
def Rem (cx : Cx) (m nt : Nat) (call : Nat → List V → St → Option (Out × St)) (ops : List Oper) : List It → Fr → St → Prop
  | [], _, _ => True
  | t :: L, fr, σ => Good cx m nt call ops fr σ t ∧ Rem cx m nt call ops L (t.nextF fr) (t.nextS σ)

def endF : List It → Fr → Fr
  | [], fr => fr
  | t :: L, fr => endF L (t.nextF fr)
def endS : List It → St → St
  | [], σ => σ
  | t :: L, σ => endS L (t.nextS σ)

theorem Rem.same : ∀ {L : List It} {fr fr' : Fr} {σ σ' : St}, Rem cx m nt call ops L fr σ → sameFr fr fr' → sameSt σ σ' → Rem cx m nt call ops L fr' σ'
  | [], _, _, _, _, _, _, _ => trivial
  | _ :: _, _, _, _, _, h, hf, hs => ⟨h.1.same (fun s _ => hf s) (fun i _ => hs i), Rem.same h.2 (nextF_same hf) (nextS_same hs)⟩

theorem endF_same : ∀ {L : List It} {fr fr' : Fr}, sameFr fr fr' → sameFr (endF L fr) (endF L fr')
  | [], _, _, h => h
  | t :: L, fr, fr', h => endF_same (L := L) (fr := t.nextF fr) (fr' := t.nextF fr') (nextF_same h)
theorem endS_same : ∀ {L : List It} {σ σ' : St}, sameSt σ σ' → sameSt (endS L σ) (endS L σ')
  | [], _, _, h => h
  | t :: L, σ, σ', h => endS_same (L := L) (σ := t.nextS σ) (σ' := t.nextS σ') (nextS_same h)

theorem sameFr.trans {a b c : Fr} (h : sameFr a b) (h' : sameFr b c) : sameFr a c := fun t => (h' t).trans (h t)
theorem sameSt.trans {a b c : St} (h : sameSt a b) (h' : sameSt b c) : sameSt a c := fun t => (h' t).trans (h t)
theorem sameSt.refl (a : St) : sameSt a a := fun _ => rfl

/-- One of those that remain comes first. -/
theorem Rem.pull {b : It} {B : List It} : ∀ {A : List It} {fr : Fr} {σ : St}, Rem cx m nt call ops (A ++ b :: B) fr σ → (∀ a ∈ A, Comm ops a b) →
    Good cx m nt call ops fr σ b ∧ Rem cx m nt call ops (A ++ B) (b.nextF fr) (b.nextS σ) ∧ sameFr (endF (A ++ b :: B) fr) (endF (A ++ B) (b.nextF fr)) ∧ sameSt (endS (A ++ b :: B) σ) (endS (A ++ B) (b.nextS σ))
  | [], fr, σ, h, _ => ⟨h.1, h.2, sameFr.refl _, sameSt.refl _⟩
  | a :: A, fr, σ, h, hc => by
    have hab := hc a List.mem_cons_self
    obtain ⟨h1, h2⟩ := h
    obtain ⟨g1, g2, g3, g4⟩ := Rem.pull h2 fun x hx => hc x (List.mem_cons_of_mem _ hx)
    have gb : Good cx m nt call ops fr σ b := g1.same (fun s hs => (nextF_not fun p hp e => hab.ab p hp (e ▸ hs)).symm) (fun i hi => (nextS_not fun hm => (hab.sab i hm).1 hi).symm)
    have ga : Good cx m nt call ops (b.nextF fr) (b.nextS σ) a := h1.same (fun s hs => nextF_not fun p hp e => hab.ba p hp (e ▸ hs)) (fun i hi => nextS_not fun hm => (hab.sba i hm).1 hi)
    exact ⟨gb, ⟨ga, g2.same (hab.swapF fr) (hab.swapS σ)⟩, g3.trans (endF_same (hab.swapF fr)), g4.trans (endS_same (hab.swapS σ))⟩

end
end Go.Vai
end

section
namespace Go.Vai

section
variable {R : Type} {cx : Cx}

theorem pres_pre : ∀ (ops : List Oper) (acc : List Nat) (i : Nat), i < acc.length → (pres ops acc).getD i 0 = acc.getD i 0
  | [], _, _, _ => rfl
  | o :: r, acc, i, h => by
    simp only [pres]
    rw [pres_pre r _ i (by simp; omega)]
    simp [List.getD_eq_getElem?_getD, List.getElem?_append_left h]

theorem presFold {acc : List Nat} {k : Nat} : ∀ (es : List Edge) (s : Nat),
    (es.foldl (fun s e => bif Region.binds .any e then s ||| 2 ^ e.on ||| acc.getD e.on 0 else s) s).testBit k = true →
    s.testBit k = true ∨ ∃ e ∈ es, Region.binds .any e = true ∧ (k = e.on ∨ (acc.getD e.on 0).testBit k = true)
  | [], s, h => .inl h
  | e :: es, s, h => by
    simp only [List.foldl_cons] at h
    rcases presFold es _ h with h | ⟨e', he', h⟩
    · cases hb : Region.binds .any e <;> rw [hb] at h
      · exact .inl h
      · simp only [cond_true, Nat.testBit_or, Bool.or_eq_true] at h
        rcases h with (h | h) | h
        · exact .inl h
        · refine .inr ⟨e, List.mem_cons_self, hb, .inl ?_⟩
          rw [Nat.testBit_two_pow] at h
          simpa [eq_comm] using h
        · exact .inr ⟨e, List.mem_cons_self, hb, .inr h⟩
    · exact .inr ⟨e', List.mem_cons_of_mem _ he', h⟩

theorem pres_spec : ∀ (ops : List Oper) (acc : List Nat) (i k : Nat), acc.length ≤ i → preHas (pres ops acc) i k = true →
    ∃ o e, ops[i - acc.length]? = some o ∧ e ∈ o.after.toList ∧ Region.binds .any e = true ∧ (k = e.on ∨ preHas (pres ops acc) e.on k = true)
  | [], acc, i, k, hi, h => by
    simp only [pres, preHas, List.getD_eq_getElem?_getD, List.getElem?_eq_none hi] at h
    simp at h
  | o :: r, acc, i, k, hi, h => by
    simp only [pres] at h ⊢
    by_cases he : i = acc.length
    · subst he
      have h0 := h
      simp only [preHas] at h
      rw [pres_pre r _ _ (by simp)] at h
      simp only [List.getD_eq_getElem?_getD, List.getElem?_concat_length, Option.getD_some] at h
      rcases presFold _ _ h with h | ⟨e, he, hb, h⟩
      · simp at h
      · refine ⟨o, e, by simp, he, hb, h.imp id fun h => ?_⟩
        by_cases hlt : e.on < acc.length
        · simp only [preHas]
          rw [pres_pre r _ _ (by simp; omega)]
          simpa [List.getD_eq_getElem?_getD, List.getElem?_append_left hlt] using h
        · simp [List.getD_eq_getElem?_getD, List.getElem?_eq_none (Nat.le_of_not_lt hlt)] at h
    · obtain ⟨o', e, h1, h2⟩ := pres_spec r (acc ++ [_]) i k (by simp; omega) h
      refine ⟨o', e, ?_, h2⟩
      have : i - acc.length = (i - (acc ++ [o.after.toList.foldl (fun s e => bif Region.binds .any e then s ||| 2 ^ e.on ||| acc.getD e.on 0 else s) 0]).length) + 1 := by simp; omega
      rw [this, List.getElem?_cons_succ]
      exact h1

def isPan (t : It) : Prop := match t.res with | .pan .. => True | _ => False

def logOf (t : It) : Log := ⟨t.i, t.ws.map (·.1) ++ t.rs, t.ws.map (·.1)⟩

variable {m nt : Nat} {call : Nat → List V → St → Option (Out × St)} {w₀ : World} {σ₀ : St} {μ₀ : Mu}

def lis (listed : Array Bool) (i : Nat) : Prop := listed.getD i false = true

theorem lis_set {listed : Array Bool} {i j : Nat} (hi : i < listed.size) : lis (listed.setIfInBounds i true) j ↔ j = i ∨ lis listed j := by
  unfold lis
  by_cases h : i = j
  · subst h; simp [Array.getD_eq_getD_getElem?, hi]
  · simp [Array.getD_eq_getD_getElem?, Array.getElem?_setIfInBounds_ne h, Ne.symm h]

theorem any_ok (hcall : CallOk cx call) (hn : noRoutines cx.P) {arr : Array Oper} {K : Ex → Fr → St → Option R} {r : R}
    {Q : Exit → Act → World → Prop} {frE : Fr} {σE : St}
    (hQ : ∀ e fr σ, K e fr σ = some r → ∀ x a w μ, exits w σ μ e x → Now cx nt w₀ σ₀ μ₀ a w σ μ fr → Q x a w)
    (hedge : ∀ (j : Nat) o, arr.toList[j]? = some o → edgesOk j o = true) :
    ∀ (N : Nat) (L : List It) (listed : Array Bool) (fr : Fr) (σ : St) (a : Act) (w : World) (μ : Mu), L.length = N → listed.size = arr.size →
      (∀ t ∈ L, arr.toList[t.i]? = some t.o) → (∀ i, i < arr.size → (lis listed i ↔ ∀ t ∈ L, t.i ≠ i)) →
      L.Pairwise (fun a b => a.i < b.i ∧ (preHas (pres arr.toList []) b.i a.i = true ∨ Comm arr.toList a b)) →
      (∀ j k, lis listed j → preHas (pres arr.toList []) j k = true → lis listed k) →
      (∀ t ∈ L, t.res = .dep ∨ dstOk nt t.o.dst = true) →
      (∀ t ∈ L, t.res = .dep → ∃ t' ∈ L, isPan t' ∧ preHas (pres arr.toList []) t.i t'.i = true) →
      (∀ t ∈ L, ∀ v δ fp, t.res = .pan v δ fp → K (.pan v) [] σE = some r ∧ ∀ t' ∈ L, t'.ws = [] ∨ t'.i = t.i ∨ preHas (pres arr.toList []) t.i t'.i = true) →
      ((∃ t ∈ L, isPan t) ∨ K .normal frE σE = some r) →
      Rem cx m nt call arr.toList L fr σ → sameFr (endF L fr) frE → sameSt (endS L σ) σE →
      Now cx nt w₀ σ₀ μ₀ a w σ μ fr → wpAny cx.P .any arr Q N listed a w := by
  intro N
  induction N with
  | zero =>
    intro L listed fr σ a w μ hN hsz hops hlis hpair hclosed hdst hdep hpan hend hrem hF hS hnow
    obtain rfl := List.eq_nil_of_length_eq_zero hN
    have hK : K .normal frE σE = some r := hend.resolve_left (by simp)
    refine ⟨?_, ?_⟩
    · simp only [Region.ready, List.filter_eq_nil_iff, List.mem_range]
      intro i hi
      have : lis listed i := (hlis i hi).2 (by simp)
      have hi' : i < listed.size := by omega
      simp [lis, Array.getD_eq_getD_getElem?, hi'] at this ⊢
      simp [this]
    · have haf := hS.after hnow.after.inv
      exact hQ _ _ _ hK _ _ _ μ trivial ⟨hnow.after.trans haf, (haf.frs hnow.after.inv hnow.fr).same hF, hnow.size, hnow.defers⟩
  | succ N ih =>
    intro L listed fr σ a w μ hN hsz hops hlis hpair hclosed hdst hdep hpan hend hrem hF hS hnow
    refine ⟨fun hready => ?_, fun i hi => ?_⟩
    · -- something is always ready
      exfalso
      cases L with
      | nil => simp at hN
      | cons t L =>
        have ht := hops t List.mem_cons_self
        have hlt : t.i < arr.size := by have := (List.getElem?_eq_some_iff.1 ht).1; simpa using this
        have hnl : ¬ lis listed t.i := fun h => ((hlis t.i hlt).1 h) t List.mem_cons_self rfl
        have : t.i ∈ Region.ready .any arr listed := by
          simp only [Region.ready, List.mem_filter, List.mem_range]
          refine ⟨hlt, ?_⟩
          have h1 : arr[t.i]? = some t.o := by simpa using ht
          have h2 : listed.getD t.i true = false := by
            have hi' : t.i < listed.size := by omega
            simp [lis, Array.getD_eq_getD_getElem?, hi'] at hnl ⊢
            exact hnl
          simp only [h1, h2, Bool.not_false, Bool.true_and, Option.map_some, Option.getD_some]
          rw [← Array.all_toList, List.all_eq_true]
          intro e he
          have he2 := List.all_eq_true.1 (hedge t.i t.o ht) e he
          cases hb : Region.binds .any e
          · rfl
          · rw [hb] at he2
            have hlt2 : e.on < t.i := by simpa using he2
            have : lis listed e.on := (hlis e.on (by omega)).2 fun u hu hui => by
              rcases List.mem_cons.1 hu with rfl | hu
              · omega
              · have := (List.pairwise_cons.1 hpair).1 u hu
                omega
            simpa [lis] using this
        rw [hready] at this
        cases this
    · -- one that is ready
      simp only [Region.ready, List.mem_filter, List.mem_range, Bool.and_eq_true] at hi
      obtain ⟨hlt, hnl, haft⟩ := hi
      have hnl' : ¬ lis listed i := by
        have hi' : i < listed.size := by omega
        simp [lis, Array.getD_eq_getD_getElem?, hi'] at hnl ⊢
        exact hnl
      obtain ⟨b, hb, hbi⟩ : ∃ b ∈ L, b.i = i := Classical.byContradiction fun hne => hnl' ((hlis i hlt).2 fun t ht he => hne ⟨t, ht, he⟩)
      subst hbi
      obtain ⟨A, B, rfl⟩ := List.append_of_mem hb
      have hbo := hops b hb
      have hbo' : arr[b.i]? = some b.o := by simpa using hbo
      simp only [hbo', Option.map_some, Option.getD_some] at haft
      have hbefore : ∀ k, preHas (pres arr.toList []) b.i k = true → lis listed k := by
        intro k hk
        obtain ⟨o, e, h1, h2, h3, h4⟩ := pres_spec arr.toList [] b.i k (Nat.zero_le _) hk
        rw [List.length_nil, Nat.sub_zero, hbo] at h1
        cases h1
        rw [← Array.all_toList, List.all_eq_true] at haft
        have he := haft e h2
        rw [h3] at he
        have hl : lis listed e.on := by simpa [lis] using he
        rcases h4 with rfl | h4
        · exact hl
        · exact hclosed _ _ hl h4
      have hunl : ∀ t ∈ A ++ b :: B, ¬ lis listed t.i := fun t ht h => by
        have hto := hops t ht
        have hlt : t.i < arr.size := by have := (List.getElem?_eq_some_iff.1 hto).1; simpa using this
        exact (hlis t.i hlt).1 h t ht rfl
      have hpair' := hpair
      rw [List.pairwise_append] at hpair'
      obtain ⟨hpA, hpB, hpAB⟩ := hpair'
      rw [List.pairwise_cons] at hpB
      have hcomm : ∀ x ∈ A, Comm arr.toList x b := fun x hx =>
        ((hpAB x hx b List.mem_cons_self).2).resolve_left fun h => hunl x (List.mem_append_left _ hx) (hbefore _ h)
      obtain ⟨hg, hrem', hF', hS'⟩ := hrem.pull hcomm
      have hsub : ∀ t ∈ A ++ B, t ∈ A ++ b :: B := fun t ht => by
        rcases List.mem_append.1 ht with h | h
        · exact List.mem_append_left _ h
        · exact List.mem_append_right _ (List.mem_cons_of_mem _ h)
      have hne : ∀ t ∈ A ++ B, t.i ≠ b.i := fun t ht => by
        rcases List.mem_append.1 ht with h | h
        · have := (hpAB t h b List.mem_cons_self).1; omega
        · have := (hpB.1 t h).1; omega
      have hsz' : b.i < listed.size := by omega
      -- the rest, once this one is done
      have rest : ¬ isPan b → ∀ (a' : Act) (w' : World) (μ' : Mu), Now cx nt w₀ σ₀ μ₀ a' w' (b.nextS σ) μ' (b.nextF fr) → wpAny cx.P .any arr Q N (listed.setIfInBounds b.i true) a' w' := by
        intro hnp a' w' μ' hnow'
        refine ih (A ++ B) _ _ _ a' w' μ' ?_ (by simpa using hsz) (fun t ht => hops t (hsub t ht)) ?_ ?_ ?_ (fun t ht => hdst t (hsub t ht)) ?_ ?_ ?_ hrem' (fun s => (hF s).trans (hF' s).symm) (fun s => (hS s).trans (hS' s).symm) hnow'
        · simp at hN ⊢; omega
        · intro j hj
          rw [lis_set hsz', hlis j hj]
          constructor
          · rintro (rfl | h) t ht
            · exact hne t ht
            · exact h t (hsub t ht)
          · intro h
            by_cases hjb : j = b.i
            · exact .inl hjb
            · refine .inr fun t ht => ?_
              rcases List.mem_append.1 ht with h' | h'
              · exact h t (List.mem_append_left _ h')
              · rcases List.mem_cons.1 h' with rfl | h'
                · exact fun e => hjb e.symm
                · exact h t (List.mem_append_right _ h')
        · rw [List.pairwise_append]
          exact ⟨hpA, hpB.2, fun x hx y hy => hpAB x hx y (List.mem_cons_of_mem _ hy)⟩
        · intro j k hj hk
          rw [lis_set hsz'] at hj ⊢
          rcases hj with rfl | hj
          · exact .inr (hbefore k hk)
          · exact .inr (hclosed j k hj hk)
        · intro t ht htd
          obtain ⟨t', ht', hp, hpre⟩ := hdep t (hsub t ht) htd
          refine ⟨t', ?_, hp, hpre⟩
          rcases List.mem_append.1 ht' with h' | h'
          · exact List.mem_append_left _ h'
          · rcases List.mem_cons.1 h' with rfl | h'
            · exact (hnp hp).elim
            · exact List.mem_append_right _ h'
        · intro t ht v δ fp htp
          obtain ⟨h1, h2⟩ := hpan t (hsub t ht) v δ fp htp
          exact ⟨h1, fun t' ht' => h2 t' (hsub t' ht')⟩
        · refine hend.imp (fun ⟨t, ht, hp⟩ => ⟨t, ?_, hp⟩) id
          rcases List.mem_append.1 ht with h' | h'
          · exact List.mem_append_left _ h'
          · rcases List.mem_cons.1 h' with rfl | h'
            · exact (hnp hp).elim
            · exact List.mem_append_right _ h'
      unfold wpOp
      simp only [hbo']
      have hd := hdst b hb
      cases hres : b.res with
      | dep =>
        obtain ⟨t', ht', _, hpre⟩ := hdep b hb hres
        exact (hunl t' ht' (hbefore _ hpre)).elim
      | off =>
        have hd := hd.resolve_left (by rw [hres]; intro h; cases h)
        simp only [Good, hres] at hg
        rw [wants_ok rfl hnow.fr hg]
        simp only [Bool.false_eq_true, if_false]
        have e1 : b.nextF fr = putF fr b.o.dst undefV := by simp only [It.nextF, It.wf, hres, putF]; cases b.o.dst <;> rfl
        have e2 : b.nextS σ = σ := by simp only [It.nextS, It.ws, hres]; rfl
        refine rest (by simp [isPan, hres]) _ _ μ ?_
        rw [e1, e2]
        exact ⟨hnow.after, FR.put hnow.fr hd hnow.size undef_ok, by rw [put_size]; exact hnow.size, by rw [put_defers']; exact hnow.defers⟩
      | val v δ fp =>
        have hd := hd.resolve_left (by rw [hres]; intro h; cases h)
        simp only [Good, hres] at hg
        obtain ⟨hw, hev⟩ := hg
        rw [wants_ok rfl hnow.fr hw, if_pos rfl]
        left
        obtain ⟨oc, δ', fp', hK, hok⟩ := evOp_ok hcall hn hnow.after.inv hnow.fr hev
        cases hK
        refine hok _ _ ?_
        intro v' w' μ' haf hv
        have e1 : b.nextF fr = putF fr b.o.dst v := by simp only [It.nextF, It.wf, hres, putF]; cases b.o.dst <;> rfl
        have e2 : b.nextS σ = applyDe σ δ := by simp only [It.nextS, It.ws, hres]
        refine rest (by simp [isPan, hres]) _ _ μ' ?_
        rw [e1, e2]
        exact ⟨hnow.after.trans haf, FR.put (haf.frs hnow.after.inv hnow.fr) hd hnow.size hv, by rw [put_size]; exact hnow.size, by rw [put_defers']; exact hnow.defers⟩
      | pan v δ fp =>
        simp only [Good, hres] at hg
        obtain ⟨hw, hev⟩ := hg
        rw [wants_ok rfl hnow.fr hw, if_pos rfl]
        left
        obtain ⟨oc, δ', fp', hK, hok⟩ := evOp_ok hcall hn hnow.after.inv hnow.fr hev
        cases hK
        refine hok _ _ ?_
        intro x w' μ' haf hv
        obtain ⟨hKp, hws⟩ := hpan b hb v δ fp hres
        have e2 : b.nextS σ = applyDe σ δ := by simp only [It.nextS, It.ws, hres]
        have hquiet : ∀ (L : List It) (σ : St), (∀ t ∈ L, t.ws = []) → endS L σ = σ := by
          intro L
          induction L with
          | nil => intro σ _; rfl
          | cons t L ihL =>
            intro σ h
            simp only [endS]
            rw [ihL _ fun u hu => h u (List.mem_cons_of_mem _ hu)]
            simp only [It.nextS, h t List.mem_cons_self, applyDe]
        have hall : ∀ t ∈ A ++ B, t.ws = [] := fun t ht => by
          rcases hws t (hsub t ht) with h | h | h
          · exact h
          · exact (hne t ht h).elim
          · exact (hunl t (hsub t ht) (hbefore _ h)).elim
        have hsame : sameSt (applyDe σ δ) σE := by
          intro s
          rw [hS s, ← hS' s, hquiet _ _ hall, e2]
        have haf2 := hsame.after haf.inv
        exact hQ _ _ _ hKp _ _ _ μ' ⟨x, rfl, haf2.rv haf.inv hv⟩ ⟨(hnow.after.trans haf).trans haf2, FR.nil, hnow.size, hnow.defers⟩

end
end Go.Vai
end

section
namespace Go.Vai

section
variable {R : Type} {cx : Cx} {m nt : Nat} {call : Nat → List V → St → Option (Out × St)} {ops : List Oper}

theorem looks_guard {o : Oper} {fr fr' : Fr} (h : sameFr fr fr') : wants ops o fr' = wants ops o fr := wants_same fun t _ => h t

/-- The last words of a drawn region. -/
def Last (K : Ex → Fr → St → Option R) (r : R) (pre : List Nat) (log : List Log) (L : List It) (fr : Fr) (σ : St) : Option (Nat × V) → Prop
  | some (k, v) => (∀ t ∈ L, ¬ isPan t) ∧ (∀ t ∈ L, t.res = .dep → preHas pre t.i k = true) ∧ K (.pan v) [] (endS L σ) = some r ∧
      (∀ e ∈ log, e.w = [] ∨ e.i = k ∨ preHas pre k e.i = true) ∧ ∀ t ∈ L, t.ws = [] ∨ t.i = k ∨ preHas pre k t.i = true
  | none => ((∀ t ∈ L, ¬ isPan t) ∧ (∀ t ∈ L, t.res ≠ .dep) ∧ ∃ frE, sameFr (endF L fr) frE ∧ K .normal frE (endS L σ) = some r) ∨
      ∃ t₀ ∈ L, ∃ v δ fp, t₀.res = .pan v δ fp ∧ (∀ t ∈ L, isPan t → t = t₀) ∧ (∀ t ∈ L, t.res = .dep → preHas pre t.i t₀.i = true) ∧ K (.pan v) [] (endS L σ) = some r ∧
        (∀ e ∈ log, e.w = [] ∨ e.i = t₀.i ∨ preHas pre t₀.i e.i = true) ∧ ∀ t ∈ L, t.ws = [] ∨ t.i = t₀.i ∨ preHas pre t₀.i t.i = true

theorem meet_none {pre : List Nat} {e : Log} {i : Nat} : meetOk pre e ⟨i, [], []⟩ = true := by simp [meetOk, disj]
theorem meet_none' {pre : List Nat} {e : Log} {i : Nat} : meetOk pre ⟨i, [], []⟩ e = true := by simp [meetOk, disj]

theorem isEmpty_eq {α : Type} {l : List α} (h : l.isEmpty = true) : l = [] := by simpa using h

theorem evDraw_items {pre : List Nat} {K : Ex → Fr → St → Option R} {r : R} :
    ∀ (l : List Oper) (i : Nat) (log : List Log) (dead : Option (Nat × V)) (fr : Fr) (σ : St), ops.drop i = l → (∀ k v, dead = some (k, v) → k < i) →
      evDraw cx m nt call ops pre i l log dead fr σ K = some r →
      ∃ L : List It, (∀ t ∈ L, i ≤ t.i ∧ ops[t.i]? = some t.o) ∧ (∀ j, i ≤ j → j < ops.length → ∃ t ∈ L, t.i = j) ∧ L.Pairwise (fun a b => a.i < b.i ∧ meetOk pre (logOf a) (logOf b) = true) ∧
        (∀ e ∈ log, ∀ t ∈ L, meetOk pre e (logOf t) = true) ∧ (∀ t ∈ L, t.res = .dep ∨ dstOk nt t.o.dst = true) ∧ Rem cx m nt call ops L fr σ ∧ Last K r pre log L fr σ dead ∧ L.length + i = max i ops.length := by
  intro l
  induction l with
  | nil =>
    intro i log dead fr σ hl hk h
    have hlen : ops.length ≤ i := by have := congrArg List.length hl; simp at this; omega
    refine ⟨[], by simp, fun j h1 h2 => by omega, .nil, by simp, by simp, trivial, ?_, by simp; omega⟩
    cases dead with
    | none => exact .inl ⟨by simp, by simp, fr, sameFr.refl fr, h⟩
    | some p =>
      obtain ⟨k, v⟩ := p
      simp only [evDraw] at h
      obtain ⟨hc, h⟩ := must_some h
      refine ⟨by simp, by simp, h, fun e he => ?_, by simp⟩
      have := List.all_eq_true.1 hc e he
      simp only [Bool.or_eq_true] at this
      rcases this with (h | h) | h
      · exact .inl (isEmpty_eq h)
      · exact .inr (.inl (Nat.eq_of_beq_eq_true h))
      · exact .inr (.inr h)
  | cons o l ih =>
    intro i log dead fr σ hl hk h
    have hlt : i < ops.length := by have := congrArg List.length hl; simp at this; omega
    have ho : ops[i]? = some o := by
      have := congrArg (·[0]?) hl
      simpa using this
    have hrest : ops.drop (i + 1) = l := by rw [← List.drop_drop, hl]; rfl
    have hcover : ∀ {L : List It} {t : It}, t.i = i → (∀ j, i + 1 ≤ j → j < ops.length → ∃ t ∈ L, t.i = j) → ∀ j, i ≤ j → j < ops.length → ∃ u ∈ t :: L, u.i = j := by
      intro L t ht h j h1 h2
      by_cases hj : j = i
      · exact ⟨t, List.mem_cons_self, ht.trans hj.symm⟩
      · obtain ⟨u, hu, huj⟩ := h j (by omega) h2
        exact ⟨u, List.mem_cons_of_mem _ hu, huj⟩
    simp only [evDraw] at h
    cases hdep : deadDep pre i dead
    · rw [hdep, cond_false] at h
      obtain ⟨hd, h⟩ := must_some h
      obtain ⟨fr', hs, h⟩ := guardV_some h
      rcases h with ⟨hw, h⟩ | ⟨hw, h⟩
      · -- it runs
        obtain ⟨p, hp, h⟩ := optK_some h
        obtain ⟨hmeet, h⟩ := must_some h
        obtain ⟨oc, δ, fp⟩ := p
        have hfr : evOp1 cx m nt call o fr σ = some (oc, δ, fp) := by
          rw [← hp]
          unfold evOp1
          exact (evOp_fr fun x _ => opd_same fun t _ => hs t).symm
        cases oc with
        | val v =>
          simp only at h hmeet
          obtain ⟨L, h1, h2, h3, h4, h5, h6, h7, h8⟩ := ih (i + 1) _ dead _ _ hrest (fun k v hd => Nat.lt_succ_of_lt (hk k v hd)) h
          let t : It := ⟨i, o, .val v δ fp⟩
          have hlog : logOf t = ⟨i, δ.map (·.1) ++ fp, δ.map (·.1)⟩ := rfl
          have hsF : sameFr (t.nextF fr) (putF fr' o.dst v) := fun s => by
            rw [getA_putF, nextF_get, show t.wf = o.dst.map fun d => (d, v) from rfl]
            cases o.dst with
            | none => simp [hs s]
            | some d => simp [hs s]
          refine ⟨t :: L, ?_, hcover rfl h2, ?_, ?_, ?_, ⟨⟨hw, hfr⟩, h6.same (fun s => (hsF s).symm) (fun _ => rfl)⟩, ?_, by simp; omega⟩
          · intro u hu
            rcases List.mem_cons.1 hu with rfl | hu
            · exact ⟨Nat.le_refl _, ho⟩
            · exact ⟨by have := (h1 u hu).1; omega, (h1 u hu).2⟩
          · refine List.pairwise_cons.2 ⟨fun u hu => ⟨by have := (h1 u hu).1; show i < u.i; omega, ?_⟩, h3⟩
            exact h4 _ List.mem_cons_self u hu
          · intro e he u hu
            rcases List.mem_cons.1 hu with rfl | hu
            · exact List.all_eq_true.1 hmeet e he
            · exact h4 e (List.mem_cons_of_mem _ he) u hu
          · intro u hu
            rcases List.mem_cons.1 hu with rfl | hu
            · exact .inr hd
            · exact h5 u hu
          · have hws : t.ws = [] ↔ δ.map (·.1) = [] := by show δ = [] ↔ _; simp
            cases dead with
            | some q =>
              obtain ⟨k, u⟩ := q
              obtain ⟨g1, g2, g3, g4, g5⟩ := h7
              refine ⟨fun x hx => ?_, fun x hx hd => ?_, g3, fun e he => g4 e (List.mem_cons_of_mem _ he), fun x hx => ?_⟩
              · rcases List.mem_cons.1 hx with rfl | hx
                · exact fun h => h
                · exact g1 x hx
              · rcases List.mem_cons.1 hx with rfl | hx
                · cases hd
                · exact g2 x hx hd
              · rcases List.mem_cons.1 hx with rfl | hx
                · have := g4 _ List.mem_cons_self
                  rw [hws]; exact this
                · exact g5 x hx
            | none =>
              rcases h7 with ⟨g1, g2, frE, g3, g4⟩ | ⟨t₀, g1, v₀, δ₀, fp₀, g2, g3, g4, g5, g6, g7⟩
              · refine .inl ⟨fun x hx => ?_, fun x hx => ?_, frE, (endF_same hsF).trans g3, g4⟩
                · rcases List.mem_cons.1 hx with rfl | hx
                  · exact fun h => h
                  · exact g1 x hx
                · rcases List.mem_cons.1 hx with rfl | hx
                  · intro h; cases h
                  · exact g2 x hx
              · refine .inr ⟨t₀, List.mem_cons_of_mem _ g1, v₀, δ₀, fp₀, g2, fun x hx hp => ?_, fun x hx hd => ?_, g5, fun e he => g6 e (List.mem_cons_of_mem _ he), fun x hx => ?_⟩
                · rcases List.mem_cons.1 hx with rfl | hx
                  · exact hp.elim
                  · exact g3 x hx hp
                · rcases List.mem_cons.1 hx with rfl | hx
                  · cases hd
                  · exact g4 x hx hd
                · rcases List.mem_cons.1 hx with rfl | hx
                  · have := g6 _ List.mem_cons_self
                    rw [hws]; exact this
                  · exact g7 x hx
        | pan v =>
          cases dead with
          | some q => cases h
          | none =>
            simp only at h hmeet
            obtain ⟨L, h1, h2, h3, h4, h5, h6, h7, h8⟩ := ih (i + 1) _ (some (i, v)) _ _ hrest (fun k v hd => by cases hd; omega) h
            let t : It := ⟨i, o, .pan v δ fp⟩
            obtain ⟨g1, g2, g3, g4, g5⟩ := h7
            refine ⟨t :: L, ?_, hcover rfl h2, ?_, ?_, ?_, ⟨⟨hw, hfr⟩, h6.same (fun s => (hs s).symm) (fun _ => rfl)⟩, ?_, by simp; omega⟩
            · intro u hu
              rcases List.mem_cons.1 hu with rfl | hu
              · exact ⟨Nat.le_refl _, ho⟩
              · exact ⟨by have := (h1 u hu).1; omega, (h1 u hu).2⟩
            · refine List.pairwise_cons.2 ⟨fun u hu => ⟨by have := (h1 u hu).1; show i < u.i; omega, ?_⟩, h3⟩
              exact h4 _ List.mem_cons_self u hu
            · intro e he u hu
              rcases List.mem_cons.1 hu with rfl | hu
              · exact List.all_eq_true.1 hmeet e he
              · exact h4 e (List.mem_cons_of_mem _ he) u hu
            · intro u hu
              rcases List.mem_cons.1 hu with rfl | hu
              · exact .inr hd
              · exact h5 u hu
            · refine .inr ⟨t, List.mem_cons_self, v, δ, fp, rfl, fun x hx hp => ?_, fun x hx hd => ?_, g3, fun e he => g4 e (List.mem_cons_of_mem _ he), fun x hx => ?_⟩
              · rcases List.mem_cons.1 hx with rfl | hx
                · rfl
                · exact (g1 x hx hp).elim
              · rcases List.mem_cons.1 hx with rfl | hx
                · cases hd
                · exact g2 x hx hd
              · rcases List.mem_cons.1 hx with rfl | hx
                · exact .inr (.inl rfl)
                · exact g5 x hx
      · -- it is not wanted
        obtain ⟨L, h1, h2, h3, h4, h5, h6, h7, h8⟩ := ih (i + 1) _ dead _ _ hrest (fun k v hd => Nat.lt_succ_of_lt (hk k v hd)) h
        let t : It := ⟨i, o, .off⟩
        have hsF : sameFr (t.nextF fr) (putF fr' o.dst undefV) := fun s => by
          rw [getA_putF, nextF_get, show t.wf = o.dst.map fun d => (d, undefV) from rfl]
          cases o.dst with
          | none => simp [hs s]
          | some d => simp [hs s]
        refine ⟨t :: L, ?_, hcover rfl h2, ?_, ?_, ?_, ⟨hw, h6.same (fun s => (hsF s).symm) (fun _ => rfl)⟩, ?_, by simp; omega⟩
        · intro u hu
          rcases List.mem_cons.1 hu with rfl | hu
          · exact ⟨Nat.le_refl _, ho⟩
          · exact ⟨by have := (h1 u hu).1; omega, (h1 u hu).2⟩
        · exact List.pairwise_cons.2 ⟨fun u hu => ⟨by have := (h1 u hu).1; show i < u.i; omega, meet_none'⟩, h3⟩
        · intro e he u hu
          rcases List.mem_cons.1 hu with rfl | hu
          · exact meet_none
          · exact h4 e he u hu
        · intro u hu
          rcases List.mem_cons.1 hu with rfl | hu
          · exact .inr hd
          · exact h5 u hu
        · cases dead with
          | some q =>
            obtain ⟨k, u⟩ := q
            obtain ⟨g1, g2, g3, g4, g5⟩ := h7
            refine ⟨fun x hx => ?_, fun x hx hd => ?_, g3, g4, fun x hx => ?_⟩
            · rcases List.mem_cons.1 hx with rfl | hx
              · exact fun h => h
              · exact g1 x hx
            · rcases List.mem_cons.1 hx with rfl | hx
              · cases hd
              · exact g2 x hx hd
            · rcases List.mem_cons.1 hx with rfl | hx
              · exact .inl rfl
              · exact g5 x hx
          | none =>
            rcases h7 with ⟨g1, g2, frE, g3, g4⟩ | ⟨t₀, g1, v₀, δ₀, fp₀, g2, g3, g4, g5, g6, g7⟩
            · refine .inl ⟨fun x hx => ?_, fun x hx => ?_, frE, (endF_same hsF).trans g3, g4⟩
              · rcases List.mem_cons.1 hx with rfl | hx
                · exact fun h => h
                · exact g1 x hx
              · rcases List.mem_cons.1 hx with rfl | hx
                · intro h; cases h
                · exact g2 x hx
            · refine .inr ⟨t₀, List.mem_cons_of_mem _ g1, v₀, δ₀, fp₀, g2, fun x hx hp => ?_, fun x hx hd => ?_, g5, g6, fun x hx => ?_⟩
              · rcases List.mem_cons.1 hx with rfl | hx
                · exact hp.elim
                · exact g3 x hx hp
              · rcases List.mem_cons.1 hx with rfl | hx
                · cases hd
                · exact g4 x hx hd
              · rcases List.mem_cons.1 hx with rfl | hx
                · exact .inl rfl
                · exact g7 x hx
    · -- it waits for the one that panicked
      rw [hdep, cond_true] at h
      obtain ⟨L, h1, h2, h3, h4, h5, h6, h7, h8⟩ := ih (i + 1) _ dead _ _ hrest (fun k v hd => Nat.lt_succ_of_lt (hk k v hd)) h
      let t : It := ⟨i, o, .dep⟩
      refine ⟨t :: L, ?_, hcover rfl h2, ?_, ?_, ?_, ⟨trivial, h6⟩, ?_, by simp; omega⟩
      · intro u hu
        rcases List.mem_cons.1 hu with rfl | hu
        · exact ⟨Nat.le_refl _, ho⟩
        · exact ⟨by have := (h1 u hu).1; omega, (h1 u hu).2⟩
      · exact List.pairwise_cons.2 ⟨fun u hu => ⟨by have := (h1 u hu).1; show i < u.i; omega, meet_none'⟩, h3⟩
      · intro e he u hu
        rcases List.mem_cons.1 hu with rfl | hu
        · exact meet_none
        · exact h4 e he u hu
      · intro u hu
        rcases List.mem_cons.1 hu with rfl | hu
        · exact .inl rfl
        · exact h5 u hu
      · cases dead with
        | some q =>
          obtain ⟨k, u⟩ := q
          obtain ⟨g1, g2, g3, g4, g5⟩ := h7
          refine ⟨fun x hx => ?_, fun x hx hd => ?_, g3, g4, fun x hx => ?_⟩
          · rcases List.mem_cons.1 hx with rfl | hx
            · exact fun h => h
            · exact g1 x hx
          · rcases List.mem_cons.1 hx with rfl | hx
            · exact hdep
            · exact g2 x hx hd
          · rcases List.mem_cons.1 hx with rfl | hx
            · exact .inl rfl
            · exact g5 x hx
        | none => cases hdep

end
end Go.Vai
end

section
namespace Go.Vai

section
variable {R : Type} {cx : Cx} {m nt : Nat} {call : Nat → List V → St → Option (Out × St)} {w₀ : World} {σ₀ : St} {μ₀ : Mu}

theorem opsOk_spec {ops : List Oper} {pre : List Nat} : ∀ {l : List Oper} {j : Nat}, opsOk ops pre j l = true → ∀ (i : Nat) o, l[i]? = some o →
    readsOk pre (looks ops o) (j + i) 0 ops = true ∧ edgesOk (j + i) o = true
  | [], _, _, i, o, h => by simp at h
  | x :: l, j, h, i, o, ho => by
    simp only [opsOk, Bool.and_eq_true] at h
    cases i with
    | zero => simp at ho; subst ho; exact h.1
    | succ i =>
      have := opsOk_spec h.2 i o (by simpa using ho)
      rwa [show j + 1 + i = j + (i + 1) by omega] at this

theorem readsOk_spec {pre ls : List Nat} {j : Nat} : ∀ {l : List Oper} {k : Nat}, readsOk pre ls j k l = true → ∀ (i : Nat) o t, l[i]? = some o → o.dst = some t → t ∈ ls → k + i < j ∧ preHas pre j (k + i) = true
  | [], _, _, i, o, t, h, _, _ => by simp at h
  | x :: l, k, h, i, o, t, ho, hd, ht => by
    simp only [readsOk, Bool.and_eq_true] at h
    cases i with
    | zero =>
      simp at ho; subst ho
      have := h.1
      rw [hd] at this
      simp only [Bool.or_eq_true, Bool.not_eq_true', Bool.and_eq_true] at this
      rcases this with h | ⟨h1, h2⟩
      · simp [ht] at h
      · exact ⟨Nat.le_of_ble_eq_true h1, h2⟩
    | succ i =>
      have := readsOk_spec h.2 i o t (by simpa using ho) hd ht
      rwa [show k + 1 + i = k + (i + 1) by omega] at this

theorem dsts_mem : ∀ {l : List Oper} {i : Nat} {o : Oper} {t : Nat}, l[i]? = some o → o.dst = some t → t ∈ dsts l
  | [], _, _, _, h, _ => by simp at h
  | x :: l, i, o, t, h, hd => by
    cases i with
    | zero => simp at h; subst h; simp [dsts, hd]
    | succ i => exact List.mem_append_right _ (dsts_mem (by simpa using h) hd)

theorem dsts_nodup : ∀ {l : List Oper} {i j : Nat} {o o' : Oper} {t : Nat}, (dsts l).Nodup → l[i]? = some o → l[j]? = some o' → o.dst = some t → o'.dst = some t → i = j
  | [], _, _, _, _, _, _, h, _, _, _ => by simp at h
  | x :: l, i, j, o, o', t, hn, h, h', hd, hd' => by
    simp only [dsts, List.nodup_append] at hn
    cases i with
    | zero =>
      cases j with
      | zero => rfl
      | succ j =>
        simp at h; subst h
        rw [hd] at hn
        exact (hn.2.2 t (by simp) t (dsts_mem (by simpa using h') hd') rfl).elim
    | succ i =>
      cases j with
      | zero =>
        simp at h'; subst h'
        rw [hd'] at hn
        exact (hn.2.2 t (by simp) t (dsts_mem (by simpa using h) hd) rfl).elim
      | succ j => have : i = j := dsts_nodup hn.2.1 (by simpa using h) (by simpa using h') hd hd'; omega

theorem disj_spec {a b : List Nat} (h : disj a b = true) : ∀ i ∈ a, i ∉ b := fun i hi hb => by
  have := List.all_eq_true.1 h i hi
  simp [hb] at this

theorem wf_dst {t : It} {p : Nat × V} (h : t.wf = some p) : t.o.dst = some p.1 ∧ t.res ≠ .dep := by
  cases hr : t.res <;> simp only [It.wf, hr] at h
  · cases h
  · obtain ⟨d, h1, rfl⟩ := Option.map_eq_some_iff.1 h
    exact ⟨h1, by intro e; cases e⟩
  · obtain ⟨d, h1, rfl⟩ := Option.map_eq_some_iff.1 h
    exact ⟨h1, by intro e; cases e⟩
  · cases h

theorem rf_looks {ops : List Oper} {t : It} {s : Nat} (h : s ∈ t.rf ops) : s ∈ looks ops t.o := by
  unfold It.rf at h
  split at h
  · cases h
  · exact h

theorem evDraw_ok (hcall : CallOk cx call) (hn : noRoutines cx.P) (hmix : cx.P.follows .mixedOrders = true) {arr : Array Oper} {id : Nat} {K : Ex → Fr → St → Option R} {r : R} {Q : Exit → Act → World → Prop}
    (hQ : ∀ e fr σ, K e fr σ = some r → ∀ x a w μ, exits w σ μ e x → Now cx nt w₀ σ₀ μ₀ a w σ μ fr → Q x a w)
    (hdraw : ∀ w σ μ, Inv cx w σ μ → After cx w σ μ { w with drawn := w.drawn + 1 } σ μ)
    {fr : Fr} {σ : St} (h : must (drawOk arr.toList (pres arr.toList [])) (evDraw cx m nt call arr.toList (pres arr.toList []) 0 arr.toList [] none fr σ K) = some r)
    {a : Act} {w : World} {μ : Mu} (hnow : Now cx nt w₀ σ₀ μ₀ a w σ μ fr) : (Code.region id arr true).wp cx.P Q a w := by
  obtain ⟨hok, h⟩ := must_some h
  simp only [drawOk, Bool.and_eq_true] at hok
  obtain ⟨hnd, hops⟩ := hok
  have hnd := nodupB_spec hnd
  obtain ⟨L, h1, h2, h3, h4, h5, h6, h7, h8⟩ := evDraw_items (ops := arr.toList) arr.toList 0 [] none fr σ rfl (by simp) h
  have hlen : L.length = arr.size := by simpa using h8
  have hspec : ∀ t ∈ L, readsOk (pres arr.toList []) (looks arr.toList t.o) t.i 0 arr.toList = true ∧ edgesOk t.i t.o = true := fun t ht => by
    have := opsOk_spec hops t.i t.o (h1 t ht).2
    rwa [Nat.zero_add] at this
  have hpair : L.Pairwise (fun a b => a.i < b.i ∧ (preHas (pres arr.toList []) b.i a.i = true ∨ Comm arr.toList a b)) := by
    refine (List.Pairwise.and_mem.1 h3).imp fun {x y} ⟨hx, hy, hlt, hm⟩ => ⟨hlt, ?_⟩
    by_cases hp : preHas (pres arr.toList []) y.i x.i = true
    · exact .inl hp
    right
    have hsd : (∀ i ∈ x.ws.map (·.1), i ∉ y.rs ∧ i ∉ y.ws.map (·.1)) ∧ (∀ i ∈ y.ws.map (·.1), i ∉ x.rs ∧ i ∉ x.ws.map (·.1)) := by
      simp only [meetOk, logOf, Bool.or_eq_true, Bool.and_eq_true] at hm
      rcases hm with (⟨e1, e2⟩ | h) | ⟨d1, d2⟩
      · rw [isEmpty_eq e1, isEmpty_eq e2]
        exact ⟨by simp, by simp⟩
      · exact absurd h hp
      · refine ⟨fun i hi => ?_, fun i hi => ?_⟩
        · have := disj_spec d1 i hi
          simp only [List.mem_append, not_or] at this
          exact ⟨this.2, this.1⟩
        · have := disj_spec d2 i hi
          simp only [List.mem_append, not_or] at this
          exact ⟨this.2, this.1⟩
    refine ⟨fun p hpw hs => ?_, fun p hpw hs => ?_, fun p q hpw hqw e => ?_, hsd.1, hsd.2⟩
    · have := readsOk_spec (hspec y hy).1 x.i x.o p.1 (h1 x hx).2 (wf_dst hpw).1 (rf_looks hs)
      rw [Nat.zero_add] at this
      exact hp this.2
    · have := readsOk_spec (hspec x hx).1 y.i y.o p.1 (h1 y hy).2 (wf_dst hpw).1 (rf_looks hs)
      rw [Nat.zero_add] at this
      omega
    · have := dsts_nodup hnd (h1 x hx).2 (h1 y hy).2 (wf_dst hpw).1 (e ▸ (wf_dst hqw).1)
      omega
  have hedge : ∀ (j : Nat) o, arr.toList[j]? = some o → edgesOk j o = true := fun j o ho => by
    have := (opsOk_spec hops j o ho).2
    rwa [Nat.zero_add] at this
  have haf := hdraw w σ μ hnow.after.inv
  have hnow' : Now cx nt w₀ σ₀ μ₀ a { w with drawn := w.drawn + 1 } σ μ fr := ⟨hnow.after.trans haf, haf.frs hnow.after.inv hnow.fr, hnow.size, hnow.defers⟩
  have hlis0 : ∀ i, ¬ lis (Array.replicate arr.size false) i := fun i hi => by
    unfold lis at hi
    rw [Array.getD_eq_getD_getElem?] at hi
    by_cases hlt : i < arr.size
    · simp [hlt] at hi
    · simp [hlt] at hi
  have run : ∀ frE σE, sameFr (endF L fr) frE → sameSt (endS L σ) σE → (∀ t ∈ L, t.res = .dep → ∃ t' ∈ L, isPan t' ∧ preHas (pres arr.toList []) t.i t'.i = true) →
      (∀ t ∈ L, ∀ v δ fp, t.res = .pan v δ fp → K (.pan v) [] σE = some r ∧ ∀ t' ∈ L, t'.ws = [] ∨ t'.i = t.i ∨ preHas (pres arr.toList []) t.i t'.i = true) →
      ((∃ t ∈ L, isPan t) ∨ K .normal frE σE = some r) → (Code.region id arr true).wp cx.P Q a w := fun frE σE hF hS hdep hpan hend =>
    wp_region_any hmix (any_ok hcall hn hQ hedge arr.size L _ fr σ a _ μ hlen (by simp) (fun t ht => (h1 t ht).2)
      (fun i hi => ⟨fun h => (hlis0 i h).elim, fun h => by
        obtain ⟨t, ht, hti⟩ := h2 i (Nat.zero_le _) (by simpa using hi)
        exact (h t ht hti).elim⟩) hpair (fun j k hj => (hlis0 j hj).elim) h5 hdep hpan hend h6 hF hS hnow')
  rcases h7 with ⟨g1, g2, frE, g3, g4⟩ | ⟨t₀, g1, v, δ, fp, g2, g3, g4, g5, g6, g7⟩
  · exact run frE _ g3 (sameSt.refl _) (fun t ht hd => (g2 t ht hd).elim) (fun t ht v δ fp hp => (g1 t ht (by simp [isPan, hp])).elim) (.inr g4)
  · refine run _ _ (sameFr.refl _) (sameSt.refl _) (fun t ht hd => ⟨t₀, g1, by simp [isPan, g2], g4 t ht hd⟩) (fun t ht v' δ' fp' hp => ?_) (.inl ⟨t₀, g1, by simp [isPan, g2]⟩)
    have := g3 t ht (by simp [isPan, hp])
    subst this
    rw [g2] at hp; cases hp
    exact ⟨g5, g7⟩

end
end Go.Vai
end

section
namespace Go.Vai

section
variable {R : Type} {cx : Cx} {m nt : Nat} {call : Nat → List V → St → Option (Out × St)} {w w₀ : World} {σ σ₀ : St} {μ μ₀ : Mu}

theorem drew_upd : Upd cx w σ μ { w with drawn := w.drawn + 1 } σ μ [] where
  os := rfl
  output := rfl
  size := Nat.le_refl _
  blk := fun _ _ _ => rfl
  cell := fun _ _ _ _ h => h
  fr := rfl
  same := fun _ _ => ⟨rfl, rfl⟩
  own := fun _ h => by simp at h
  still := fun _ h => by simp at h
  apart := fun _ h => by simp at h

theorem drew_after (hi : Inv cx w σ μ) : After cx w σ μ { w with drawn := w.drawn + 1 } σ μ := Upd.after drew_upd hi (fun _ h => by simp at h)

theorem getA_keepSt : ∀ (S : List Nat) (i : Nat), getA (keepSt σ S) i = if i ∈ S then getA σ i else none
  | [], i => by simp [keepSt, getA]
  | j :: S, i => by
    simp only [keepSt]
    cases hj : getA σ j with
    | none =>
      simp only [getA_keepSt S i, List.mem_cons]
      by_cases h : i = j
      · subst h; simp [hj]
      · simp [h]
    | some o =>
      simp only [getA, getA_keepSt S i, List.mem_cons]
      by_cases h : j = i
      · subst h; simp [hj]
      · simp [beqF h, Ne.symm h]

theorem closedI_spec {is ren : List Nat} (h : closedI σ is ren = true) : (∀ i ∈ is, i ∈ ren) ∧ ∀ i ∈ ren, ∃ o, getA σ i = some o ∧ ∀ j ∈ o.ids, j ∈ ren := by
  unfold closedI at h
  simp only [Bool.and_eq_true, List.all_eq_true] at h
  obtain ⟨h2, h3⟩ := h
  refine ⟨fun i hi => by simpa using h2 i hi, fun i hi => ?_⟩
  have := h3 i hi
  split at this
  · rename_i o ho
    exact ⟨o, ho, fun j hj => by simpa using List.all_eq_true.1 this j hj⟩
  · cases this

theorem getA_pickLive {fr : Fr} : ∀ (l : List Nat) (t : Nat) (v : V), getA (pickLive fr l) t = some v → getA fr t = some v ∧ t ∈ l
  | [], t, v, h => by cases h
  | s :: l, t, v, h => by
    simp only [pickLive] at h
    split at h
    · rename_i u hu
      simp only [getA] at h
      cases hb : Nat.beq s t <;> rw [hb] at h
      · have := getA_pickLive l t v h
        exact ⟨this.1, List.mem_cons_of_mem _ this.2⟩
      · obtain rfl := Nat.eq_of_beq_eq_true hb
        cases h
        exact ⟨hu, List.mem_cons_self⟩
    · have := getA_pickLive l t v h
      exact ⟨this.1, List.mem_cons_of_mem _ this.2⟩

theorem frIds_mem : ∀ {fr : Fr} {t : Nat} {v : V} {i : Nat}, getA fr t = some v → i ∈ v.ids → i ∈ frIds fr
  | [], _, _, _, h, _ => by cases h
  | (s, u) :: fr, t, v, i, h, hi => by
    simp only [getA] at h
    simp only [frIds, List.mem_append]
    cases hb : Nat.beq s t <;> rw [hb] at h
    · exact .inr (frIds_mem h hi)
    · cases h; exact .inl hi

/-- Objects that nobody needs are let go. -/
theorem keep_now {a : Act} {fr fr' : Fr} {S : List Nat} (hσ₀ : ∀ id o, getA σ₀ id = some o → id < m) (hnow : Now cx nt w₀ σ₀ μ₀ a w σ μ fr) (hfr : ∀ t v, getA fr' t = some v → getA fr t = some v)
    (hm : ∀ i, i < m → i ∈ S) (hids : ∀ t v, getA fr' t = some v → ∀ i ∈ v.ids, i ∈ S) (hcl : ∀ i ∈ S, ∃ o, getA σ i = some o ∧ ∀ j ∈ o.ids, j ∈ S) : Now cx nt w₀ σ₀ μ₀ a w (keepSt σ S) μ fr' := by
  have hi := hnow.after.inv
  have hget : ∀ {i o}, getA (keepSt σ S) i = some o → i ∈ S ∧ getA σ i = some o := fun {i o} h => by
    rw [getA_keepSt] at h
    by_cases hS : i ∈ S
    · rw [if_pos hS] at h; exact ⟨hS, h⟩
    · rw [if_neg hS] at h; cases h
  have hin : ∀ {i}, i ∈ S → getA (keepSt σ S) i = getA σ i := fun {i} h => by rw [getA_keepSt, if_pos h]
  have hmine : ∀ {b i}, Mine (keepSt σ S) μ b i → Mine σ μ b i := fun ⟨id, o, ho, h⟩ => ⟨id, o, (hget ho).2, h⟩
  have hown : ∀ {b i}, OwnOf (keepSt σ S) μ b i → OwnOf σ μ b i := fun h => h.imp id hmine
  have hst : Stays w (OwnOf σ μ) w (OwnOf (keepSt σ S) μ) := ⟨fun b i x hn hc => ⟨hc, fun h => hn (hown h)⟩, fun r es clock hn hm => ⟨hm, fun h => hn (hown h)⟩⟩
  have rv : ∀ v x, (∀ i ∈ x.ids, i ∈ S) → RV w σ μ v x → RV w (keepSt σ S) μ v x := fun v x hx hv => hv.stays hst fun id hid o ho => by
    rw [hin (hx id hid), ho]; exact stillOb.refl μ id o
  refine ⟨⟨⟨fun id o ho => ?_, fun id id' o o' b i ho ho' => hi.apart id id' o o' b i (hget ho).2 (hget ho').2, fun g x hg => ?_, fun id o b i ho => hi.frame id o b i (hget ho).2, hi.frLt, hi.frMap⟩,
    ⟨hnow.after.goes.kept, fun b i hb h => hnow.after.goes.own b i hb (hmine h), hnow.after.goes.fr⟩, fun id o ho => ?_, hnow.after.fr⟩, fun t v ht => rv _ _ (hids t v ht) (hnow.fr t v (hfr t v ht)), hnow.size, hnow.defers⟩
  · obtain ⟨hS, ho⟩ := hget ho
    have hok := hi.ob id o ho
    obtain ⟨o', ho', hoids⟩ := hcl id hS
    rw [ho] at ho'; cases ho'
    cases o with
    | val n v =>
      obtain ⟨b, cs, el, hb, hh, hn, ht, h1, hr⟩ := hok
      exact ⟨b, cs, el, hb, hh, hn, ht, h1, hr.map fun y x hx => rv y x fun i hi => hoids i (V.cells_ids hx hi)⟩
    | row l =>
      obtain ⟨b, cs, el, hb, hh, h1, hr⟩ := hok
      exact ⟨b, cs, el, hb, hh, h1, hr.stays hst⟩
    | tok n => exact hok
    | map ks vs =>
      obtain ⟨b, es, clock, hb, hh, hk, hv⟩ := hok
      exact ⟨b, es, clock, hb, hh, hk.stays hst, hv.stays hst⟩
  · obtain ⟨xs, hc, hr⟩ := hi.glob g x hg
    exact ⟨xs, fun j hj => ⟨(hc j hj).1, fun h => (hc j hj).2.1 (hown h), (hc j hj).2.2⟩, fun j c hj => (hr j c hj).stays hst⟩
  · rw [hin (hm id (hσ₀ id o ho))]
    exact hnow.after.still id o ho

theorem tidy_ok {f key : Nat} {fr : Fr} {K : Fr → St → Option R} {r : R} (h : tidy cx m f key fr σ K = some r) (hσ₀ : ∀ id o, getA σ₀ id = some o → id < m) :
    ∃ fr' σ', K fr' σ' = some r ∧ ∀ {a w μ}, Now cx nt w₀ σ₀ μ₀ a w σ μ fr → Now cx nt w₀ σ₀ μ₀ a w σ' μ fr' := by
  unfold tidy at h
  simp only at h
  obtain ⟨hc, h⟩ := must_some h
  obtain ⟨h1, h2⟩ := closedI_spec hc
  exact ⟨_, _, h, fun hnow => keep_now hσ₀ hnow (fun t v ht => (getA_pickLive _ t v ht).1) (fun i hi => h1 i (List.mem_append_left _ (List.mem_range.2 hi)))
    (fun t v ht i hi => h1 i (List.mem_append_right _ (frIds_mem ht hi))) h2⟩

theorem evCode_ok (hcall : CallOk cx call) (hn : noRoutines cx.P) (hmix : cx.P.follows .mixedOrders = true) (hσ₀ : ∀ id o, getA σ₀ id = some o → id < m) {f n : Nat} :
    ∀ (c : Code) {K : Ex → Fr → St → Option R} {r : R} {fr : Fr} {σ : St}, evCode cx f m nt call n c fr σ K = some r → ∀ {Q : Exit → Act → World → Prop},
      (∀ e fr σ, K e fr σ = some r → ∀ x a w μ, exits w σ μ e x → Now cx nt w₀ σ₀ μ₀ a w σ μ fr → Q x a w) → ∀ {a w μ}, Now cx nt w₀ σ₀ μ₀ a w σ μ fr → c.wp cx.P Q a w := by
  intro c
  induction c with
  | skip => intro K r fr σ h Q hQ a w μ hnow; exact wp_skip (hQ _ _ _ h _ _ _ _ trivial hnow)
  | label l => intro K r fr σ h Q hQ a w μ hnow; exact wp_label (hQ _ _ _ h _ _ _ _ trivial hnow)
  | exit id => intro K r fr σ h Q hQ a w μ hnow; exact wp_exit (hQ _ _ _ h _ _ _ _ rfl hnow)
  | goto l => intro K r fr σ h Q hQ a w μ hnow; exact wp_goto (hQ _ _ _ h _ _ _ _ rfl hnow)
  | ret => intro K r fr σ h Q hQ a w μ hnow; exact wp_ret (hQ _ _ _ h _ _ _ _ trivial hnow)
  | refuse why => intro K r fr σ h; cases h
  | rangeFunc f params assign body _ _ => intro K r fr σ h; cases h
  | region id ops draw =>
    intro K r fr σ h Q hQ a w μ hnow
    cases draw
    · exact wp_region (by simpa using evOps_ok hcall hn hQ ops.toList 0 rfl fr σ h a w μ hnow)
    · exact evDraw_ok hcall hn hmix hQ (fun w σ μ hi => drew_after hi) h hnow
  | seq x y ihx ihy =>
    intro K r fr σ h Q hQ a w μ hnow
    refine wp_seq (ihx h (fun e fr σ hK x a w μ hx hnow => ?_) hnow)
    cases e with
    | normal => cases x <;> first | exact ihy hK hQ hnow | exact hx.elim
    | exit i => cases x <;> first | exact hQ _ _ _ hK _ _ _ μ hx hnow | exact hx.elim
    | goto l => cases x <;> first | exact hQ _ _ _ hK _ _ _ μ hx hnow | exact hx.elim
    | ret => cases x <;> first | exact hQ _ _ _ hK _ _ _ μ hx hnow | exact hx.elim
    | pan v => cases x <;> first | exact hQ _ _ _ hK _ _ _ μ hx hnow | exact hx.elim
  | cond c x y ihx ihy =>
    intro K r fr σ h Q hQ a w μ hnow
    simp only [evCode] at h
    obtain ⟨v, hv, h⟩ := optK_some h
    obtain ⟨b, rfl, h⟩ := asB_some h
    have hcb : a.eval c = .bool b := by
      have hr := opd_ok hnow.fr hv
      generalize a.eval c = q at hr
      cases hr with | d _ _ hd => cases hd; rfl
    refine wp_cond hcb ?_
    cases b
    · exact ihy h hQ hnow
    · exact ihx h hQ hnow
  | block id c ih =>
    intro K r fr σ h Q hQ a w μ hnow
    refine wp_block (ih h (fun e fr σ hK x a w μ hx hnow => ?_) hnow)
    have tid : ∀ {fr σ}, tidy cx m f (2 * id) fr σ (K .normal) = some r → Now cx nt w₀ σ₀ μ₀ a w σ μ fr → Q .normal a w := fun h hnow => by
      obtain ⟨fr', σ', hK, hN⟩ := tidy_ok (nt := nt) (w₀ := w₀) (μ₀ := μ₀) h hσ₀
      exact hQ _ _ _ hK _ _ _ μ trivial (hN hnow)
    cases e with
    | normal => cases x <;> first | exact tid hK hnow | exact hx.elim
    | exit i =>
      cases x <;> first | exact hx.elim | skip
      rename_i j
      obtain rfl : i = j := hx
      show if i = id then _ else _
      simp only at hK
      by_cases hid : i = id
      · subst hid
        rw [beqT, cond_true] at hK
        rw [if_pos rfl]
        exact tid hK hnow
      · rw [beqF hid, cond_false] at hK
        rw [if_neg hid]
        exact hQ _ _ _ hK _ _ _ μ rfl hnow
    | goto l => cases x <;> first | exact hQ _ _ _ hK _ _ _ μ hx hnow | exact hx.elim
    | ret => cases x <;> first | exact hQ _ _ _ hK _ _ _ μ hx hnow | exact hx.elim
    | pan v => cases x <;> first | exact hQ _ _ _ hK _ _ _ μ hx hnow | exact hx.elim
  | loop c ih =>
    intro K r fr σ h Q hQ a w μ hnow
    simp only [evCode] at h
    obtain ⟨fr', σ', h, hN⟩ := tidy_ok (nt := nt) (w₀ := w₀) (μ₀ := μ₀) h hσ₀
    refine wp_loop_rounds n ?_
    have key : ∀ (k : Nat) (fr : Fr) (σ : St) (a : Act) (w : World) (μ : Mu), iter (evCode cx f m nt call n c) (tidy cx m f (2 * firstRegion c + 1)) k fr σ K = some r → Now cx nt w₀ σ₀ μ₀ a w σ μ fr →
        Code.rounds cx.P c Q k a w := by
      intro k
      induction k with
      | zero => intro fr σ a w μ h; cases h
      | succ k ihk =>
        intro fr σ a w μ h hnow
        rw [rounds_succ]
        refine ih h (fun e fr σ hK x a w μ hx hnow => ?_) hnow
        cases e with
        | normal =>
          cases x <;> first | exact hx.elim | skip
          simp only at hK
          obtain ⟨fr', σ', h, hN⟩ := tidy_ok (nt := nt) (w₀ := w₀) (μ₀ := μ₀) hK hσ₀
          exact ihk _ _ _ _ μ h (hN hnow)
        | exit i => cases x <;> first | exact hQ _ _ _ hK _ _ _ μ hx hnow | exact hx.elim
        | goto l => cases x <;> first | exact hQ _ _ _ hK _ _ _ μ hx hnow | exact hx.elim
        | ret => cases x <;> first | exact hQ _ _ _ hK _ _ _ μ hx hnow | exact hx.elim
        | pan v => cases x <;> first | exact hQ _ _ _ hK _ _ _ μ hx hnow | exact hx.elim
    exact key n fr' σ' a w μ h (hN hnow)
  | scope c ih =>
    intro K r fr σ h Q hQ a w μ hnow
    refine wp_scope_straight (ih h (fun e fr σ hK x a w μ hx hnow => ?_) hnow)
    cases e with
    | normal => cases x <;> first | exact hQ _ _ _ hK _ _ _ μ hx hnow | exact hx.elim
    | exit i => cases x <;> first | exact hQ _ _ _ hK _ _ _ μ hx hnow | exact hx.elim
    | goto l => cases hK
    | ret => cases x <;> first | exact hQ _ _ _ hK _ _ _ μ hx hnow | exact hx.elim
    | pan v => cases x <;> first | exact hQ _ _ _ hK _ _ _ μ hx hnow | exact hx.elim

end
end Go.Vai
end

section
namespace Go.Vai

section
variable {R : Type} {cx : Cx} {m nt : Nat} {w w₀ : World} {σ σ' σ₀ : St} {μ μ₀ : Mu}

theorem leaveL_spec : ∀ {l r : List V}, V.leaveL m σ l = some r → r.length = l.length ∧ ∀ (i : Nat) x y, l[i]? = some x → r[i]? = some y → x.leave m σ = some y
  | [], r, h => by simp only [V.leaveL] at h; cases h; simp
  | v :: l, r, h => by
    simp only [V.leaveL] at h
    split at h
    · rename_i u r' hu hr
      cases h
      obtain ⟨h1, h2⟩ := leaveL_spec hr
      refine ⟨by simp [h1], fun i x y hx hy => ?_⟩
      cases i with
      | zero => simp at hx hy; subst hx; subst hy; exact hu
      | succ i => exact h2 i x y (by simpa using hx) (by simpa using hy)
    · cases h

def leaveOb (m : Nat) (σ : St) : Ob → Option Ob
  | .val n v => (v.leave m σ).map (.val n)
  | o => some o

theorem leaveSt_spec : ∀ {is : List Nat} {τ : St}, leaveSt m σ is = some τ → (∀ i ∈ is, ∃ o o', getA σ i = some o ∧ getA τ i = some o' ∧ leaveOb m σ o = some o') ∧ ∀ i o', getA τ i = some o' → i ∈ is
  | [], τ, h => by simp only [leaveSt] at h; cases h; exact ⟨by simp, fun i o h => by cases h⟩
  | i :: is, τ, h => by
    simp only [leaveSt] at h
    have fin : ∀ {o o' : Ob} {l : St}, getA σ i = some o → leaveOb m σ o = some o' → leaveSt m σ is = some l → τ = (i, o') :: l →
        (∀ j ∈ i :: is, ∃ o o', getA σ j = some o ∧ getA τ j = some o' ∧ leaveOb m σ o = some o') ∧ ∀ j o', getA τ j = some o' → j ∈ i :: is := by
      intro o o' l ho hl hls rfl
      obtain ⟨h1, h2⟩ := leaveSt_spec hls
      refine ⟨fun j hj => ?_, fun j q hq => ?_⟩
      · by_cases hij : i = j
        · subst hij
          exact ⟨o, o', ho, by simp [getA], hl⟩
        · obtain ⟨p, q, h3, h4, h5⟩ := h1 j ((List.mem_cons.1 hj).resolve_left fun e => hij e.symm)
          exact ⟨p, q, h3, by simpa [getA, beqF hij] using h4, h5⟩
      · by_cases hij : i = j
        · subst hij; exact List.mem_cons_self
        · simp only [getA, beqF hij, cond_false] at hq
          exact List.mem_cons_of_mem _ (h2 j q hq)
    split at h
    · rename_i n v l ho hls
      split at h
      · rename_i u hu
        cases h
        exact fin ho (by simp [leaveOb, hu]) hls rfl
      · cases h
    · rename_i o l hno ho hls
      cases h
      refine fin ho ?_ hls rfl
      cases o with
      | val n v => exact (hno n v rfl).elim
      | _ => rfl
    · cases h

mutual
theorem V.leave_ids (m : Nat) (σ : St) : ∀ (v u : V), v.leave m σ = some u → ∀ i ∈ u.ids, i < m
  | .d x, u, h, i, hi => by simp only [V.leave] at h; cases h; simp [V.ids] at hi
  | .sl sz l id, u, h, i, hi => by
    simp only [V.leave] at h
    cases hb : Nat.blt id m <;> rw [hb] at h <;> cases h
    · simp [V.ids] at hi
    · simp [V.ids] at hi; subst hi; exact Nat.le_of_ble_eq_true hb
  | .slo id off n, u, h, i, hi => by
    simp only [V.leave] at h
    split at h
    · cases hb : Nat.blt id m <;> rw [hb] at h <;> cases h
      · simp [V.ids] at hi
      · simp [V.ids] at hi; subst hi; exact Nat.le_of_ble_eq_true hb
    · cases h
  | .map id, u, h, i, hi => by
    simp only [V.leave] at h
    split at h
    · cases hb : Nat.blt id m <;> rw [hb] at h <;> cases h
      · simp [V.ids] at hi
      · simp [V.ids] at hi; subst hi; exact Nat.le_of_ble_eq_true hb
    · cases h
  | .ptr id off, u, h, i, hi => by
    simp only [V.leave] at h
    cases hb : Nat.blt id m <;> rw [hb] at h <;> cases h
    simp [V.ids] at hi; subst hi; exact Nat.le_of_ble_eq_true hb
  | .eptr x off, u, h, i, hi => by simp only [V.leave] at h; cases h; simp [V.ids] at hi
  | .gptr x off, u, h, i, hi => by simp only [V.leave] at h; cases h; simp [V.ids] at hi
  | .agg l, u, h, i, hi => by
    simp only [V.leave] at h
    split at h
    · rename_i r hr
      cases h
      have := V.leaveL_ids m σ l r hr i
      unfold mkAgg at hi
      split at hi
      · simp [V.ids] at hi
      · exact this hi
    · cases h
  | .tup l, u, h, i, hi => by
    simp only [V.leave] at h
    split at h
    · rename_i r hr
      cases h
      exact V.leaveL_ids m σ l r hr i hi
    · cases h
  | .func g l, u, h, i, hi => by
    simp only [V.leave] at h
    split at h
    · rename_i r hr
      cases h
      exact V.leaveL_ids m σ l r hr i hi
    · cases h
  | .iface t v, u, h, i, hi => by
    simp only [V.leave] at h
    split at h
    · rename_i r hr
      cases h
      exact V.leave_ids m σ v r hr i hi
    · cases h
theorem V.leaveL_ids (m : Nat) (σ : St) : ∀ (l r : List V), V.leaveL m σ l = some r → ∀ i ∈ V.idsL r, i < m
  | [], r, h, i, hi => by simp only [V.leaveL] at h; cases h; cases hi
  | v :: l, r, h, i, hi => by
    simp only [V.leaveL] at h
    split at h
    · rename_i u r' hu hr
      cases h
      simp only [V.idsL, List.mem_append] at hi
      rcases hi with hi | hi
      · exact V.leave_ids m σ v u hu i hi
      · exact V.leaveL_ids m σ l r' hr i hi
    · cases h
end

theorem leaveOb_ids {o o' : Ob} (h : leaveOb m σ o = some o') : ∀ i ∈ o'.ids, i < m := by
  intro i hi
  cases o with
  | val n v =>
    obtain ⟨u, hu, rfl⟩ := Option.map_eq_some_iff.1 h
    exact V.leave_ids m σ v u hu i hi
  | _ => cases h; simp [Ob.ids] at hi

theorem leaveOb_owns {o o' : Ob} (h : leaveOb m σ o = some o') {id b i : Nat} : owns μ id o' b i ↔ owns μ id o b i := by
  cases o with
  | val n v => obtain ⟨u, hu, rfl⟩ := Option.map_eq_some_iff.1 h; exact Iff.rfl
  | _ => cases h; exact Iff.rfl

/-- What stays behind of the worlds. -/
structure Left (m : Nat) (σ σ' : St) : Prop where
  get : ∀ i, i < m → ∃ o o', getA σ i = some o ∧ getA σ' i = some o' ∧ leaveOb m σ o = some o'
  lt : ∀ i o', getA σ' i = some o' → i < m

theorem Left.of {τ : St} (h : leaveSt m σ (List.range m) = some τ) : Left m σ τ :=
  let ⟨h1, h2⟩ := leaveSt_spec h
  ⟨fun i hi => h1 i (List.mem_range.2 hi), fun i o ho => List.mem_range.1 (h2 i o ho)⟩

theorem Left.back (h : Left m σ σ') {i : Nat} {o' : Ob} (ho : getA σ' i = some o') : ∃ o, getA σ i = some o ∧ leaveOb m σ o = some o' ∧ i < m := by
  have hlt := h.lt i o' ho
  obtain ⟨o, q, h1, h2, h3⟩ := h.get i hlt
  rw [ho] at h2; cases h2
  exact ⟨o, h1, h3, hlt⟩

theorem Left.mine (h : Left m σ σ') {b i : Nat} (hm : Mine σ' μ b i) : ∃ id o, id < m ∧ getA σ id = some o ∧ owns μ id o b i := by
  obtain ⟨id, o', ho', hown⟩ := hm
  obtain ⟨o, h1, h2, h3⟩ := h.back ho'
  exact ⟨id, o, h3, h1, (leaveOb_owns h2).1 hown⟩

theorem Left.own (h : Left m σ σ') {b i : Nat} (ho : OwnOf σ' μ b i) : OwnOf σ μ b i := ho.imp id fun hm => let ⟨id, o, _, h1, h2⟩ := h.mine hm; ⟨id, o, h1, h2⟩

theorem Left.stays (h : Left m σ σ') : Stays w (OwnOf σ μ) w (OwnOf σ' μ) := ⟨fun b i x hn hc => ⟨hc, fun ho => hn (h.own ho)⟩, fun r es clock hn hm => ⟨hm, fun ho => hn (h.own ho)⟩⟩

/-- Of what an object that stays behind isn't, nothing is owned. -/
theorem Left.free (h : Left m σ σ') (hi : Inv cx w σ μ) {id : Nat} {o : Ob} (hm : ¬ id < m) (ho : getA σ id = some o) {b i : Nat} (hown : owns μ id o b i) : ∀ j, ¬ OwnOf σ' μ b j := by
  intro j hq
  rcases hq with hf | hq
  · exact hi.frame id o b i ho hown j hf
  · obtain ⟨id', o', h1, h2, h3⟩ := h.mine hq
    have := hi.blockApart ho h2 hown h3
    exact hm (this ▸ h1)

theorem RD.oneCells {own : Own} {v : Value} {y : D} (h : RD w own v y) (h1 : v.oneCell' = true) : y.cells = [y] := by
  cases h <;> first | rfl | (simp [Value.oneCell'] at h1)

theorem bltF {a b : Nat} (h : Nat.blt a b = false) : ¬ a < b := fun hlt => by
  have : Nat.blt a b = true := by simpa using hlt
  rw [h] at this; cases this

theorem leave_rv (h : Left m σ σ') (hi : Inv cx w σ μ) {v : Value} {x : V} (hv : RV w σ μ v x) : ∀ {u : V}, x.leave m σ = some u → RV w σ' μ v u := by
  have hst := h.stays (w := w) (μ := μ)
  have list : ∀ {cs : Array Value} {l r : List V}, cs.size = l.length → (∀ (i : Nat) x y, cs[i]? = some x → l[i]? = some y → ∀ {u : V}, y.leave m σ = some u → RV w σ' μ x u) → V.leaveL m σ l = some r →
      cs.size = r.length ∧ ∀ (i : Nat) x y, cs[i]? = some x → r[i]? = some y → RV w σ' μ x y := by
    intro cs l r hl ih hr
    obtain ⟨h1, h2⟩ := leaveL_spec hr
    refine ⟨by rw [h1]; exact hl, fun i x y hx hy => ?_⟩
    obtain ⟨z, hz⟩ := getSome (l := l) (i := i) (by rw [← h1]; exact (List.getElem?_eq_some_iff.1 hy).1)
    exact ih i x z hx hz (h2 i z y hz hy)
  induction hv with
  | d v x hd => intro u hu; simp only [V.leave] at hu; cases hu; exact .d _ _ (hd.stays hst)
  | ptr id off b hc hb =>
    intro u hu
    simp only [V.leave] at hu
    cases hlt : Nat.blt id m <;> rw [hlt] at hu <;> cases hu
    obtain ⟨o, o', h1, h2, h3⟩ := h.get id (Nat.le_of_ble_eq_true hlt)
    refine .ptr id off b ?_ hb
    rw [h2]
    rw [h1] at hc
    cases o with
    | val n v => obtain ⟨u, hu, rfl⟩ := Option.map_eq_some_iff.1 h3; trivial
    | row l => cases h3; trivial
    | _ => exact hc.elim
  | eptr x b o off xs hc hh =>
    intro u hu
    simp only [V.leave] at hu; cases hu
    exact .eptr x b o off xs (fun j hj => ⟨(hc j hj).1, fun ho => (hc j hj).2.1 (h.own ho), (hc j hj).2.2⟩) (fun j c hj => (hh j c hj).stays hst)
  | gptr g off => intro u hu; simp only [V.leave] at hu; cases hu; exact .gptr g off
  | agg cs l hl ho _ ih =>
    intro u hu
    simp only [V.leave] at hu
    split at hu
    · rename_i r hr
      cases hu
      obtain ⟨h1, h2⟩ := list hl ih hr
      exact mkAgg_ok ho ⟨by simpa using h1, fun i x y hx hy => h2 i x y (by simpa using hx) hy⟩
    · cases hu
  | sl v sz l id n hd ht hn he =>
    intro u hu
    simp only [V.leave] at hu
    cases hlt : Nat.blt id m <;> rw [hlt] at hu <;> cases hu
    · exact .d _ _ (hd.stays hst)
    · obtain ⟨o, o', h1, h2, h3⟩ := h.get id (Nat.le_of_ble_eq_true hlt)
      rw [ht] at h1; cases h1
      cases h3
      exact .sl v sz l id n (hd.stays hst) h2 hn he
  | slo id off n cap b l ho hb hn hcap =>
    intro u hu
    simp only [V.leave, ho] at hu
    cases hlt : Nat.blt id m <;> rw [hlt] at hu <;> cases hu
    · obtain ⟨b', cs, el, hb', hh, h1, hr⟩ := hi.ob id _ ho
      obtain rfl : b = b' := by rw [hb] at hb'; exact Option.some.inj hb'
      have hfree := h.free hi (bltF hlt) ho (show owns μ id (.row l) b 0 from hb)
      have hlen : cs.size = l.length := by simpa using hr.1
      have hcell : ∀ i, w.cell? ⟨b, i, none⟩ = cs[i]? := fun i => cell_of_heap hh
      have hone : ∀ y ∈ l, ∃ v, RD w (OwnOf σ μ) v y ∧ v.oneCell' = true := fun y hy => by
        obtain ⟨i, hi'⟩ := List.getElem?_of_mem hy
        obtain ⟨v, hv⟩ := getSome (l := cs.toList) (i := i) (by rw [hr.1]; exact (List.getElem?_eq_some_iff.1 hi').1)
        exact ⟨v, hr.2 i v y hv hi', h1 v (List.mem_of_getElem? hv)⟩
      refine .d _ _ (.sl b off n cap 1 ((l.drop off).take n) (fun k => cs.getD (off + k) undef) (by simp; omega) hcap (fun y hy => ?_) (fun k hk => ?_) (fun i j y c hy hc => ?_))
      · obtain ⟨v, hv, hv1⟩ := hone y (List.mem_of_mem_drop (List.mem_of_mem_take hy))
        rw [RD.oneCells hv hv1]; rfl
      · have hlt : off + k < cs.size := by omega
        refine ⟨?_, hfree _, ?_⟩
        · rw [hcell]; simp [Array.getD_eq_getD_getElem?, hlt]
        · have : cs.getD (off + k) undef = cs[off + k] := by simp [Array.getD_eq_getD_getElem?, hlt]
          rw [this]
          exact h1 _ (by simp)
      · have hyl := List.mem_of_getElem? hy
        obtain ⟨v, hv, hv1⟩ := hone y (List.mem_of_mem_drop (List.mem_of_mem_take hyl))
        rw [RD.oneCells hv hv1] at hc
        have hj : j = 0 := by
          have := (List.getElem?_eq_some_iff.1 hc).1
          simpa using this
        subst hj
        simp only [List.getElem?_cons_zero, Option.some.injEq] at hc
        subst hc
        have hik : i < n := by have := (List.getElem?_eq_some_iff.1 hy).1; simp at this; omega
        have hlt : off + i < cs.size := by omega
        have hyg : l[off + i]? = some y := by
          rw [List.getElem?_take_of_lt hik, List.getElem?_drop] at hy
          exact hy
        have : cs.getD (off + (i * 1 + 0)) undef = cs[off + i] := by simp [Array.getD_eq_getD_getElem?, hlt]
        rw [this]
        exact (hr.2 (off + i) _ y (by simp [hlt]) hyg).stays hst
    · obtain ⟨o, o', h1, h2, h3⟩ := h.get id (Nat.le_of_ble_eq_true hlt)
      rw [ho] at h1; cases h1
      cases h3
      exact .slo id off n cap b l h2 hb hn hcap
  | func f cs l hl _ ih =>
    intro u hu
    simp only [V.leave] at hu
    split at hu
    · rename_i r hr
      cases hu
      obtain ⟨h1, h2⟩ := list hl ih hr
      exact .func f cs r h1 h2
    · cases hu
  | map id b ks vs ho hb =>
    intro u hu
    simp only [V.leave, ho] at hu
    cases hlt : Nat.blt id m <;> rw [hlt] at hu <;> cases hu
    · obtain ⟨b', es, clock, hb', hh, hk, hv⟩ := hi.ob id _ ho
      obtain rfl : b = b' := by rw [hb] at hb'; exact Option.some.inj hb'
      have hfree := h.free hi (bltF hlt) ho (show owns μ id (.map ks vs) b 0 from hb)
      refine .d _ _ (.map b es clock ks vs hh (hfree 0) (by simpa using hk.1) (by simpa using hv.1) (fun i e k he hk' => ?_) (fun i e v he hv' => ?_))
      · exact (hk.2 i e.key k (by simp [he]) hk').stays hst
      · exact (hv.2 i e.val v (by simp [he]) hv').stays hst
    · obtain ⟨o, o', h1, h2, h3⟩ := h.get id (Nat.le_of_ble_eq_true hlt)
      rw [ho] at h1; cases h1
      cases h3
      exact .map id b ks vs h2 hb
  | iface t v u' _ ih =>
    intro u hu
    simp only [V.leave] at hu
    split at hu
    · rename_i r hr
      cases hu
      exact .iface t v r (ih hr)
    · cases hu
  | tup cs l hl _ ih =>
    intro u hu
    simp only [V.leave] at hu
    split at hu
    · rename_i r hr
      cases hu
      obtain ⟨h1, h2⟩ := list hl ih hr
      exact .tup cs r h1 h2
    · cases hu

end
end Go.Vai
end

section
namespace Go.Vai

section
variable {R : Type} {cx : Cx} {m nt : Nat} {w w₀ : World} {σ σ' σ₀ : St} {μ μ₀ : Mu}

theorem leave_agg {v u : V} (h : v.leave m σ = some u) : (v.tupV = false → u.tupV = false) ∧ (v.cells = [v] → u.cells = [u]) := by
  cases v with
  | d x => simp only [V.leave] at h; cases h; exact ⟨id, id⟩
  | eptr x off => simp only [V.leave] at h; cases h; exact ⟨id, id⟩
  | gptr x off => simp only [V.leave] at h; cases h; exact ⟨id, id⟩
  | ptr id off => simp only [V.leave] at h; cases hb : Nat.blt id m <;> rw [hb] at h <;> cases h; exact ⟨fun _ => rfl, fun _ => rfl⟩
  | sl sz l id => simp only [V.leave] at h; cases hb : Nat.blt id m <;> rw [hb] at h <;> cases h <;> exact ⟨fun _ => rfl, fun _ => rfl⟩
  | slo id off n =>
    simp only [V.leave] at h
    split at h
    · cases hb : Nat.blt id m <;> rw [hb] at h <;> cases h <;> exact ⟨fun _ => rfl, fun _ => rfl⟩
    · cases h
  | map id =>
    simp only [V.leave] at h
    split at h
    · cases hb : Nat.blt id m <;> rw [hb] at h <;> cases h <;> exact ⟨fun _ => rfl, fun _ => rfl⟩
    · cases h
  | func g l => simp only [V.leave] at h; split at h <;> cases h; exact ⟨fun _ => rfl, fun _ => rfl⟩
  | iface t x => simp only [V.leave] at h; split at h <;> cases h; exact ⟨fun _ => rfl, fun _ => rfl⟩
  | tup l => simp only [V.leave] at h; split at h <;> cases h; exact ⟨fun h => by simp [V.tupV] at h, fun _ => rfl⟩
  | agg l =>
    simp only [V.leave] at h
    split at h
    · cases h
      refine ⟨fun _ => by unfold mkAgg; split <;> rfl, fun hc => ?_⟩
      exfalso
      simp only [V.cells] at hc
      have := congrArg (fun x : List V => SizeOf.sizeOf x) hc
      simp at this
      omega
    · cases h

theorem leave_tup {v u : V} (h : v.leave m σ = some u) (ht : v.tupV = false) : u.tupV = false := (leave_agg h).1 ht

theorem leave_cells (h : Left m σ σ') (hi : Inv cx w σ μ) {v u : V} {vs : List Value} (hr : RVs w σ μ vs v.cells) (hu : v.leave m σ = some u) : RVs w σ' μ vs u.cells := by
  by_cases hc : v.cells = [v]
  · rw [(leave_agg hu).2 hc]
    rw [hc] at hr
    refine ⟨hr.1, fun i x y hx hy => ?_⟩
    cases i with
    | zero =>
      simp at hy; subst hy
      exact leave_rv h hi (hr.2 0 x v hx rfl) hu
    | succ i => simp at hy
  · cases v with
    | agg l =>
      simp only [V.leave] at hu
      split at hu
      · rename_i r hl
        cases hu
        rw [mkAgg_cells]
        obtain ⟨h1, h2⟩ := leaveL_spec hl
        refine ⟨by rw [h1]; exact hr.1, fun i x y hx hy => ?_⟩
        obtain ⟨z, hz⟩ := getSome (l := l) (i := i) (by rw [← h1]; exact (List.getElem?_eq_some_iff.1 hy).1)
        exact leave_rv h hi (hr.2 i x z hx hz) (h2 i z y hz hy)
      · cases hu
    | d x =>
      simp only [V.leave] at hu
      cases hu
      refine hr.map fun v y hy hv => ?_
      cases x with
      | agg l =>
        simp only [V.cells, List.mem_map] at hy
        obtain ⟨d, _, rfl⟩ := hy
        cases hv with | d _ _ hd => exact .d _ _ (hd.stays h.stays)
      | _ => exact (hc rfl).elim
    | _ => exact (hc rfl).elim

theorem Left.after (h : Left m σ σ') (hσ₀ : ∀ id o, getA σ₀ id = some o → id < m) (ha : After cx w₀ σ₀ μ₀ w σ μ) : After cx w₀ σ₀ μ₀ w σ' μ := by
  have hi := ha.inv
  have hst := h.stays (w := w) (μ := μ)
  refine ⟨⟨fun id o' ho' => ?_, fun id id' o o' b i ho ho' h1 h2 => ?_, fun g x hg => ?_, fun id o b i ho h1 => ?_, hi.frLt, hi.frMap⟩,
    ⟨ha.goes.kept, fun b i hb hm => ha.goes.own b i hb (let ⟨id, o, _, h1, h2⟩ := h.mine hm; ⟨id, o, h1, h2⟩), ha.goes.fr⟩, fun id o ho => ?_, ha.fr⟩
  · obtain ⟨o, ho, hl, hlt⟩ := h.back ho'
    have hok := hi.ob id o ho
    cases o with
    | val n v =>
      obtain ⟨u, hu, rfl⟩ := Option.map_eq_some_iff.1 hl
      obtain ⟨b, cs, el, hb, hh, hn, ht, h1, hr⟩ := hok
      exact ⟨b, cs, el, hb, hh, hn, leave_tup hu ht, h1, leave_cells h hi hr hu⟩
    | row l =>
      cases hl
      obtain ⟨b, cs, el, hb, hh, h1, hr⟩ := hok
      exact ⟨b, cs, el, hb, hh, h1, hr.stays hst⟩
    | tok n => cases hl; exact hok
    | map ks vs =>
      cases hl
      obtain ⟨b, es, clock, hb, hh, hk, hv⟩ := hok
      exact ⟨b, es, clock, hb, hh, hk.stays hst, hv.stays hst⟩
  · obtain ⟨p, hp, hl, _⟩ := h.back ho
    obtain ⟨p', hp', hl', _⟩ := h.back ho'
    exact hi.apart id id' p p' b i hp hp' ((leaveOb_owns hl).1 h1) ((leaveOb_owns hl').1 h2)
  · obtain ⟨xs, hc, hr⟩ := hi.glob g x hg
    exact ⟨xs, fun j hj => ⟨(hc j hj).1, fun ho => (hc j hj).2.1 (h.own ho), (hc j hj).2.2⟩, fun j c hj => (hr j c hj).stays hst⟩
  · obtain ⟨p, hp, hl, _⟩ := h.back ho
    exact hi.frame id p b i hp ((leaveOb_owns hl).1 h1)
  · obtain ⟨p, q, h1, h2, h3⟩ := h.get id (hσ₀ id o ho)
    have := ha.still id o ho
    rw [h1] at this
    rw [h2]
    cases p with
    | val n v => obtain ⟨u, hu, rfl⟩ := Option.map_eq_some_iff.1 h3; cases o <;> exact this
    | _ => cases h3; exact this

end
end Go.Vai
end

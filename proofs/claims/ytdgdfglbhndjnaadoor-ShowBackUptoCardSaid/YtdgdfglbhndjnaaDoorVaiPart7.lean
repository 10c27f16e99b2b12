/-
  What a call answers with fuel enough.
  What comes behind an operation may be drawn into it.
  Code, with all that comes behind drawn in; and how a call is shown.
  Loops by name, and what comes behind them.
  Places in the code by name: behind some of a region's operations.
-/
import Derived.Test.YtdgdfglbhndjnaaDoorVaiPart6

set_option linter.all false
set_option linter.unusedSimpArgs false
set_option linter.unusedVariables false

section
namespace Go.Vai

section
variable {R : Type} {cx : Cx}

/-- What a call answers, with fuel enough. -/
noncomputable def evLim (cx : Cx) : Caller := fun f args σ =>
  open Classical in if h : ∃ r n, evFun cx n f args σ = some r then some h.choose else none

theorem lim_ex {f : Nat} {args : List V} {σ : St} {r : Out × St} (h : evLim cx f args σ = some r) : ∃ n, evFun cx n f args σ = some r := by
  unfold evLim at h
  split at h
  · rename_i hex
    obtain ⟨n, hn⟩ := hex.choose_spec
    cases h
    exact ⟨n, hn⟩
  · cases h

theorem lim_of {f n : Nat} {args : List V} {σ : St} {r : Out × St} (h : evFun cx n f args σ = some r) : evLim cx f args σ = some r := by
  unfold evLim
  have hex : ∃ r n, evFun cx n f args σ = some r := ⟨r, n, h⟩
  rw [dif_pos hex]
  obtain ⟨k, hk⟩ := hex.choose_spec
  have h1 := evFun_mono n (max n k) (Nat.le_max_left _ _) f args σ _ h
  have h2 := evFun_mono k (max n k) (Nat.le_max_right _ _) f args σ _ hk
  rw [h1] at h2
  exact h2.symm

/-- From some number on. -/
def Ev (P : Nat → Prop) : Prop := ∃ n₀, ∀ n, n₀ ≤ n → P n

theorem Ev.mono {P Q : Nat → Prop} (h : Ev P) (hpq : ∀ n, P n → Q n) : Ev Q := let ⟨a, ha⟩ := h; ⟨a, fun n hn => hpq n (ha n hn)⟩

theorem Ev.both {P Q : Nat → Prop} (h : Ev P) (h' : Ev Q) : Ev fun n => P n ∧ Q n :=
  let ⟨a, ha⟩ := h; let ⟨b, hb⟩ := h'; ⟨max a b, fun n hn => ⟨ha n (by omega), hb n (by omega)⟩⟩

theorem lim_ev {f : Nat} {args : List V} {σ : St} {r : Out × St} (h : evLim cx f args σ = some r) : Ev fun n => evFun cx n f args σ = some r :=
  let ⟨k, hk⟩ := lim_ex h; ⟨k, fun n hn => evFun_mono k n hn f args σ r hk⟩

theorem callV_lim {σ : St} {t f : Nat} {args : List V} {xs : List Nat} {K : Oc → De → List Nat → Option R} {r : R} (h : callV cx (evLim cx) σ t f args xs K = some r) : Ev fun n => callV cx (evFun cx n) σ t f args xs K = some r := by
  unfold callV at h ⊢
  simp only at h ⊢
  obtain ⟨hc, h⟩ := must_some h
  obtain ⟨hd, h⟩ := must_some h
  rw [hc, hd]
  simp only [must, cond_true]
  cases hq : evLim cx f (V.renL (posIn (reach σ 1000 (V.idsL args ++ xs) [])) args) (renSt σ (reach σ 1000 (V.idsL args ++ xs) []) 0 (reach σ 1000 (V.idsL args ++ xs) [])) with
  | none => rw [hq] at h; cases h
  | some p =>
    rw [hq] at h
    exact (lim_ev hq).mono fun n hn => by rw [hn]; exact h

theorem Ev.all {P : Prop} (h : P) : Ev fun _ => P := ⟨0, fun _ _ => h⟩

theorem evOp_lim {m nt : Nat} {o : Oper} {fr : Fr} {σ : St} {p : Tri} (h : evOp1 cx m nt (evLim cx) o fr σ = some p) : Ev fun n => evOp1 cx m nt (evFun cx n) o fr σ = some p := by
  unfold evOp1 at h ⊢
  obtain ⟨dst, op, type, pos, after, guard⟩ := o
  cases op
  case makeFunc fn first caps => cases fn <;> exact .all h
  case makeMap t r => cases r <;> exact .all h
  case call c =>
    obtain ⟨callee, cargs, ctypes⟩ := c
    cases callee with
    | value f =>
      simp only [evOp] at h ⊢
      obtain ⟨v, hv, h⟩ := optK_some h
      simp only [hv, optK]
      split at h
      · cases hsm : (isSame cx.P _ && List.isEmpty _) <;> rw [hsm] at h <;> simp only [cond_true, cond_false] at h ⊢
        rotate_left
        · obtain ⟨l, hl, h⟩ := optK_some h
          simp only [hl]
          exact .all h
        cases hgv : cx.gives _ <;> rw [hgv] at h
        · cases hnil : (cx.keep _ && hasNil cargs.toList) <;> rw [hnil] at h
          · obtain ⟨l, hl, h⟩ := optK_some h
            simp only [hl, cond_false]
            exact callV_lim h
          · obtain ⟨l, hl, h⟩ := optK_some h
            obtain ⟨hc, h⟩ := must_some h
            simp only [hl, cond_true, cond_false, hc, must]
            exact callV_lim h
        · obtain ⟨l, hl, h⟩ := optK_some h
          obtain ⟨hc, h⟩ := must_some h
          simp only [hl, cond_true, hc, must]
          exact callV_lim h
      · cases h
    | invoke r nm => exact .all h
    | builtin b => cases b <;> exact .all h
  all_goals exact .all h

theorem guardV_lim {ops : List Oper} {o : Oper} {fr : Fr} {yes no : Fr → Option R} {yes' no' : Nat → Fr → Option R} {r : R} (hy : ∀ fr, yes fr = some r → Ev fun n => yes' n fr = some r)
    (hn : ∀ fr, no fr = some r → Ev fun n => no' n fr = some r) (h : guardV ops o fr yes no = some r) : Ev fun n => guardV ops o fr (yes' n) (no' n) = some r := by
  unfold guardV at h ⊢
  split at h
  · exact hy _ h
  · split at h
    · exact hn _ h
    · split at h
      · have key : ∀ (b want : Bool) (p q : Fr), (bif b then (bif want then yes p else no p) else (bif want then no q else yes q)) = some r →
            Ev fun n => (bif b then (bif want then yes' n p else no' n p) else (bif want then no' n q else yes' n q)) = some r := by
          intro b want p q h
          cases b <;> cases want <;> first | exact hy _ h | exact hn _ h
        exact key _ _ _ _ h
      · exact hn _ h
      · cases h

theorem evOps_lim {m nt : Nat} {ops : List Oper} {K : Ex → Fr → St → Option R} {K' : Nat → Ex → Fr → St → Option R} {r : R} (hK : ∀ e fr σ, K e fr σ = some r → Ev fun n => K' n e fr σ = some r) :
    ∀ (l : List Oper) (fr : Fr) (σ : St), evOps cx m nt (evLim cx) ops l fr σ K = some r → Ev fun n => evOps cx m nt (evFun cx n) ops l fr σ (K' n) = some r
  | [], fr, σ, h => hK _ _ _ h
  | o :: l, fr, σ, h => by
    unfold evOps at h ⊢
    obtain ⟨hd, h⟩ := must_some h
    rw [hd]
    simp only [must, cond_true]
    refine guardV_lim (fun fr h => ?_) (fun fr h => evOps_lim hK l _ _ h) h
    obtain ⟨p, hp, h⟩ := optK_some h
    obtain ⟨oc, δ, fp⟩ := p
    cases oc with
    | val v => exact ((evOp_lim hp).both (evOps_lim hK l _ _ h)).mono fun n hn => by simp only [hn.1, optK]; exact hn.2
    | pan v => exact ((evOp_lim hp).both (hK _ _ _ h)).mono fun n hn => by simp only [hn.1, optK]; exact hn.2

theorem evDraw_lim {m nt : Nat} {ops : List Oper} {pre : List Nat} {K : Ex → Fr → St → Option R} {K' : Nat → Ex → Fr → St → Option R} {r : R} (hK : ∀ e fr σ, K e fr σ = some r → Ev fun n => K' n e fr σ = some r) :
    ∀ (l : List Oper) (i : Nat) (log : List Log) (dead : Option (Nat × V)) (fr : Fr) (σ : St), evDraw cx m nt (evLim cx) ops pre i l log dead fr σ K = some r → Ev fun n => evDraw cx m nt (evFun cx n) ops pre i l log dead fr σ (K' n) = some r
  | [], i, log, none, fr, σ, h => by simp only [evDraw] at h ⊢; exact hK _ _ _ h
  | [], i, log, some (k, v), fr, σ, h => by
    simp only [evDraw] at h ⊢
    obtain ⟨hc, h⟩ := must_some h
    rw [hc]
    exact hK _ _ _ h
  | o :: l, i, log, dead, fr, σ, h => by
    simp only [evDraw] at h ⊢
    cases hd : deadDep pre i dead
    · rw [hd, cond_false] at h
      simp only [cond_false]
      obtain ⟨hc, h⟩ := must_some h
      rw [hc]
      simp only [must, cond_true]
      refine guardV_lim (fun fr h => ?_) (fun fr h => evDraw_lim hK l _ _ _ _ _ h) h
      obtain ⟨p, hp, h⟩ := optK_some h
      obtain ⟨hm, h⟩ := must_some h
      obtain ⟨oc, δ, fp⟩ := p
      cases oc with
      | val v => exact ((evOp_lim hp).both (evDraw_lim hK l _ _ _ _ _ h)).mono fun n hn => by simp only [hn.1, optK, hm, cond_true]; exact hn.2
      | pan v =>
        cases dead with
        | none => exact ((evOp_lim hp).both (evDraw_lim hK l _ _ _ _ _ h)).mono fun n hn => by simp only [hn.1, optK, hm, cond_true]; exact hn.2
        | some q => cases h
    · rw [hd, cond_true] at h
      simp only [cond_true]
      exact evDraw_lim hK l _ _ _ _ _ h

theorem pendV_lim {nt : Nat} {σ : St} {fr : Fr} {q : Pend} {K : Fr → St → Option R} {K' : Nat → Fr → St → Option R} {r : R} (hK : ∀ fr σ, K fr σ = some r → Ev fun n => K' n fr σ = some r) (h : pendV cx nt σ fr q K = some r) :
    Ev fun n => pendV cx nt σ fr q (K' n) = some r := by
  have key : ∃ fr' σ', K fr' σ' = some r ∧ ∀ K'' : Fr → St → Option R, K'' fr' σ' = some r → pendV cx nt σ fr q K'' = some r := by
    unfold pendV at h ⊢
    obtain ⟨hc, h⟩ := must_some h
    rw [hc]
    simp only [must, cond_true]
    split at h
    case h_2 => cases h
    obtain ⟨hc, h⟩ := must_some h
    simp only [hc, cond_true]
    obtain ⟨s, hs, h⟩ := optK_some h
    obtain ⟨pl, hpl, h⟩ := optK_some h
    obtain ⟨jv, hjv, h⟩ := optK_some h
    obtain ⟨v, hv, h⟩ := optK_some h
    obtain ⟨y, hy, h⟩ := optK_some h
    simp only [hs, hpl, hjv, hv, hy, optK]
    split at h
    case h_2 => cases h
    split at h
    case h_2 => cases h
    obtain ⟨hc, h⟩ := must_some h
    simp only [*, cond_true]
    obtain ⟨sz', ps, hd, h9⟩ := dataOf_run h
    obtain ⟨hc', h10⟩ := must_some h9
    refine ⟨_, _, h10, fun K'' hK'' => ?_⟩
    unfold dataOf at hd ⊢
    split at hd <;> first | (cases hd; done) | skip
    all_goals (cases hd; simp only [hc', cond_true]; exact hK'')
  obtain ⟨fr', σ', h1, h2⟩ := key
  exact (hK _ _ h1).mono fun n hn => h2 _ hn

theorem evPend_lim {nt : Nat} {ops : List Oper} {k : Nat} {fr : Fr} {σ : St} {K : List Oper → Fr → St → Option R} {K' : Nat → List Oper → Fr → St → Option R} {r : R} (hK : ∀ l fr σ, K l fr σ = some r → Ev fun n => K' n l fr σ = some r)
    (h : evPend cx nt ops k fr σ K = some r) : Ev fun n => evPend cx nt ops k fr σ (K' n) = some r := by
  unfold evPend at h ⊢
  split at h
  case h_2 => cases h
  obtain ⟨q, hq, h⟩ := optK_some h
  simp only [hq, optK]
  exact pendV_lim (fun fr σ h => hK _ _ _ h) h

theorem evTail_lim {nt : Nat} {ops : List Oper} {k : Nat} {fr : Fr} {σ : St} {K : Fr → St → Option R} {K' : Nat → Fr → St → Option R} {r : R} (hK : ∀ fr σ, K fr σ = some r → Ev fun n => K' n fr σ = some r) (h : evTail cx nt ops k fr σ K = some r) : Ev fun n => evTail cx nt ops k fr σ (K' n) = some r := by
  unfold evTail at h ⊢
  split at h
  case h_2 => cases h
  obtain ⟨q, hq, h⟩ := optK_some h
  simp only [hq, optK]
  refine pendV_lim (fun fr σ h => ?_) h
  split at h
  case h_2 => cases h
  obtain ⟨hc, h⟩ := must_some h
  obtain ⟨pv, hpv, h⟩ := optK_some h
  obtain ⟨v, hv, h⟩ := optK_some h
  simp only [hc, hpv, hv, optK, cond_true, must]
  split at h
  case h_2 => cases h
  split at h
  case h_2 => cases h
  rename_i hido
  obtain ⟨hc, h⟩ := must_some h
  simp only [hido, hc, cond_true]
  exact hK _ _ h

theorem tidy_lim {m f key : Nat} {fr : Fr} {σ : St} {K : Fr → St → Option R} {K' : Nat → Fr → St → Option R} {r : R} (hK : ∀ fr σ, K fr σ = some r → Ev fun n => K' n fr σ = some r) (h : tidy cx m f key fr σ K = some r) :
    Ev fun n => tidy cx m f key fr σ (K' n) = some r := by
  unfold tidy at h ⊢
  simp only at h ⊢
  obtain ⟨hc, h⟩ := must_some h
  rw [hc]
  exact hK _ _ h

theorem evCode_lim {f m nt N : Nat} : ∀ (c : Code) {K : Ex → Fr → St → Option R} {K' : Nat → Ex → Fr → St → Option R} {r : R} {fr : Fr} {σ : St},
    (∀ e fr σ, K e fr σ = some r → Ev fun n => K' n e fr σ = some r) → evCode cx f m nt (evLim cx) N c fr σ K = some r → Ev fun n => evCode cx f m nt (evFun cx n) n c fr σ (K' n) = some r := by
  intro c
  induction c with
  | skip => intro K K' r fr σ hK h; exact hK _ _ _ h
  | label l => intro K K' r fr σ hK h; exact hK _ _ _ h
  | exit id => intro K K' r fr σ hK h; exact hK _ _ _ h
  | goto l => intro K K' r fr σ hK h; exact hK _ _ _ h
  | ret => intro K K' r fr σ hK h; exact hK _ _ _ h
  | refuse why => intro K K' r fr σ hK h; cases h
  | rangeFunc f params assign body _ _ => intro K K' r fr σ hK h; cases h
  | region id ops draw =>
    intro K K' r fr σ hK h
    cases draw
    · simp only [evCode] at h ⊢
      generalize cx.pend f id = pk at h ⊢
      cases pk with
      | none => exact evOps_lim hK _ _ _ h
      | some k =>
        refine evOps_lim (K' := fun n e fr σ => _) (fun e fr σ h => ?_) _ _ _ h
        cases e with
        | normal => exact evPend_lim (fun l fr σ h => evOps_lim hK _ _ _ h) h
        | _ => exact hK _ _ _ h
    · simp only [evCode] at h ⊢
      generalize cx.pend f id = pk at h ⊢
      cases pk with
      | none =>
        obtain ⟨hc, h⟩ := must_some h
        rw [hc]
        exact evDraw_lim hK _ _ _ _ _ _ h
      | some k =>
        simp only at h ⊢
        obtain ⟨hc1, h⟩ := must_some h
        obtain ⟨hc, h⟩ := must_some h
        rw [hc1, hc]
        refine evDraw_lim (K' := fun n e fr σ => _) (fun e fr σ h => ?_) _ _ _ _ _ _ h
        cases e with
        | normal => exact evTail_lim (fun fr σ h => hK _ _ _ h) h
        | _ => exact hK _ _ _ h
  | seq x y ihx ihy =>
    intro K K' r fr σ hK h
    refine ihx (fun e fr σ h => ?_) h
    cases e with
    | normal => exact ihy hK h
    | _ => exact hK _ _ _ h
  | cond c x y ihx ihy =>
    intro K K' r fr σ hK h
    simp only [evCode] at h ⊢
    obtain ⟨v, hv, h⟩ := optK_some h
    obtain ⟨b, rfl, h⟩ := asB_some h
    simp only [hv, optK, asB]
    cases b
    · exact ihy hK h
    · exact ihx hK h
  | block id c ih =>
    intro K K' r fr σ hK h
    refine ih (fun e fr σ h => ?_) h
    cases e with
    | normal => exact tidy_lim (fun fr σ h => hK _ _ _ h) h
    | exit i =>
      simp only at h ⊢
      cases hb : Nat.beq i id <;> rw [hb] at h
      · exact hK _ _ _ h
      · exact tidy_lim (fun fr σ h => hK _ _ _ h) h
    | _ => exact hK _ _ _ h
  | loop c ih =>
    intro K K' r fr σ hK h
    simp only [evCode] at h ⊢
    refine tidy_lim (fun fr σ h => ?_) h
    have key : ∀ (k : Nat), ∀ (fr : Fr) (σ : St), iter (evCode cx f m nt (evLim cx) N c) (tidy cx m f (2 * firstRegion c + 1)) k fr σ K = some r →
        Ev fun n => ∀ k', k ≤ k' → iter (evCode cx f m nt (evFun cx n) n c) (tidy cx m f (2 * firstRegion c + 1)) k' fr σ (K' n) = some r := by
      intro k
      induction k with
      | zero => intro fr σ h; cases h
      | succ k ihk =>
        intro fr σ h
        simp only [iter] at h
        have h1 : Ev fun n => ∀ k', k ≤ k' → iter (evCode cx f m nt (evFun cx n) n c) (tidy cx m f (2 * firstRegion c + 1)) (k' + 1) fr σ (K' n) = some r := by
          -- one number of rounds for all
          have := ih (K := fun e fr σ => match e with
            | .normal => tidy cx m f (2 * firstRegion c + 1) fr σ fun fr σ => iter (evCode cx f m nt (evLim cx) N c) (tidy cx m f (2 * firstRegion c + 1)) k fr σ K
            | e => K e fr σ)
            (K' := fun n e fr σ => match e with
            | .normal => tidy cx m f (2 * firstRegion c + 1) fr σ fun fr σ => iter (evCode cx f m nt (evFun cx n) n c) (tidy cx m f (2 * firstRegion c + 1)) k fr σ (K' n)
            | e => K' n e fr σ) (r := r) (fr := fr) (σ := σ) (fun e fr σ h => by
              cases e with
              | normal => exact tidy_lim (fun fr σ h => (ihk fr σ h).mono fun n hn => hn k (Nat.le_refl k)) h
              | _ => exact hK _ _ _ h) h
          refine this.mono fun n hn k' hk' => ?_
          simp only [iter]
          have hmono : ∀ (k k' : Nat), k ≤ k' → ∀ (fr : Fr) (σ : St), iter (evCode cx f m nt (evFun cx n) n c) (tidy cx m f (2 * firstRegion c + 1)) k fr σ (K' n) = some r →
              iter (evCode cx f m nt (evFun cx n) n c) (tidy cx m f (2 * firstRegion c + 1)) k' fr σ (K' n) = some r := by
            intro k
            induction k with
            | zero => intro k' _ fr σ h; cases h
            | succ k ihk =>
              intro k' hle fr σ h
              obtain ⟨k', rfl⟩ : ∃ j, k' = j + 1 := ⟨k' - 1, by omega⟩
              simp only [iter] at h ⊢
              refine evCode_mono (fun _ _ _ _ _ h => h) (Nat.le_refl _) c (fun e fr σ h => ?_) h
              cases e with
              | normal => exact tidy_mono (fun fr σ h => ihk k' (by omega) _ _ h) h
              | _ => exact h
          refine evCode_mono (fun _ _ _ _ _ h => h) (Nat.le_refl _) c (fun e fr σ h => ?_) hn
          cases e with
          | normal => exact tidy_mono (fun fr σ h => hmono k k' hk' _ _ h) h
          | _ => exact h
        refine h1.mono fun n hn k' hk' => ?_
        obtain ⟨k', rfl⟩ : ∃ j, k' = j + 1 := ⟨k' - 1, by omega⟩
        exact hn k' (by omega)
    obtain ⟨a, ha⟩ := key N fr σ h
    exact ⟨max a N, fun n hn => ha n (by omega) n (by omega)⟩
  | scope c ih =>
    intro K K' r fr σ hK h
    refine ih (fun e fr σ h => ?_) h
    cases e with
    | goto l => cases h
    | _ => exact hK _ _ _ h

theorem evPre_lim {f m nt N : Nat} : ∀ (as : List Code) {K : Ex → Fr → St → Option R} {K' : Nat → Ex → Fr → St → Option R} {r : R} {fr : Fr} {σ : St},
    (∀ e fr σ, K e fr σ = some r → Ev fun n => K' n e fr σ = some r) → evPre cx f m nt (evLim cx) N as fr σ K = some r → Ev fun n => evPre cx f m nt (evFun cx n) n as fr σ (K' n) = some r
  | [], K, K', r, fr, σ, hK, h => hK _ _ _ h
  | c :: as, K, K', r, fr, σ, hK, h => by
    simp only [evPre] at h ⊢
    refine evCode_lim c (fun e fr σ h => ?_) h
    cases e with
    | normal => exact evPre_lim as hK h
    | _ => exact hK _ _ _ h

theorem evRec_lim {N g : Nat} {args : List V} {σ σ' : St} {u : Option D} (h : evRec cx (evLim cx) N g args σ u = some σ') : Ev fun n => evRec cx (evFun cx n) n g args σ u = some σ' := by
  unfold evRec at h ⊢
  split at h
  · cases h
  · rename_i fn hfn
    split at h
    · rename_i id ops c hb
      split at h
      · rename_i o r hops
        obtain ⟨t, ht, h⟩ := optK_some h
        obtain ⟨hc, h⟩ := must_some h
        simp only [hops, ht, optK, hc, must, cond_true]
        rw [hops] at h
        refine evOps_lim (fun e fr σ h => ?_) _ _ _ h
        cases e with
        | normal => exact evCode_lim c (fun _ _ _ h => .all h) h
        | _ => cases h
      · cases h
    · cases h

theorem callD_lim {N : Nat} {σ : St} {g : Nat} {cap : List V} {u : Option D} {K : De → Option R} {r : R}
    (h : callD cx (evRec cx (evLim cx) N) σ g cap u K = some r) : Ev fun n => callD cx (evRec cx (evFun cx n) n) σ g cap u K = some r := by
  unfold callD at h ⊢
  simp only at h ⊢
  obtain ⟨hc, h⟩ := must_some h
  rw [hc]
  simp only [must, cond_true]
  cases hq : evRec cx (evLim cx) N g (V.renL (posIn (reach σ 1000 (V.idsL cap) [])) cap) (renSt σ (reach σ 1000 (V.idsL cap) []) 0 (reach σ 1000 (V.idsL cap) [])) u with
  | none => rw [hq] at h; cases h
  | some p => rw [hq] at h; exact (evRec_lim hq).mono fun n hn => by rw [hn]; exact h

theorem endD_lim {N f m : Nat} {res : List ResultVar} {g : Nat} {cap : List V} {e : Ex} {fr : Fr} {σ : St} {r : Out × St}
    (h : endD cx (evRec cx (evLim cx) N) f m res g cap e fr σ = some r) : Ev fun n => endD cx (evRec cx (evFun cx n) n) f m res g cap e fr σ = some r := by
  unfold endD at h ⊢
  split at h
  · exact callD_lim h
  · exact callD_lim h
  · exact callD_lim h
  · cases h

theorem evDfr_lim {f m nt N : Nat} {res : List ResultVar} {c : Code} {fr : Fr} {σ : St} {r : Out × St}
    (h : evDfr cx f m nt res (evLim cx) N c fr σ = some r) : Ev fun n => evDfr cx f m nt res (evFun cx n) n c fr σ = some r := by
  unfold evDfr at h ⊢
  split at h
  · cases h
  · rename_i as id ops t b hsp
    refine evPre_lim as (K' := fun n e fr σ => _) (fun e fr σ h => ?_) h
    cases e with
    | normal =>
      refine evOps_lim (K' := fun n e fr σ => _) (fun e fr σ h => ?_) _ _ _ h
      cases e with
      | normal =>
        simp only at h ⊢
        obtain ⟨fv, hfv, h⟩ := optK_some h
        simp only [hfv, optK]
        split at h
        · obtain ⟨ht, h⟩ := must_some h
          simp only [ht, must, cond_true]
          exact evCode_lim b (fun e fr σ h => endD_lim h) h
        · cases h
      | _ => exact .all h
    | _ => exact .all h

/-- A call is what its body makes of what the calls in it are. -/
theorem lim_with {N f : Nat} {args : List V} {σ : St} {r : Out × St} (h : evWith cx (evLim cx) N f args σ = some r) : evLim cx f args σ = some r := by
  have : Ev fun n => evWith cx (evFun cx n) n f args σ = some r := by
    unfold evWith at h ⊢
    split at h
    · exact .all h
    split at h
    · cases h
    · rename_i fn hfn
      split at h
      · cases h
      · rename_i c hc
        cases hd : cx.dfr f <;> rw [hd] at h
        · exact evCode_lim c (fun e fr σ h => .all h) h
        · exact evDfr_lim h
  obtain ⟨a, ha⟩ := this
  exact lim_of (n := a + 1) (by rw [evFun_with]; exact ha a (Nat.le_refl a))

end
end Go.Vai
end

section
namespace Go.Vai

section
variable {α R : Type} {cx : Cx} {σ : St}

theorem appendV_push (site t : Nat) (s x : V) (b : Bool) (F : V → De → List Nat → Option α) (K : α → Option R) : optK (appendV cx σ site t s x b F) K = appendV cx σ site t s x b fun a b c => optK (F a b c) K := by
  unfold appendV
  split <;> try rfl
  simp only [dataOf_push, optK_must, optK_cond]
  congr 1; funext a l; congr 1; congr 1
  split <;> try rfl
  split <;> simp only [optK_must, optK_none']
theorem sliceV_push (site t : Nat) (x : V) (lo hi mx : Option V) (F : V → De → List Nat → Option α) (K : α → Option R) : optK (sliceV cx σ site t x lo hi mx F) K = sliceV cx σ site t x lo hi mx fun a b c => optK (F a b c) K := by
  unfold sliceV
  split <;> try rfl
  · split <;> simp only [bound_push, optK_none']
  · simp only [dataS_push, optK_must]
    congr 1; congr 1; funext a l; congr 1
    split <;> simp only [bound_push, optK_must, optK_cond]
theorem lenV_push (t : Nat) (x : V) (F : V → List Nat → Option α) (K : α → Option R) : optK (lenV cx σ t x F) K = lenV cx σ t x fun a b => optK (F a b) K := by
  unfold lenV
  split <;> try rfl
  split <;> rfl
theorem indexAddrV_push (t : Nat) (x i : V) (F : V → Option α) (K : α → Option R) : optK (indexAddrV cx t x i F) K = indexAddrV cx t x i fun a => optK (F a) K := by
  unfold indexAddrV
  split <;> try rfl
  all_goals
    simp only [optK_must]
    congr 1
    split <;> simp only [index_push, nthD_push, optK_must, optK_none']
theorem fieldAddrV_push (s : Nat) (x : V) (f : Nat) (F : V → Option α) (K : α → Option R) : optK (fieldAddrV cx s x f F) K = fieldAddrV cx s x f fun a => optK (F a) K := by
  unfold fieldAddrV
  simp only [optK_optK, optK_must]
  congr 1; funext p; congr 1
  split <;> rfl
theorem partV_push (t : Nat) (v : V) (off : Nat) (F : V → Option α) (K : α → Option R) : optK (partV cx t v off F) K = partV cx t v off fun a => optK (F a) K := by
  unfold partV
  simp only [optK_must, optK_cond, nthV_push, castV_push]
theorem indexV_push (t : Nat) (x i : V) (F : V → Option α) (K : α → Option R) : optK (indexV cx t x i F) K = indexV cx t x i fun a => optK (F a) K := by
  unfold indexV
  split <;> try rfl
  · split <;> simp only [index_push, optK_optK, optK_none']
  · simp only [index_push, partV_push]

theorem assertV_push (P : Program) (t : Nat) (ok : Bool) (x : V) (F : V → Option α) (K : α → Option R) : optK (assertV P t ok x F) K = assertV P t ok x fun a => optK (F a) K := by
  unfold assertV
  rw [optK_must]
  split
  · rw [optK_cond]; rfl
  · rfl

theorem oneV_push (l : List V) (F : V → Option α) (K : α → Option R) : optK (oneV l F) K = oneV l fun a => optK (F a) K := by
  unfold oneV
  split <;> rfl

theorem convU_push (s t : Nat) (x : V) (F : V → List Nat → Option α) (K : α → Option R) : optK (convU cx σ s t x F) K = convU cx σ s t x fun a b => optK (F a b) K := by
  unfold convU
  split <;> try rfl
  split <;> simp only [optK_must, optK_none']

/-- What comes behind an operation may be drawn into it. -/
theorem evOp_push {m nt : Nat} {call : Caller} {o : Oper} {fr : Fr} (F : Oc → De → List Nat → Option α) (K : α → Option R) : optK (evOp cx m nt call o fr σ F) K = evOp cx m nt call o fr σ fun a b c => optK (F a b c) K := by
  obtain ⟨dst, op, type, pos, after, guard⟩ := o
  cases op
  case makeFunc fn first caps => cases fn <;> simp only [evOp, optK_must, optK_optK, optK_none']
  case makeMap t r => cases r <;> simp only [evOp, optK_must, optK_none']
  case move x | assign x =>
    simp only [evOp]
    split
    · split <;> try rfl
      split <;> rfl
    · simp only [optK_optK]
  case buildSlice t n ps =>
    simp only [evOp]
    cases isBare cx nt dst ps.toList <;> split <;> simp only [optK_optK, optK_must, optK_none', cond_true, cond_false]
  case nilCheck x =>
    simp only [evOp, optK_optK]
    congr 1; funext v
    split <;> rfl
  case convert s t x =>
    simp only [evOp, optK_optK]
    congr 1; funext v
    split
    · split <;> simp only [optK_must, optK_none']
    · simp only [convV_push, convU_push, optK_cond]
  case makeInterface t x =>
    simp only [evOp]
    split <;> try rfl
    simp only [optK_optK]
    congr 1; funext v
    split <;> rfl
  case panic x =>
    simp only [evOp, optK_optK]
    congr 1; funext v
    split <;> rfl
  case call c =>
    obtain ⟨callee, cargs, ctypes⟩ := c
    cases callee with
    | value f =>
      simp only [evOp, optK_optK]
      congr 1; funext v
      split
      · simp only [optK_cond, optK_optK, optK_must, callV_push, oneV_push]
      · rfl
    | invoke r nm => rfl
    | builtin b =>
      cases b <;> try rfl
      · simp only [evOp]
        split <;> simp only [optK_optK, optK_must, appendV_push, optK_none']
      · simp only [evOp]
        split <;> simp only [optK_optK, lenV_push, optK_none']
  all_goals first | rfl | (simp only [evOp, optK_optK, optK_must, optK_cond, optK_none', asB_push, loadV_push, storeV_push, binV_push, unV_push, opdO_push, sliceV_push, fieldAddrV_push, partV_push, indexAddrV_push, indexV_push, asTup_push, nthV_push, assertV_push]; done)

theorem evOp1_push {m nt : Nat} {call : Caller} {o : Oper} {fr : Fr} (K : Tri → Option R) : optK (evOp1 cx m nt call o fr σ) K = evOp cx m nt call o fr σ fun a b c => K (a, b, c) := by
  unfold evOp1
  rw [evOp_push]
  rfl

/-- A caller that takes what comes behind. -/
structure CK (R : Type) where
  S : Caller
  run : Nat → List V → St → (Out → St → Option R) → Option R
  ok : ∀ g a σ K, run g a σ K = (match S g a σ with | some (o, σ') => K o σ' | none => none)

def CK.plain {R : Type} (S : Caller) : CK R := ⟨S, fun g a σ K => match S g a σ with | some (o, σ') => K o σ' | none => none, fun _ _ _ _ => rfl⟩

instance {R : Type} : Coe Caller (CK R) := ⟨CK.plain⟩

def callVK (cx : Cx) (call : CK R) (σ : St) (t f : Nat) (args : List V) (xs : List Nat) (K : Oc → De → List Nat → Option R) : Option R :=
  let ren := reach σ 1000 (V.idsL args ++ xs) []
  must (closedIn σ (V.idsL args ++ xs) ren) <| must (cx.dom f (V.renL (posIn ren) args)) <| call.run f (V.renL (posIn ren) args) (renSt σ ren 0 ren) fun oc σ' => match oc with
    | .ret v => backOb ren σ σ' 0 ren fun δ => castOut cx.P t (v.ren (atIn ren)) fun v => K (.val v) δ ren
    | .pan v => backOb ren σ σ' 0 ren fun δ => K (.pan (v.ren (atIn ren))) δ ren

theorem callVK_eq {call : CK R} {t f : Nat} {args : List V} {xs : List Nat} {K : Oc → De → List Nat → Option R} : callVK cx call σ t f args xs K = callV cx call.S σ t f args xs K := by
  unfold callVK callV
  simp only
  congr 1
  congr 1
  rw [call.ok]
  cases call.S f (V.renL (posIn (reach σ 1000 (V.idsL args ++ xs) [])) args) (renSt σ (reach σ 1000 (V.idsL args ++ xs) []) 0 (reach σ 1000 (V.idsL args ++ xs) [])) with
  | none => rfl
  | some p =>
    obtain ⟨o, s⟩ := p
    cases o <;> rfl

/-- One operation; what comes behind a call is handed to the caller. -/
def evOpK (cx : Cx) (m nt : Nat) (call : CK R) (o : Oper) (fr : Fr) (σ : St) (K : Oc → De → List Nat → Option R) : Option R :=
  match o.op with
  | .call ⟨.value f, cargs, ctypes⟩ => optK (opd fr f) fun fv => (match fv with
        | .func g cap => bif isSame cx.P g && cap.isEmpty then optK (argsOf cx.P fr cargs.toList ctypes.toList) fun l => oneV l fun v => K (.val v) [] [] else bif cx.gives g
          then optK (argsOf cx.P fr cargs.toList ctypes.toList) fun l => must (freshAll σ [(m + o.dst.getD 0, .tok 0)]) (callVK cx call (putA σ (m + o.dst.getD 0) (.tok 0)) o.type g (handArgs (cx.keep g) l ++ cap) [m + o.dst.getD 0] fun oc δ fp => K oc ((m + o.dst.getD 0, .tok 0) :: δ) ((m + o.dst.getD 0) :: fp))
          else bif cx.keep g && hasNil cargs.toList
          then optK (argsNil cx.P fr (m + o.dst.getD 0) cargs.toList ctypes.toList) fun l => must (freshAll σ [(m + o.dst.getD 0, .tok 0)]) (callVK cx call (putA σ (m + o.dst.getD 0) (.tok 0)) o.type g (l ++ cap) [] fun oc δ fp => K oc ((m + o.dst.getD 0, .tok 0) :: δ) ((m + o.dst.getD 0) :: fp))
          else optK (argsOf cx.P fr cargs.toList ctypes.toList) fun args => callVK cx call σ o.type g (handArgs (cx.keep g) args ++ cap) [] K
        | _ => none)
  | _ => evOp cx m nt call.S o fr σ K

theorem evOpK_eq {m nt : Nat} {call : CK R} {o : Oper} {fr : Fr} {K : Oc → De → List Nat → Option R} : evOpK cx m nt call o fr σ K = evOp cx m nt call.S o fr σ K := by
  obtain ⟨dst, op, type, pos, after, guard⟩ := o
  cases op <;> try rfl
  case call c =>
    obtain ⟨callee, cargs, ctypes⟩ := c
    cases callee <;> try rfl
    unfold evOpK evOp
    simp only [callVK_eq]
    congr 1

/-- Operations in the text's order: what comes behind drawn in. -/
def evOpsC (cx : Cx) (m nt : Nat) (call : CK R) (ops : List Oper) : List Oper → Fr → St → (Ex → Fr → St → Option R) → Option R
  | [], fr, σ, K => K .normal fr σ
  | o :: r, fr, σ, K => must (dstOk nt o.dst) <| guardV ops o fr
      (fun fr => evOpK cx m nt call o fr σ fun oc δ _ => match oc with
        | .val v => evOpsC cx m nt call ops r (putF fr o.dst v) (applyDe σ δ) K
        | .pan v => K (.pan v) fr (applyDe σ δ))
      (fun fr => evOpsC cx m nt call ops r (putF fr o.dst undefV) σ K)

theorem evOps_C {m nt : Nat} {call : CK R} {ops : List Oper} {K : Ex → Fr → St → Option R} : ∀ (l : List Oper) (fr : Fr) (σ : St), evOps cx m nt call.S ops l fr σ K = evOpsC cx m nt call ops l fr σ K
  | [], _, _ => rfl
  | o :: l, fr, σ => by
    unfold evOps evOpsC
    congr 1
    congr 1
    · funext fr
      rw [evOp1_push, evOpK_eq]
      congr 1
      funext oc δ fp
      cases oc with
      | val v => exact evOps_C l _ _
      | pan v => rfl
    · funext fr
      exact evOps_C l _ _

/-- Operations whose order is open: what comes behind drawn in. -/
def evDrawC (cx : Cx) (m nt : Nat) (call : CK R) (ops : List Oper) (pre : List Nat) :
    Nat → List Oper → List Log → Option (Nat × V) → Fr → St → (Ex → Fr → St → Option R) → Option R
  | _, [], _, none, fr, σ, K => K .normal fr σ
  | _, [], log, some (k, v), _, σ, K => must (log.all fun a => a.w.isEmpty || Nat.beq a.i k || preHas pre k a.i) (K (.pan v) [] σ)
  | i, o :: r, log, dead, fr, σ, K =>
      bif deadDep pre i dead then evDrawC cx m nt call ops pre (i + 1) r log dead fr σ K
      else must (dstOk nt o.dst) <| guardV ops o fr
        (fun fr => evOpK cx m nt call o fr σ fun oc δ fp => must (log.all fun a => meetOk pre a ⟨i, δ.map (·.1) ++ fp, δ.map (·.1)⟩) (match oc, dead with
          | .val u, _ => evDrawC cx m nt call ops pre (i + 1) r (⟨i, δ.map (·.1) ++ fp, δ.map (·.1)⟩ :: log) dead (putF fr o.dst u) (applyDe σ δ) K
          | .pan v, none => evDrawC cx m nt call ops pre (i + 1) r (⟨i, δ.map (·.1) ++ fp, δ.map (·.1)⟩ :: log) (some (i, v)) fr (applyDe σ δ) K
          | .pan _, some _ => none))
        (fun fr => evDrawC cx m nt call ops pre (i + 1) r log dead (putF fr o.dst undefV) σ K)

theorem evDraw_C {m nt : Nat} {call : CK R} {ops : List Oper} {pre : List Nat} {K : Ex → Fr → St → Option R} : ∀ (l : List Oper) (i : Nat) (log : List Log) (dead : Option (Nat × V)) (fr : Fr) (σ : St),
    evDraw cx m nt call.S ops pre i l log dead fr σ K = evDrawC cx m nt call ops pre i l log dead fr σ K
  | [], _, _, none, _, _ => rfl
  | [], _, _, some _, _, _ => rfl
  | o :: l, i, log, dead, fr, σ => by
    unfold evDraw evDrawC
    rw [evDraw_C l]
    congr 1
    congr 1
    congr 1
    · funext fr
      rw [evOp1_push, evOpK_eq]
      congr 1
      funext oc δ fp
      congr 1
      cases oc with
      | val v => exact evDraw_C l _ _ _ _ _
      | pan v =>
        cases dead with
        | none => exact evDraw_C l _ _ _ _ _
        | some q => rfl
    · funext fr
      exact evDraw_C l _ _ _ _ _

end
end Go.Vai
end

section
namespace Go.Vai

section
variable {R : Type} {cx : Cx}

def evCodeC (cx : Cx) (f m nt : Nat) (call : CK R) (n : Nat) : Code → Fr → St → (Ex → Fr → St → Option R) → Option R
  | .skip, fr, σ, K => K .normal fr σ
  | .label _, fr, σ, K => K .normal fr σ
  | .region id ops false, fr, σ, K => (match cx.pend f id with
      | none => evOpsC cx m nt call ops.toList ops.toList fr σ K
      | some k => evOpsC cx m nt call ops.toList (ops.toList.take k) fr σ fun e fr σ => match e with
          | .normal => evPend cx nt ops.toList k fr σ fun r fr σ => evOpsC cx m nt call ops.toList r fr σ K
          | e => K e fr σ)
  | .region id ops true, fr, σ, K => (match cx.pend f id with
      | none => must (drawOk ops.toList (pres ops.toList [])) (evDrawC cx m nt call ops.toList (pres ops.toList []) 0 ops.toList [] none fr σ K)
      | some k => must (tailOk ops.toList k) <| must (drawOk ops.toList (pres ops.toList [])) (evDrawC cx m nt call ops.toList (pres ops.toList []) 0 (ops.toList.take k) [] none fr σ fun e fr σ => match e with
          | .normal => evTail cx nt ops.toList k fr σ (K .normal)
          | e => K e fr σ))
  | .seq a b, fr, σ, K => evCodeC cx f m nt call n a fr σ fun e fr σ => match e with
      | .normal => evCodeC cx f m nt call n b fr σ K
      | e => K e fr σ
  | .cond c a b, fr, σ, K => optK (opd fr c) fun v => asB v fun t => bif t then evCodeC cx f m nt call n a fr σ K else evCodeC cx f m nt call n b fr σ K
  | .block id c, fr, σ, K => evCodeC cx f m nt call n c fr σ fun e fr σ => match e with
      | .normal => tidy cx m f (2 * id) fr σ (K .normal)
      | .exit id' => bif Nat.beq id' id then tidy cx m f (2 * id) fr σ (K .normal) else K (.exit id') fr σ
      | e => K e fr σ
  | .loop c, fr, σ, K => tidy cx m f (2 * firstRegion c + 1) fr σ fun fr σ =>
      iter (evCodeC cx f m nt call n c) (tidy cx m f (2 * firstRegion c + 1)) n fr σ K
  | .exit id, fr, σ, K => K (.exit id) fr σ
  | .goto l, fr, σ, K => K (.goto l) fr σ
  | .ret, fr, σ, K => K .ret fr σ
  | .scope c, fr, σ, K => evCodeC cx f m nt call n c fr σ fun e fr σ => match e with
      | .goto _ => none
      | e => K e fr σ
  | _, _, _, _ => none

theorem evCode_C {f m nt n : Nat} {call : CK R} : ∀ (c : Code) (fr : Fr) (σ : St) (K : Ex → Fr → St → Option R), evCode cx f m nt call.S n c fr σ K = evCodeC cx f m nt call n c fr σ K := by
  intro c
  induction c with
  | skip => intros; rfl
  | label l => intros; rfl
  | exit id => intros; rfl
  | goto l => intros; rfl
  | ret => intros; rfl
  | refuse why => intros; rfl
  | rangeFunc f params assign body _ _ => intros; rfl
  | region id ops draw =>
    intro fr σ K
    cases draw
    · unfold evCode evCodeC
      cases cx.pend f id with
      | none => exact evOps_C _ _ _
      | some k =>
        simp only [evOps_C]
        rfl
    · unfold evCode evCodeC
      cases cx.pend f id with
      | none => simp only [evDraw_C]
      | some k =>
        simp only [evDraw_C]
        rfl
  | seq x y ihx ihy =>
    intro fr σ K
    unfold evCode evCodeC
    rw [ihx]
    congr 1
    funext e fr σ
    cases e <;> first | rfl | exact ihy _ _ _
  | cond c x y ihx ihy =>
    intro fr σ K
    unfold evCode evCodeC
    simp only [ihx, ihy]
  | block id c ih =>
    intro fr σ K
    unfold evCode evCodeC
    rw [ih]
    congr 1
  | loop c ih =>
    intro fr σ K
    unfold evCode evCodeC
    congr 1
    funext fr σ
    have e : (fun (fr : Fr) (σ : St) (K : Ex → Fr → St → Option R) => evCode cx f m nt call.S n c fr σ K) = fun fr σ K => evCodeC cx f m nt call n c fr σ K := by
      funext fr σ K
      exact ih fr σ K
    exact congrArg (fun body => iter body (tidy cx m f (2 * firstRegion c + 1)) n fr σ K) e
  | scope c ih =>
    intro fr σ K
    unfold evCode evCodeC
    rw [ih]
    congr 1

def evPreC (cx : Cx) (f m nt : Nat) (call : CK R) (n : Nat) : List Code → Fr → St → (Ex → Fr → St → Option R) → Option R
  | [], fr, σ, K => K .normal fr σ
  | a :: r, fr, σ, K => evCodeC cx f m nt call n a fr σ fun e fr σ => match e with
      | .normal => evPreC cx f m nt call n r fr σ K
      | e => K e fr σ

theorem evPre_C {f m nt n : Nat} {call : CK R} : ∀ (as : List Code) (fr : Fr) (σ : St) (K : Ex → Fr → St → Option R), evPre cx f m nt call.S n as fr σ K = evPreC cx f m nt call n as fr σ K
  | [], _, _, _ => rfl
  | a :: as, fr, σ, K => by
    unfold evPre evPreC
    rw [evCode_C]
    congr 1
    funext e fr σ
    cases e <;> first | rfl | exact evPre_C as _ _ _

def evRecC (cx : Cx) (call : Caller) (n g : Nat) (args : List V) (σ : St) (u : Option D) : Option St :=
  match cx.P.funcs[g]? with
  | none => none
  | some fn =>
    match fn.body with
    | some (.seq (.region _ ops false) c) =>
      (match ops.toList with
       | o :: r => optK (recovers o) fun t => must (Nat.blt t fn.ntmps && fn.results.isEmpty) <|
          evOpsC cx σ.length fn.ntmps (CK.plain call) ops.toList r ((t, .d (recD u)) :: numbered 0 args) σ fun e fr σ' => match e with
            | .normal => evCodeC cx g σ.length fn.ntmps (CK.plain call) n c fr σ' fun e _ σ' => (match e with | .normal | .ret => leaveSt σ.length σ' (List.range σ.length) | _ => none)
            | _ => none
       | [] => none)
    | _ => none

theorem evRec_C {call : Caller} {n : Nat} : evRec cx call n = evRecC cx call n := by
  funext g args σ u
  unfold evRec evRecC
  have e : ∀ {R : Type}, (CK.plain call : CK R).S = call := rfl
  simp only [← evOps_C, ← evCode_C, e]
  rfl

def evDfrC (cx : Cx) (f m nt : Nat) (res : List ResultVar) (call : CK (Out × St)) (n : Nat) (c : Code) (fr : Fr) (σ : St) : Option (Out × St) :=
  match splitD c with
  | none => none
  | some (as, _, ops, t, b) =>
    evPreC cx f m nt call n as fr σ fun e fr σ => match e with
      | .normal => evOpsC cx m nt call ops.toList ops.toList.dropLast fr σ fun e fr σ => (match e with
          | .normal => optK (getA fr t) fun fv => (match fv with
              | .func g cap => must (!hasTidy b) (evCodeC cx f m nt call n b fr σ (endD cx (evRecC cx call.S n) f m res g cap))
              | _ => none)
          | e => endK cx f m res e fr σ)
      | e => endK cx f m res e fr σ

theorem evDfr_C {f m nt n : Nat} {res : List ResultVar} {call : CK (Out × St)} {c : Code} {fr : Fr} {σ : St} : evDfr cx f m nt res call.S n c fr σ = evDfrC cx f m nt res call n c fr σ := by
  unfold evDfr evDfrC
  simp only [evPre_C, evOps_C, evCode_C, evRec_C]
  rfl

/-- A call's body, with what is known of calls. -/
def evBody (cx : Cx) (call : CK (Out × St)) (n f : Nat) (args : List V) (σ : St) : Option (Out × St) :=
  match cx.nat f args σ with
  | some r => some r
  | none =>
  match cx.P.funcs[f]? with
  | none => none
  | some fn =>
    match fn.body with
    | none => none
    | some c => bif cx.dfr f then evDfrC cx f σ.length fn.ntmps fn.results.toList call n c (numbered 0 args) σ
      else evCodeC cx f σ.length fn.ntmps call n c (numbered 0 args) σ (endK cx f σ.length fn.results.toList)

theorem evWith_body {call : CK (Out × St)} {n f : Nat} {args : List V} {σ : St} : evWith cx call.S n f args σ = evBody cx call n f args σ := by
  unfold evWith evBody
  simp only [evDfr_C, evCode_C]
  rfl

/-- So a call is shown: its body, by what is known of the calls in it. -/
theorem lim_bodyK {call : CK (Out × St)} (hk : knows cx call.S (evLim cx)) {N f : Nat} {args : List V} {σ : St} {r : Out × St} (h : evBody cx call N f args σ = some r) : evLim cx f args σ = some r :=
  lim_with (N := N) (evWith_mono hk (Nat.le_refl N) f args σ r (by rw [evWith_body]; exact h))

theorem lim_body {call : Caller} (hk : knows cx call (evLim cx)) {N f : Nat} {args : List V} {σ : St} {r : Out × St} (h : evBody cx (CK.plain call) N f args σ = some r) : evLim cx f args σ = some r :=
  lim_bodyK (call := CK.plain call) hk h

end
end Go.Vai
end

section
namespace Go.Vai

section
variable {R : Type}

def codeOf (cx : Cx) (f : Nat) : Code := match cx.P.funcs[f]? with | some fn => (match fn.body with | some c => c | none => .skip) | none => .skip
def ntOf (cx : Cx) (f : Nat) : Nat := match cx.P.funcs[f]? with | some fn => fn.ntmps | none => 0
def resOf (cx : Cx) (f : Nat) : List ResultVar := match cx.P.funcs[f]? with | some fn => fn.results.toList | none => []

/-- The loop whose first region is numbered so. -/
def findLoop (r : Nat) : Code → Option Code
  | .loop c => bif Nat.beq (firstRegion c) r then some c else findLoop r c
  | .seq a b => (match findLoop r a with | some c => some c | none => findLoop r b)
  | .cond _ a b => (match findLoop r a with | some c => some c | none => findLoop r b)
  | .block _ c => findLoop r c
  | .scope c => findLoop r c
  | _ => none

def loopC (cx : Cx) (f r : Nat) : Code := match findLoop r (codeOf cx f) with | some c => c | none => .skip

/-- A loop. -/
def LP (cx : Cx) (call : CK R) (n f m r k : Nat) (fr : Fr) (σ : St) (K : Ex → Fr → St → Option R) : Option R :=
  iter (evCodeC cx f m (ntOf cx f) call n (loopC cx f r)) (tidy cx m f (2 * r + 1)) k fr σ K

/-- What comes behind a loop in some code. -/
def ctxK (cx : Cx) (f m nt : Nat) (call : CK R) (n r : Nat) : Code → (Ex → Fr → St → Option R) → Option (Ex → Fr → St → Option R)
  | .loop c, K => bif Nat.beq (firstRegion c) r then some K else none
  | .seq a b, K => (match ctxK cx f m nt call n r a (fun e fr σ => match e with
      | .normal => evCodeC cx f m nt call n b fr σ K
      | e => K e fr σ) with | some k => some k | none => ctxK cx f m nt call n r b K)
  | .cond _ a b, K => (match ctxK cx f m nt call n r a K with | some k => some k | none => ctxK cx f m nt call n r b K)
  | .block id c, K => ctxK cx f m nt call n r c fun e fr σ => match e with
      | .normal => tidy cx m f (2 * id) fr σ (K .normal)
      | .exit id' => bif Nat.beq id' id then tidy cx m f (2 * id) fr σ (K .normal) else K (.exit id') fr σ
      | e => K e fr σ
  | .scope c, K => ctxK cx f m nt call n r c fun e fr σ => match e with
      | .goto _ => none
      | e => K e fr σ
  | _, _ => none

/-- Behind a loop of a function. -/
def AK (cx : Cx) (call : CK R) (n f m r : Nat) (K : Ex → Fr → St → Option R) : Ex → Fr → St → Option R :=
  match ctxK cx f m (ntOf cx f) call n r (codeOf cx f) K with | some k => k | none => fun _ _ _ => none

/-- Behind a round of a loop. -/
def inK (cx : Cx) (call : CK R) (n f m r k : Nat) (K : Ex → Fr → St → Option R) : Ex → Fr → St → Option R := fun e fr σ =>
  match e with
  | .normal => tidy cx m f (2 * r + 1) fr σ fun fr σ => LP cx call n f m r k fr σ K
  | e => K e fr σ

/-- Behind a loop in a loop. -/
def AL (cx : Cx) (call : CK R) (n f m r r' : Nat) (K : Ex → Fr → St → Option R) : Ex → Fr → St → Option R :=
  match ctxK cx f m (ntOf cx f) call n r' (loopC cx f r) K with | some k => k | none => fun _ _ _ => none

def EK (cx : Cx) (f m : Nat) : Ex → Fr → St → Option (Out × St) := endK cx f m (resOf cx f)

end
end Go.Vai
end

section
namespace Go.Vai

section
variable {R : Type}

/-- The operations of a region. -/
def findRegion (r : Nat) : Code → Option (List Oper)
  | .region id ops _ => bif Nat.beq id r then some ops.toList else none
  | .loop c => findRegion r c
  | .seq a b => (match findRegion r a with | some c => some c | none => findRegion r b)
  | .cond _ a b => (match findRegion r a with | some c => some c | none => findRegion r b)
  | .block _ c => findRegion r c
  | .scope c => findRegion r c
  | _ => none

def regOps (cx : Cx) (f r : Nat) : List Oper := match findRegion r (codeOf cx f) with | some l => l | none => []

/-- What comes behind a region in some code. -/
def ctxR (cx : Cx) (f m nt : Nat) (call : CK R) (n r : Nat) : Code → (Ex → Fr → St → Option R) → Option (Ex → Fr → St → Option R)
  | .region id _ _, K => bif Nat.beq id r then some K else none
  | .seq a b, K => (match ctxR cx f m nt call n r a (fun e fr σ => match e with
      | .normal => evCodeC cx f m nt call n b fr σ K
      | e => K e fr σ) with | some k => some k | none => ctxR cx f m nt call n r b K)
  | .cond _ a b, K => (match ctxR cx f m nt call n r a K with | some k => some k | none => ctxR cx f m nt call n r b K)
  | .block id c, K => ctxR cx f m nt call n r c fun e fr σ => match e with
      | .normal => tidy cx m f (2 * id) fr σ (K .normal)
      | .exit id' => bif Nat.beq id' id then tidy cx m f (2 * id) fr σ (K .normal) else K (.exit id') fr σ
      | e => K e fr σ
  | .scope c, K => ctxR cx f m nt call n r c fun e fr σ => match e with
      | .goto _ => none
      | e => K e fr σ
  | _, _ => none

/-- Behind a region of a function. -/
def AR (cx : Cx) (call : CK R) (n f m r : Nat) (K : Ex → Fr → St → Option R) : Ex → Fr → St → Option R :=
  match ctxR cx f m (ntOf cx f) call n r (codeOf cx f) K with | some k => k | none => fun _ _ _ => none

/-- Behind a region of a loop's round. -/
def RL (cx : Cx) (call : CK R) (n f m r0 r : Nat) (K : Ex → Fr → St → Option R) : Ex → Fr → St → Option R :=
  match ctxR cx f m (ntOf cx f) call n r (loopC cx f r0) K with | some k => k | none => fun _ _ _ => none

/-- A region from some operation on. -/
def OPS (cx : Cx) (call : CK R) (n f m r j : Nat) (fr : Fr) (σ : St) (K : Ex → Fr → St → Option R) : Option R :=
  evOpsC cx m (ntOf cx f) call (regOps cx f r) ((regOps cx f r).drop j) fr σ K

/-- A region of open order from some operation on. -/
def DRW (cx : Cx) (call : CK R) (n f m r j : Nat) (log : List Log) (fr : Fr) (σ : St) (K : Ex → Fr → St → Option R) : Option R :=
  evDrawC cx m (ntOf cx f) call (regOps cx f r) (pres (regOps cx f r) []) j ((regOps cx f r).drop j) log none fr σ K

theorem asAgg_at {l : List D} {n : Nat} {K : D → Option R} (h : Nat.beq l.length n = true) : asAgg (.agg l) n K = K (.agg l) := by
  show (bif Nat.beq l.length n then K (.agg l) else none) = _
  rw [h]; rfl

end
end Go.Vai
end

/-
  Calls of functions: the whole.
  The rows' readings are plain data.
  A law's call, from outside.
  More fuel, and what is known of calls.
  What a call answers with fuel enough.
  What comes behind an operation may be drawn into it.
  Code, with all that comes behind drawn in; and how a call is shown.
  Loops by name, and what comes behind them.
  Places in the code by name: behind some of a region's operations.
-/
import Derived.Test.YtkaopadaeefoiaaDoorVaiPart4
import Derived.ProofKit
import Derived.OpenShut
import Derived.Deep.DeepHandedRow
import Derived.MakeChecks

set_option linter.all false
set_option linter.unusedSimpArgs false
set_option linter.unusedVariables false

section
namespace Go.Vai

section
variable {R : Type} {cx : Cx} {m nt : Nat} {w w₀ : World} {σ σ' σ₀ : St} {μ μ₀ : Mu}

/-- What one result is read by. -/
def resOne (tmps : Array Value) : ResultVar → Sem Value
  | .tmp t => pure (tmps.getD t undef)
  | .cell a t => do loadVar t (← asAddr (tmps.getD a undef))

theorem RV.isPtr {v : Value} {x : V} {t : Nat} {K : V → List Nat → Option R} {r : R} (hv : RV w σ μ v x) (h : loadV cx σ t x K = some r) : ∃ a, v = .pointer (some a) := by
  unfold loadV at h
  replace h := (must_some h).2
  cases hv with
  | ptr id off b hc hb => exact ⟨_, rfl⟩
  | eptr x b o off xs hc hh => exact ⟨_, rfl⟩
  | gptr g off => exact ⟨_, rfl⟩
  | _ => cases h

theorem resV_ok (hi : Inv cx w σ μ) {fr : Fr} {tmps : Array Value} (hf : FR w σ μ tmps fr) : ∀ (l : List ResultVar) {K : List V → Option R} {r : R}, resV cx fr σ l K = some r →
    ∃ vs, K vs = some r ∧ ∃ us, (l.mapM (resOne tmps)).run cx.P w = .ok us w ∧ RVs w σ μ us vs
  | [], K, r, h => ⟨[], h, [], by simp, rfl, by simp⟩
  | .tmp t :: l, K, r, h => by
    simp only [resV] at h
    obtain ⟨v, hv, h⟩ := optK_some h
    obtain ⟨vs, hK, us, hr, h1, h2⟩ := resV_ok hi hf l h
    refine ⟨v :: vs, hK, tmps.getD t undef :: us, ?_, by simp [h1], fun i x y hx hy => ?_⟩
    · rw [List.mapM_cons, Sem.run_bind]
      simp only [resOne, Sem.run_pure, Result.andThen_ok, Sem.run_bind, hr]
    · cases i with
      | zero => simp only [List.getElem?_cons_zero, Option.some.injEq] at hx hy; subst hx; subst hy; exact hf t v hv
      | succ i => exact h2 i x y (by simpa using hx) (by simpa using hy)
  | .cell a t :: l, K, r, h => by
    simp only [resV] at h
    obtain ⟨p, hp, h⟩ := optK_some h
    have hpr := hf a p hp
    obtain ⟨ad, had⟩ := hpr.isPtr h
    obtain ⟨v, fp, h, v', hrun, hv⟩ := loadV_ok hi hpr h
    obtain ⟨vs, hK, us, hr, h1, h2⟩ := resV_ok hi hf l h
    have hrun' : (loadVar t ad).run cx.P w = .ok v' w := by
      rw [had] at hrun
      simpa [Instr.loadAt, Instr.sureAddr] using hrun
    refine ⟨v :: vs, hK, v' :: us, ?_, by simp [h1], fun i x y hx hy => ?_⟩
    · rw [List.mapM_cons, Sem.run_bind]
      simp only [resOne, Sem.run_bind, had, asAddr, Sem.run_pure, Result.andThen_ok, hrun', hr]
    · cases i with
      | zero => simp at hx hy; subst hx; subst hy; exact hv
      | succ i => exact h2 i x y (by simpa using hx) (by simpa using hy)

def oneVal : List Value → Value
  | [v] => v
  | us => .tuple us.toArray

theorem results_run {fn : Func} {tmps : Array Value} {P : Program} {us : List Value} (h : (fn.results.toList.mapM (resOne tmps)).run P w = .ok us w) :
    (results fn tmps).run P w = .ok (oneVal us) w := by
  have e : results fn tmps = (fn.results.mapM (resOne tmps) >>= fun vs => pure (if h : vs.size = 1 then vs[0] else .tuple vs)) := by
    unfold results
    congr 1
  have h' : (fn.results.mapM (resOne tmps)).run P w = .ok us.toArray w := by
    rw [Array.mapM_eq_mapM_toList, Sem.run_map, h]; rfl
  rw [e, Sem.run_bind, h', Result.andThen_ok]
  match us with
  | [] => simp [oneVal]
  | [v] => simp [oneVal]
  | v :: u :: us => simp [oneVal]

theorem oneOrTup_ok {us : List Value} {vs : List V} (h : RVs w σ μ us vs) : RV w σ μ (oneVal us) (oneOrTup vs) := by
  have tup : RV w σ μ (.tuple us.toArray) (.tup vs) := .tup _ _ (by simpa using h.1) fun i x y hx hy => h.2 i x y (by simpa using hx) hy
  match us, vs, h.1 with
  | [], [], _ => exact tup
  | [u], [v], _ => exact h.2 0 u v rfl rfl
  | _ :: _ :: _, _ :: _ :: _, _ => exact tup

theorem getA_numbered : ∀ (k : Nat) (l : List V) (t : Nat) (v : V), getA (numbered k l) t = some v → ∃ i, t = k + i ∧ l[i]? = some v
  | _, [], _, _, h => by cases h
  | k, u :: l, t, v, h => by
    simp only [numbered, getA] at h
    cases hb : Nat.beq k t <;> rw [hb] at h
    · obtain ⟨i, h1, h2⟩ := getA_numbered (k + 1) l t v h
      exact ⟨i + 1, by omega, by simpa using h2⟩
    · obtain rfl := Nat.eq_of_beq_eq_true hb
      cases h
      exact ⟨0, rfl, rfl⟩

theorem evFun_ok (hn : noRoutines cx.P) (hmix : cx.P.follows .mixedOrders = true) : ∀ n, CallOk cx (evFun cx n) := by
  intro n
  induction n with
  | zero => intro f args σ out σ' h; cases h
  | succ n ih =>
    intro f args σ out σ' h w μ vs hi hcan hids hall hvs
    simp only [evFun] at h
    split at h
    · cases h
    rename_i fn hfn
    split at h
    · cases h
    rename_i c hc
    have hσ₀ : ∀ id o, getA σ id = some o → id < σ.length := fun id o ho => (hcan id o ho).1
    have hbody : fn.body.isNone = false := by rw [hc]; rfl
    let facts : Prop := (∀ k o, getA σ' k = some o → k < σ.length ∧ ∀ i ∈ o.ids, i < σ.length) ∧ (∀ i ∈ (match out with | .ret v => v.ids | .pan v => v.ids), i < σ.length)
    let post : Ending → World → Prop := fun e w' => ∃ μ', After cx w σ μ w' σ' μ' ∧
      match out, e with
      | .ret v, .returned x => RV w' σ' μ' x v
      | .pan v, .panicked chain => ∃ x, chain = [{ v := x, recovered := false }] ∧ RV w' σ' μ' x v
      | _, _ => False
    have hrun : Calls cx.P f vs.toArray w fun e w' => facts ∧ post e w' := by
      refine calls_of_wp hfn hc (evCode_ok (w₀ := w) (μ₀ := μ) (nt := fn.ntmps) ih hn hmix hσ₀ c h (fun e fr τ hK x a w₁ μ₁ hx hnow => ?_) (μ := μ) ⟨After.refl hi, ?_, ?_, rfl⟩)
      · -- the end
        have left : ∀ {v u : V} {τ' : St}, v.leave σ.length τ = some u → leaveSt σ.length τ (List.range σ.length) = some τ' → (∀ k o, getA τ' k = some o → k < σ.length ∧ ∀ i ∈ o.ids, i < σ.length) ∧ (∀ i ∈ u.ids, i < σ.length) ∧
            After cx w σ μ w₁ τ' μ₁ ∧ ∀ x, RV w₁ τ μ₁ x v → RV w₁ τ' μ₁ x u := by
          intro v u τ' hu hτ
          have hl := Left.of hτ
          refine ⟨fun k o ho => ?_, V.leave_ids _ _ _ _ hu, hl.after hσ₀ hnow.after, fun x hx => leave_rv hl hnow.after.inv hx hu⟩
          obtain ⟨p, _, hp, hlt⟩ := hl.back ho
          exact ⟨hlt, leaveOb_ids hp⟩
        have ret : (resV cx fr τ fn.results.toList fun vs =>
              (match (oneOrTup vs).leave σ.length τ, leaveSt σ.length τ (List.range σ.length) with | some v, some s => some (.ret v, s) | _, _ => none)) = some (out, σ') →
            ∃ v, (results fn a.tmps).run cx.P w₁ = .ok v w₁ ∧ (facts ∧ post (.returned v) w₁) := by
          intro h
          obtain ⟨vs, h, us, hr, hrvs⟩ := resV_ok hnow.after.inv hnow.fr _ h
          split at h
          · rename_i u τ' hu hτ
            cases h
            obtain ⟨g1, g2, g3, g4⟩ := left hu hτ
            exact ⟨_, results_run hr, ⟨g1, g2⟩, μ₁, g3, g4 _ (oneOrTup_ok hrvs)⟩
          · cases h
        cases e with
        | normal =>
          cases x <;> first | exact hx.elim | skip
          exact ⟨hnow.defers, ret hK⟩
        | ret =>
          cases x <;> first | exact hx.elim | skip
          exact ⟨hnow.defers, ret hK⟩
        | pan v =>
          cases x <;> first | exact hx.elim | skip
          rename_i chain
          simp only at hK
          split at hK
          · rename_i u τ' hu hτ
            cases hK
            obtain ⟨g1, g2, g3, g4⟩ := left hu hτ
            obtain ⟨y, hy, hr⟩ := hx
            exact ⟨hnow.defers, ⟨g1, g2⟩, μ₁, g3, y, hy, g4 y hr⟩
          · cases hK
        | _ => cases hK
      · -- the beginning
        intro t v ht
        obtain ⟨i, rfl, hv⟩ := getA_numbered 0 args t v ht
        rw [Nat.zero_add]
        have hlt : i < vs.length := by rw [hvs.1]; exact (List.getElem?_eq_some_iff.1 hv).1
        have : (vs.toArray ++ Array.replicate (fn.ntmps - vs.toArray.size) undef).getD i undef = vs[i] := by
          simp [Array.getD_eq_getD_getElem?, Array.getElem?_append, hlt]
        rw [this]
        exact hvs.2 i _ v (by simp) hv
      · simp; omega
    obtain ⟨e, w', fr, ⟨hfacts, _⟩, _⟩ := hrun []
    exact ⟨⟨fn, hfn, hbody⟩, hfacts.1, hfacts.2, hrun.mono fun e w' h => by
      obtain ⟨μ', haf, hm⟩ := h.2
      exact ⟨μ', haf, by cases out <;> cases e <;> exact hm⟩⟩

end
end Go.Vai
end

section
namespace Go.Vai
open Go.ChangeShapes Go.WideShapes Go.ChangeAt Go.RowKit

section
variable {H : Type}

def noOwn : Own := fun _ _ => False

def offsOk (P : Program) : Nat → List Field → Nat → Bool
  | off, [], n => Nat.beq off n
  | off, f :: fs, n => Nat.beq f.offset off && offsOk P (off + P.cellsOf f.type) fs n

def plainFields (r : TypeId → DataW H → Option (List D)) : List Field → List (DataW H) → Option (List D)
  | [], [] => some []
  | f :: fs, p :: ps => (match r f.type p, plainFields r fs ps with | some a, some b => some (a ++ b) | _, _ => none)
  | _, _ => none

def plainParts (r : DataW H → Option (List D)) : List (DataW H) → Option (List D)
  | [] => some []
  | p :: ps => (match r p, plainParts r ps with | some a, some b => some (a ++ b) | _, _ => none)

def elemOf (agg : Bool) (cs : List D) : D := bif agg then .agg cs else cs.headD .nilIface

def plainEls (agg : Bool) (r : DataW H → Option (List D)) : List (DataW H) → Option (List D)
  | [] => some []
  | p :: ps => (match r p, plainEls agg r ps with | some a, some b => some (elemOf agg a :: b) | _, _ => none)

/-- A reading, as the interpreter's data, cell by cell. -/
def plainD (P : Program) : Nat → TypeId → DataW H → Option (List D)
  | 0, _, _ => none
  | n + 1, t, d =>
    match P.underlying t, d with
    | some .bool, .lit (.bool b) => some [.bool b]
    | some (.int k), .lit (.int _ z) => some [.int k z]
    | some .string, .lit (.string s) => some [.str s]
    | some (.pointer _), .nil => some [.nilptr]
    | some (.slice e), .nil => some [.sl (P.cellsOf e) []]
    | some (.slice e), .slice els _ => bif Nat.beq (P.cellsOf e) 0 then none else (plainEls (aggTy P e) (plainD P n e) els).map fun l => [.sl (P.cellsOf e) l]
    | some (.struct fs), .agg ps => bif offsOk P 0 fs.toList (P.cellsOf t) then plainFields (plainD P n) fs.toList ps else none
    | some (.array m e), .agg ps => bif Nat.beq ps.length m && Nat.beq (m * P.cellsOf e) (P.cellsOf t) then plainParts (plainD P n e) ps else none
    | _, _ => none

variable {enc : TypeId × Value → H} {P : Program} {w : World} {base : Nat} {spare : Nat → Bool} {held : Bool}

theorem RDs.append {own : Own} {vs ws : List Value} {l k : List D} (h : RDs w own vs l) (h' : RDs w own ws k) : RDs w own (vs ++ ws) (l ++ k) := by
  refine ⟨by simp [h.1, h'.1], fun i x y hx hy => ?_⟩
  by_cases hi : i < vs.length
  · rw [List.getElem?_append_left hi] at hx
    rw [List.getElem?_append_left (by rw [← h.1]; exact hi)] at hy
    exact h.2 i x y hx hy
  · rw [List.getElem?_append_right (by omega)] at hx
    rw [List.getElem?_append_right (by rw [← h.1]; omega)] at hy
    rw [← h.1] at hy
    exact h'.2 _ x y hx hy

theorem RDs.one {own : Own} {v : Value} {d : D} (h : RD w own v d) : RDs w own [v] [d] := ⟨rfl, fun i x y hx hy => by
  cases i with
  | zero => simp at hx hy; subst hx; subst hy; exact h
  | succ i => simp at hx⟩

/-- A value of a type that is no struct or array is one cell. -/
theorem plain_one {n : Nat} {t : TypeId} {d : DataW H} {ds : List D} (ha : aggTy P t = false) (h : plainD P n t d = some ds) : ∃ y, ds = [y] ∧ y.cells = [y] := by
  cases n with
  | zero => cases h
  | succ n =>
    unfold aggTy at ha
    simp only [plainD] at h
    split at h <;> first | (cases h; exact ⟨_, rfl, rfl⟩) | skip
    · cases hb : Nat.beq (P.cellsOf _) 0 <;> rw [hb] at h
      · obtain ⟨l, _, rfl⟩ := Option.map_eq_some_iff.1 h
        exact ⟨_, rfl, rfl⟩
      · cases h
    · rename_i hu; rw [hu] at ha; cases ha
    · rename_i hu; rw [hu] at ha; cases ha
    · cases h

theorem plainFields_ok {n : Nat} {m : Nat} {cs : List Value} (hp : ∀ {t cs x ds}, DataW.trod enc P w base spare held m t cs = some x → plainD P n t x.1 = some ds → RDs w noOwn cs ds ∧ ∀ c ∈ cs, c.oneCell' = true) :
    ∀ (fs : List Field) (xs : List (DataW H × List MemPlace)) (off : Nat) (ds : List D), xs.length = fs.length → off ≤ cs.length → offsOk P off fs cs.length = true →
      (∀ (i : Nat) f, fs[i]? = some f → DataW.trod enc P w base spare held m f.type ((cs.drop f.offset).take (P.cellsOf f.type)) = xs[i]?) →
      plainFields (plainD P n) fs (xs.map (·.1)) = some ds → RDs w noOwn (cs.drop off) ds ∧ ∀ c ∈ cs.drop off, c.oneCell' = true
  | [], xs, off, ds, hl, hle, ho, _, h => by
    obtain rfl := List.eq_nil_of_length_eq_zero hl
    simp only [List.map_nil, plainFields] at h
    cases h
    have : off = cs.length := Nat.eq_of_beq_eq_true ho
    rw [List.drop_eq_nil_of_le (by omega)]
    exact ⟨⟨rfl, by simp⟩, by simp⟩
  | f :: fs, xs, off, ds, hl, hle, ho, ht, h => by
    match xs, hl with
    | x :: xs, hl =>
      simp only [List.map_cons, plainFields] at h
      split at h
      · rename_i a b h1 h2
        cases h
        simp only [offsOk, Bool.and_eq_true] at ho
        obtain ⟨ho1, ho2⟩ := ho
        have ho1 := Nat.eq_of_beq_eq_true ho1
        have hx := ht 0 f rfl
        simp only [List.getElem?_cons_zero] at hx
        rw [ho1] at hx
        obtain ⟨g1, g2⟩ := hp hx h1
        have hle2 : off + P.cellsOf f.type ≤ cs.length := by
          -- the offsets rise to the end
          have key : ∀ (l : List Field) (o : Nat), offsOk P o l cs.length = true → o ≤ cs.length := by
            intro l
            induction l with
            | nil => intro o ho; exact Nat.le_of_eq (Nat.eq_of_beq_eq_true ho)
            | cons f l ih =>
              intro o ho
              simp only [offsOk, Bool.and_eq_true] at ho
              have := ih _ ho.2
              omega
          exact key fs _ ho2
        obtain ⟨k1, k2⟩ := plainFields_ok hp fs xs _ b (by simpa using hl) hle2 ho2 (fun i f' hf' => by simpa using ht (i + 1) f' (by simpa using hf')) h2
        have hsplit : cs.drop off = (cs.drop off).take (P.cellsOf f.type) ++ cs.drop (off + P.cellsOf f.type) := by
          rw [← List.drop_drop, List.take_append_drop]
        rw [hsplit]
        exact ⟨g1.append k1, fun c hc => (List.mem_append.1 hc).elim (g2 c) (k2 c)⟩
      · cases h

theorem plainParts_ok {n m : Nat} {e : TypeId} {cs : List Value} (hp : ∀ {t cs x ds}, DataW.trod enc P w base spare held m t cs = some x → plainD P n t x.1 = some ds → RDs w noOwn cs ds ∧ ∀ c ∈ cs, c.oneCell' = true) :
    ∀ (xs : List (DataW H × List MemPlace)) (k : Nat) (ds : List D), (k + xs.length) * P.cellsOf e = cs.length →
      (∀ (i : Nat), i < xs.length → DataW.trod enc P w base spare held m e ((cs.drop ((k + i) * P.cellsOf e)).take (P.cellsOf e)) = xs[i]?) →
      plainParts (plainD P n e) (xs.map (·.1)) = some ds → RDs w noOwn (cs.drop (k * P.cellsOf e)) ds ∧ ∀ c ∈ cs.drop (k * P.cellsOf e), c.oneCell' = true
  | [], k, ds, hl, _, h => by
    simp only [List.map_nil, plainParts] at h
    cases h
    rw [List.drop_eq_nil_of_le (by simp at hl; omega)]
    exact ⟨⟨rfl, by simp⟩, by simp⟩
  | x :: xs, k, ds, hl, ht, h => by
    simp only [List.map_cons, plainParts] at h
    split at h
    · rename_i a b h1 h2
      cases h
      have hx := ht 0 (by simp)
      simp only [List.getElem?_cons_zero, Nat.add_zero] at hx
      obtain ⟨g1, g2⟩ := hp hx h1
      obtain ⟨k1, k2⟩ := plainParts_ok hp xs (k + 1) b (by rw [← hl]; congr 1; simp; omega) (fun i hi => by
        have := ht (i + 1) (by simpa using hi)
        rw [show k + 1 + i = k + (i + 1) by omega]
        simpa using this) h2
      have hsplit : cs.drop (k * P.cellsOf e) = (cs.drop (k * P.cellsOf e)).take (P.cellsOf e) ++ cs.drop ((k + 1) * P.cellsOf e) := by
        rw [Nat.succ_mul, ← List.drop_drop, List.take_append_drop]
      rw [hsplit]
      exact ⟨g1.append k1, fun c hc => (List.mem_append.1 hc).elim (g2 c) (k2 c)⟩
    · cases h

theorem plainEls_spec {agg : Bool} {r : DataW H → Option (List D)} : ∀ {ps : List (DataW H)} {l : List D}, plainEls agg r ps = some l → l.length = ps.length ∧ ∀ (i : Nat) p y, ps[i]? = some p → l[i]? = some y → ∃ ds, r p = some ds ∧ y = elemOf agg ds
  | [], l, h => by simp only [plainEls] at h; cases h; simp
  | p :: ps, l, h => by
    simp only [plainEls] at h
    split at h
    · rename_i a b h1 h2
      cases h
      obtain ⟨g1, g2⟩ := plainEls_spec h2
      refine ⟨by simp [g1], fun i q y hq hy => ?_⟩
      cases i with
      | zero => simp at hq hy; subst hq; subst hy; exact ⟨a, h1, rfl⟩
      | succ i => exact g2 i q y (by simpa using hq) (by simpa using hy)
    · cases h

/-- What is read of memory is plain data there. -/
theorem trod_rd : ∀ (n m : Nat) (t : TypeId) (cs : List Value) (x : DataW H × List MemPlace) (ds : List D), DataW.trod enc P w base spare held m t cs = some x → plainD P n t x.1 = some ds →
    RDs w noOwn cs ds ∧ ∀ c ∈ cs, c.oneCell' = true := by
  intro n
  induction n with
  | zero => intro m t cs x ds _ h; cases h
  | succ n ih =>
    intro m t cs x ds hx h
    obtain ⟨d, pl⟩ := x
    simp only [plainD] at h
    split at h
    · rename_i b hu
      obtain ⟨b', h1, h2⟩ := DataW.trod_bool hu hx
      subst h1; cases h2; cases h
      exact ⟨RDs.one (.bool _), by simp [Value.oneCell']⟩
    · rename_i k k' z hu
      obtain ⟨z', h1, h2, _⟩ := DataW.trod_int hu hx
      subst h1; cases h2; cases h
      exact ⟨RDs.one (.int _ _), by simp [Value.oneCell']⟩
    · rename_i s hu
      obtain ⟨s', h1, h2, _⟩ := DataW.trod_string hu hx
      subst h1; cases h2; cases h
      refine ⟨RDs.one ?_, by simp [Value.oneCell']⟩
      have : s' = strB s'.data.toList := by simp [strB]
      conv => arg 3; rw [this]
      exact .str _
    · rename_i e hu
      rcases DataW.trod_pointer hu hx with ⟨h1, h2⟩ | ⟨a, cs', y, n', _, h1, h2, _⟩
      · subst h1; cases h
        exact ⟨RDs.one .nilptr, by simp [Value.oneCell']⟩
      · cases h2
    · rename_i e hu
      rcases DataW.trod_slice hu hx with ⟨h1, h2⟩ | ⟨a, len, cap, elems, rest, n', _, h1, h2, _⟩
      · subst h1; cases h
        exact ⟨RDs.one (.sl0 none 0 _), by simp [Value.oneCell']⟩
      · cases h2
    · rename_i e els sp hu
      cases hb : Nat.beq (P.cellsOf e) 0 <;> rw [hb] at h
      · rw [cond_false] at h
        obtain ⟨l, hl, rfl⟩ := Option.map_eq_some_iff.1 h
        rcases DataW.trod_slice hu hx with ⟨h1, h2⟩ | ⟨a, len, cap, elems, rest, n', _, h1, h2, hba, hle, _, hlen, hel, _⟩
        · cases h2
        · subst h1
          simp only [Prod.mk.injEq, DataW.slice.injEq] at h2
          obtain ⟨⟨rfl, rfl⟩, _⟩ := h2
          have hc0 : P.cellsOf e ≠ 0 := fun e0 => by rw [e0] at hb; cases hb
          refine ⟨RDs.one ?_, by simp [Value.oneCell']⟩
          obtain ⟨hl1, hl2⟩ := plainEls_spec hl
          simp only [List.length_map, hlen] at hl1
          by_cases h0 : len = 0
          · subst h0
            obtain rfl := List.eq_nil_of_length_eq_zero hl1
            exact .sl0 (some a) cap _
          · have hpos : 0 < P.cellsOf e := by omega
            have hcells : ∀ i, i < len → ∃ cs' y, w.cells? base (a.add (i * P.cellsOf e)) (P.cellsOf e) = some cs' ∧ DataW.trod enc P w base spare held n' e cs' = some y ∧ elems[i]? = some y := by
              intro i hi
              have h1 := hel i hi
              obtain ⟨y, hy⟩ := getSome (l := elems) (i := i) (by omega)
              rw [hy] at h1
              obtain ⟨cs', h2, h3⟩ := Option.bind_eq_some_iff.1 h1
              exact ⟨cs', y, h2, h3, hy⟩
            have hspot : a.spot = none := by
              obtain ⟨cs', y, h1, _, _⟩ := hcells 0 (by omega)
              obtain ⟨_, h2, h3⟩ := World.cells?_some h1
              have h4 := h3 0 hpos
              obtain ⟨c, hc⟩ := getSome (l := cs') (i := 0) (by omega)
              rw [hc] at h4
              have h5 := World.cell?_spot h4
              simpa [Addr.add] using h5
            obtain ⟨b, o, spot⟩ := a
            simp only at hspot
            subst hspot
            have hadd : ∀ i, (⟨b, o, none⟩ : Addr).add i = ⟨b, o + i, none⟩ := fun i => by
              unfold Addr.add
              split
              · rename_i h; subst h; rfl
              · rfl
            have helem : ∀ i y, l[i]? = some y → ∃ cs' ds', i < len ∧ cs'.length = P.cellsOf e ∧ (∀ j, j < P.cellsOf e → w.cell? ⟨b, o + (i * P.cellsOf e + j), none⟩ = cs'[j]?) ∧ RDs w noOwn cs' ds' ∧ (∀ c ∈ cs', c.oneCell' = true) ∧ y.cells = ds' := by
              intro i y hy
              have hi : i < len := by have := (List.getElem?_eq_some_iff.1 hy).1; omega
              obtain ⟨cs', z, h1, h2, h3⟩ := hcells i hi
              obtain ⟨ds', h4, h5⟩ := hl2 i z.1 y (by simp [h3]) hy
              obtain ⟨_, h6, h7⟩ := World.cells?_some h1
              obtain ⟨h8, h9⟩ := ih n' e cs' z ds' h2 h4
              refine ⟨cs', ds', hi, h6, fun j hj => ?_, h8, h9, ?_⟩
              · have := h7 j hj
                rw [hadd, show (⟨b, o + i * P.cellsOf e, none⟩ : Addr).add j = ⟨b, o + i * P.cellsOf e + j, none⟩ by
                  unfold Addr.add
                  split
                  · rename_i h; subst h; rfl
                  · rfl] at this
                rw [← Nat.add_assoc]
                exact this
              · rw [h5]
                cases ha : aggTy P e
                · obtain ⟨y', h10, h11⟩ := plain_one ha h4
                  rw [h10]
                  exact h11
                · rfl
            refine .sl b o len cap (P.cellsOf e) l (fun k => (w.cell? ⟨b, o + k, none⟩).getD undef) hl1.symm hle (fun y hy => ?_) (fun k hk => ?_) (fun i j y c hy hc => ?_)
            · obtain ⟨i, hi⟩ := List.getElem?_of_mem hy
              obtain ⟨cs', ds', _, h2, _, h4, _, h6⟩ := helem i y hi
              rw [h6, ← h4.1, h2]
            · have hi : k / P.cellsOf e < len := Nat.div_lt_of_lt_mul (by rw [Nat.mul_comm]; exact hk)
              obtain ⟨y, hy⟩ := getSome (l := l) (i := k / P.cellsOf e) (by omega)
              obtain ⟨cs', ds', _, h2, h3, h4, h5, h6⟩ := helem _ y hy
              have hj : k % P.cellsOf e < P.cellsOf e := Nat.mod_lt _ hpos
              have hk' : k / P.cellsOf e * P.cellsOf e + k % P.cellsOf e = k := by rw [Nat.mul_comm]; exact Nat.div_add_mod k _
              have h7 := h3 _ hj
              rw [hk'] at h7
              obtain ⟨c, hc⟩ := getSome (l := cs') (i := k % P.cellsOf e) (by omega)
              rw [hc] at h7
              refine ⟨by rw [h7]; rfl, fun h => h, ?_⟩
              rw [h7]
              exact h5 c (List.mem_of_getElem? hc)
            · obtain ⟨cs', ds', _, h2, h3, h4, h5, h6⟩ := helem i y hy
              have hj : j < P.cellsOf e := by
                have := (List.getElem?_eq_some_iff.1 hc).1
                rw [h6, ← h4.1, h2] at this
                exact this
              have h7 := h3 j hj
              obtain ⟨c', hc'⟩ := getSome (l := cs') (i := j) (by omega)
              rw [hc'] at h7
              rw [h7]
              exact h4.2 j c' c hc' (h6 ▸ hc)
      · cases h
    · rename_i fs ps hu
      cases hb : offsOk P 0 fs.toList (P.cellsOf t) <;> rw [hb] at h
      · cases h
      · rw [cond_true] at h
        obtain ⟨xs, n', _, h2, hlen, hxs, hf⟩ := DataW.trod_struct hu hx
        cases h2
        have := plainFields_ok (n := n) (m := n') (cs := cs) (fun {t cs x ds} h1 h2 => ih n' t cs x ds h1 h2) fs.toList xs 0 ds (by simpa using hxs) (by simp) (by rw [hlen]; exact hb) (fun i f hfi => hf i f (by simpa using hfi)) h
        simpa using this
    · rename_i k e ps hu
      cases hb : (Nat.beq ps.length k && Nat.beq (k * P.cellsOf e) (P.cellsOf t)) <;> rw [hb] at h
      · cases h
      · rw [cond_true] at h
        rw [Bool.and_eq_true] at hb
        obtain ⟨xs, n', hcs, h2, hlen, hxs, hf⟩ := DataW.trod_array hu hx
        cases h2
        have := plainParts_ok (n := n) (m := n') (e := e) (cs := cs) (fun {t cs x ds} h1 h2 => ih n' t cs x ds h1 h2) xs 0 ds
          (by rw [Nat.zero_add, hlen, hxs]; exact Nat.eq_of_beq_eq_true hb.2) (fun i hi => by rw [Nat.zero_add]; exact hf i (hxs ▸ hi)) h
        simpa using this
    · cases h

end
end Go.Vai
end

section
namespace Go.Vai
open Go.ChangeShapes Go.WideShapes Go.ChangeAt Go.RowKit

section
variable {cx : Cx} {W W' : World}

def mu0 : Mu := ⟨fun _ => { blk := none }, noOwn⟩

theorem own0 : OwnOf [] mu0 = noOwn := by
  funext b i
  apply propext
  constructor
  · rintro (h | ⟨id, o, h, _⟩)
    · exact h
    · cases h
  · exact fun h => h.elim

/-- What the row lists, for the interpreter's 'glob'. -/
def globSays (P : Program) (glob : Nat → Option D) (laid : List (String × DataW Unit)) : Prop :=
  ∀ g x, glob g = some x → ∃ n d, (n, d) ∈ laid ∧ P.globalNamed n = some g ∧ (((P.globals[g]?).map (·.type)).bind fun t => plainD P 20 t d) = some x.cells

theorem laidVars_ok {P : Program} {w : World} : ∀ {laid : List (String × DataW Unit)} {ps : List MemPlace}, DataW.LaidVars P w laid ps → ∀ n d, (n, d) ∈ laid → ∀ g t ds, P.globalNamed n = some g → (P.globals[g]?).map (·.type) = some t →
    plainD P 20 t d = some ds → ∃ cs : Array Value, (∀ i, w.cell? ⟨g, i, none⟩ = cs[i]?) ∧ RDs w noOwn cs.toList ds ∧ ∀ c ∈ cs.toList, c.oneCell' = true
  | [], ps, _, n, d, hm, _, _, _, _, _, _ => by cases hm
  | (n₀, d₀) :: laid, ps, h, n, d, hm, g, t, ds, hg, ht, hp => by
    obtain ⟨g', t', cs, fuel, p, q, h1, h2, h3, h4, h5, _⟩ := h
    rcases List.mem_cons.1 hm with he | hm
    · cases he
      rw [hg] at h1; cases h1
      rw [ht] at h2; cases h2
      obtain ⟨k1, k2⟩ := trod_rd 20 _ _ _ _ _ h4 hp
      exact ⟨cs, World.var?_cell hg h3, k1, k2⟩
    · exact laidVars_ok h5 n d hm g t ds hg ht hp

theorem inv0 {laid : List (String × DataW Unit)} (hplain : (laid.all fun x => x.2.handleName?.isNone) = true) (hs : globSays cx.P cx.glob laid) (hL : laidMetH cx.P laid W) : Inv cx W [] mu0 := by
  rw [MakeChecks.laidMetH_plain _ _ _ hplain] at hL
  obtain ⟨ps, hv, _⟩ := hL
  refine ⟨fun id o h => (by cases h), fun id id' o o' b i h => (by cases h), ?_, fun id o b i h => (by cases h), fun b i (h : False) => h.elim, fun r es clock i _ (h : False) => h.elim⟩
  intro g x hg
  rw [own0]
  obtain ⟨n, d, h1, h2, h34⟩ := hs g x hg
  obtain ⟨t, h3, h4⟩ := Option.bind_eq_some_iff.1 h34
  obtain ⟨cs, hc, hr, ho⟩ := laidVars_ok hv n d h1 g t _ h2 h3 h4
  have hlen : cs.size = x.cells.length := by simpa using hr.1
  refine ⟨fun j => cs.getD j undef, fun j hj => ?_, fun j c hjc => ?_⟩
  · have hlt : j < cs.size := by omega
    have e : cs.getD j undef = cs[j] := by simp [Array.getD_eq_getD_getElem?, hlt]
    rw [hc]
    simp only [e]
    exact ⟨by simp [hlt], fun h => h, ho _ (by simp)⟩
  · have hlt : j < cs.size := by have := (List.getElem?_eq_some_iff.1 hjc).1; omega
    have e : cs.getD j undef = cs[j] := by simp [Array.getD_eq_getD_getElem?, hlt]
    simp only [e]
    exact hr.2 j _ c (by simp [hlt]) hjc

theorem kept_but (h : Kept W noOwn W') : W.keptBut W' (fun _ => False) := by
  refine ⟨h.os, h.output, fun i hi => ?_⟩
  rw [h.blk i hi fun _ h => h]
  cases hw : W.heap[i]? with
  | none => rfl
  | some o => cases o <;> first | exact ⟨rfl, rfl, rfl, fun _ _ => rfl⟩ | exact .inr ⟨rfl, rfl⟩ | rfl

/-- The call of a function of plain data. -/
theorem law_calls {f n : Nat} {ds : List D} {args : List Value} {x : D} (hn : noRoutines cx.P) (hmix : cx.P.follows .mixedOrders = true) (hi : Inv cx W [] mu0) (hargs : RDs W noOwn args ds)
    (h : evFun cx n f (ds.map .d) [] = some (.ret (.d x), [])) : Calls cx.P f args.toArray W fun e W' => ∃ v, e = .returned v ∧ RD W' noOwn v x ∧ Kept W noOwn W' := by
  have hv : RVs W [] mu0 args (ds.map .d) := by
    refine ⟨by simpa using hargs.1, fun i v y hx hy => ?_⟩
    rw [List.getElem?_map, Option.map_eq_some_iff] at hy
    obtain ⟨d, hd, rfl⟩ := hy
    refine .d _ _ ?_
    rw [own0]
    exact hargs.2 i v d hx hd
  have hids : ∀ i ∈ V.idsL (ds.map .d), i < ([] : St).length := by
    intro i hi
    have : V.idsL (ds.map .d) = [] := by
      clear h hv hargs hi
      induction ds with
      | nil => rfl
      | cons d ds ih => simp [V.idsL, V.ids, ih]
    rw [this] at hi; cases hi
  obtain ⟨_, _, _, hc⟩ := evFun_ok hn hmix n f _ [] _ _ h W mu0 args hi (fun k o h => (by cases h)) hids (fun k hk => (by cases hk)) hv
  refine hc.mono fun e W' ⟨μ', haf, hm⟩ => ?_
  cases e with
  | returned v =>
    have hm : RV W' [] μ' v (.d x) := hm
    have hfr : OwnOf [] μ' = noOwn := by
      funext b i
      apply propext
      constructor
      · rintro (h | ⟨id, o, h, _⟩)
        · rw [haf.fr] at h; exact h
        · cases h
      · exact fun h => h.elim
    refine ⟨v, rfl, ?_, ?_⟩
    · cases hm with | d _ _ hd => rw [hfr] at hd; exact hd
    · have hk := haf.goes.kept
      have hmine : Mine [] mu0 = noOwn := by
        funext b i
        apply propext
        constructor
        · rintro ⟨id, o, h, _⟩; cases h
        · exact fun h => h.elim
      rw [hmine] at hk
      exact hk
  | panicked chain => exact hm.elim
  | outgrown => exact hm.elim

end
end Go.Vai
end

section
namespace Go.Vai

section
variable {R : Type} {cx : Cx}

abbrev Caller := Nat → List V → St → Option (Out × St)

/-- Another caller that knows all that this one knows. -/
def knows (cx : Cx) (call call' : Caller) : Prop := ∀ f args σ r, cx.dom f args = true → call f args σ = some r → call' f args σ = some r

theorem callV_mono {call call' : Caller} (hk : knows cx call call') {σ : St} {t f : Nat} {args : List V} {K : Oc → De → List Nat → Option R} {r : R} (h : callV cx call σ t f args K = some r) : callV cx call' σ t f args K = some r := by
  unfold callV at h ⊢
  simp only at h ⊢
  obtain ⟨hc, h⟩ := must_some h
  obtain ⟨hd, h⟩ := must_some h
  rw [hc, hd]
  simp only [must, cond_true]
  cases hq : call f (V.renL (posIn (reach σ 1000 (V.idsL args) [])) args) (renSt σ (reach σ 1000 (V.idsL args) []) 0 (reach σ 1000 (V.idsL args) [])) with
  | none => rw [hq] at h; cases h
  | some p => rw [hq] at h; rw [hk _ _ _ _ hd hq]; exact h

theorem evOp_mono {call call' : Caller} (hk : knows cx call call') {m nt : Nat} {o : Oper} {fr : Fr} {σ : St} {p : Tri} (h : evOp1 cx m nt call o fr σ = some p) : evOp1 cx m nt call' o fr σ = some p := by
  unfold evOp1 at h ⊢
  obtain ⟨dst, op, type, pos, after, guard⟩ := o
  cases op
  case makeFunc fn first caps => cases fn <;> exact h
  case makeMap t r => cases r <;> exact h
  case call c =>
    obtain ⟨callee, cargs, ctypes⟩ := c
    cases callee with
    | value f =>
      simp only [evOp] at h ⊢
      obtain ⟨v, hv, h⟩ := optK_some h
      simp only [hv, optK]
      split at h
      · obtain ⟨l, hl, h⟩ := optK_some h
        simp only [hl]
        exact callV_mono hk h
      · cases h
    | invoke r nm => exact h
    | builtin b => cases b <;> exact h
  all_goals exact h

theorem guardV_mono {ops : List Oper} {o : Oper} {fr : Fr} {yes no yes' no' : Fr → Option R} {r : R} (hy : ∀ fr, yes fr = some r → yes' fr = some r) (hn : ∀ fr, no fr = some r → no' fr = some r)
    (h : guardV ops o fr yes no = some r) : guardV ops o fr yes' no' = some r := by
  unfold guardV at h ⊢
  split at h
  · exact hy _ h
  · split at h
    · exact hn _ h
    · split at h
      · have key : ∀ (b want : Bool) (p q : Fr), (bif b then (bif want then yes p else no p) else (bif want then no q else yes q)) = some r → (bif b then (bif want then yes' p else no' p) else (bif want then no' q else yes' q)) = some r := by
          intro b want p q h
          cases b <;> cases want <;> first | exact hy _ h | exact hn _ h
        exact key _ _ _ _ h
      · exact hn _ h
      · cases h

theorem evOps_mono {call call' : Caller} (hk : knows cx call call') {m nt : Nat} {ops : List Oper} {K K' : Ex → Fr → St → Option R} {r : R} (hK : ∀ e fr σ, K e fr σ = some r → K' e fr σ = some r) :
    ∀ (l : List Oper) (fr : Fr) (σ : St), evOps cx m nt call ops l fr σ K = some r → evOps cx m nt call' ops l fr σ K' = some r
  | [], fr, σ, h => hK _ _ _ h
  | o :: l, fr, σ, h => by
    unfold evOps at h ⊢
    obtain ⟨hd, h⟩ := must_some h
    rw [hd]
    simp only [must, cond_true]
    refine guardV_mono (fun fr h => ?_) (fun fr h => evOps_mono hk hK l _ _ h) h
    obtain ⟨p, hp, h⟩ := optK_some h
    simp only [evOp_mono hk hp, optK]
    obtain ⟨oc, δ, fp⟩ := p
    cases oc with
    | val v => exact evOps_mono hk hK l _ _ h
    | pan v => exact hK _ _ _ h

theorem evDraw_mono {call call' : Caller} (hk : knows cx call call') {m nt : Nat} {ops : List Oper} {pre : List Nat} {K K' : Ex → Fr → St → Option R} {r : R} (hK : ∀ e fr σ, K e fr σ = some r → K' e fr σ = some r) :
    ∀ (l : List Oper) (i : Nat) (log : List Log) (dead : Option (Nat × V)) (fr : Fr) (σ : St), evDraw cx m nt call ops pre i l log dead fr σ K = some r → evDraw cx m nt call' ops pre i l log dead fr σ K' = some r
  | [], i, log, none, fr, σ, h => by simp only [evDraw] at h ⊢; exact hK _ _ _ h
  | [], i, log, some (k, v), fr, σ, h => by
    simp only [evDraw] at h ⊢
    obtain ⟨hc, h⟩ := must_some h
    rw [hc]
    exact hK _ _ _ h
  | o :: l, i, log, dead, fr, σ, h => by
    simp only [evDraw] at h ⊢
    cases hd : deadDep pre i dead
    · rw [hd, cond_false] at h
      rw [cond_false]
      obtain ⟨hc, h⟩ := must_some h
      rw [hc]
      simp only [must, cond_true]
      refine guardV_mono (fun fr h => ?_) (fun fr h => evDraw_mono hk hK l _ _ _ _ _ h) h
      obtain ⟨p, hp, h⟩ := optK_some h
      obtain ⟨hm, h⟩ := must_some h
      simp only [evOp_mono hk hp, optK]
      simp only [hm, cond_true]
      obtain ⟨oc, δ, fp⟩ := p
      cases oc with
      | val v => exact evDraw_mono hk hK l _ _ _ _ _ h
      | pan v =>
        cases dead with
        | none => exact evDraw_mono hk hK l _ _ _ _ _ h
        | some q => exact h
    · rw [hd, cond_true] at h
      rw [cond_true]
      exact evDraw_mono hk hK l _ _ _ _ _ h

theorem tidy_mono {m f key : Nat} {fr : Fr} {σ : St} {K K' : Fr → St → Option R} {r : R} (hK : ∀ fr σ, K fr σ = some r → K' fr σ = some r) (h : tidy cx m f key fr σ K = some r) : tidy cx m f key fr σ K' = some r := by
  unfold tidy at h ⊢
  simp only at h ⊢
  obtain ⟨hc, h⟩ := must_some h
  rw [hc]
  exact hK _ _ h

theorem evCode_mono {call call' : Caller} (hk : knows cx call call') {f m nt n n' : Nat} (hn : n ≤ n') : ∀ (c : Code) {K K' : Ex → Fr → St → Option R} {r : R} {fr : Fr} {σ : St},
    (∀ e fr σ, K e fr σ = some r → K' e fr σ = some r) → evCode cx f m nt call n c fr σ K = some r → evCode cx f m nt call' n' c fr σ K' = some r := by
  intro c
  induction c with
  | skip => intro K K' r fr σ hK h; exact hK _ _ _ h
  | label l => intro K K' r fr σ hK h; exact hK _ _ _ h
  | exit id => intro K K' r fr σ hK h; exact hK _ _ _ h
  | goto l => intro K K' r fr σ hK h; exact hK _ _ _ h
  | ret => intro K K' r fr σ hK h; exact hK _ _ _ h
  | refuse why => intro K K' r fr σ hK h; cases h
  | rangeFunc f params assign body _ _ => intro K K' r fr σ hK h; cases h
  | region id ops draw =>
    intro K K' r fr σ hK h
    cases draw
    · exact evOps_mono hk hK _ _ _ h
    · simp only [evCode] at h ⊢
      obtain ⟨hc, h⟩ := must_some h
      rw [hc]
      exact evDraw_mono hk hK _ _ _ _ _ _ h
  | seq x y ihx ihy =>
    intro K K' r fr σ hK h
    refine ihx (fun e fr σ h => ?_) h
    cases e with
    | normal => exact ihy hK h
    | _ => exact hK _ _ _ h
  | cond c x y ihx ihy =>
    intro K K' r fr σ hK h
    simp only [evCode] at h ⊢
    obtain ⟨v, hv, h⟩ := optK_some h
    obtain ⟨b, rfl, h⟩ := asB_some h
    simp only [hv, optK, asB]
    cases b
    · exact ihy hK h
    · exact ihx hK h
  | block id c ih =>
    intro K K' r fr σ hK h
    refine ih (fun e fr σ h => ?_) h
    cases e with
    | normal => exact tidy_mono (fun fr σ h => hK _ _ _ h) h
    | exit i =>
      simp only at h ⊢
      cases hb : Nat.beq i id <;> rw [hb] at h
      · exact hK _ _ _ h
      · exact tidy_mono (fun fr σ h => hK _ _ _ h) h
    | _ => exact hK _ _ _ h
  | loop c ih =>
    intro K K' r fr σ hK h
    simp only [evCode] at h ⊢
    refine tidy_mono (fun fr σ h => ?_) h
    have key : ∀ (k k' : Nat), k ≤ k' → ∀ (fr : Fr) (σ : St), iter (evCode cx f m nt call n c) (tidy cx m f (2 * firstRegion c + 1)) k fr σ K = some r →
        iter (evCode cx f m nt call' n' c) (tidy cx m f (2 * firstRegion c + 1)) k' fr σ K' = some r := by
      intro k
      induction k with
      | zero => intro k' _ fr σ h; cases h
      | succ k ihk =>
        intro k' hle fr σ h
        obtain ⟨k', rfl⟩ : ∃ j, k' = j + 1 := ⟨k' - 1, by omega⟩
        simp only [iter] at h ⊢
        refine ih (fun e fr σ h => ?_) h
        cases e with
        | normal => exact tidy_mono (fun fr σ h => ihk k' (by omega) _ _ h) h
        | _ => exact hK _ _ _ h
    exact key n n' hn fr σ h
  | scope c ih =>
    intro K K' r fr σ hK h
    refine ih (fun e fr σ h => ?_) h
    cases e with
    | goto l => cases h
    | _ => exact hK _ _ _ h

/-- A call, with what is known of calls. -/
def evWith (cx : Cx) (call : Caller) (n f : Nat) (args : List V) (σ : St) : Option (Out × St) :=
  match cx.P.funcs[f]? with
  | none => none
  | some fn =>
    match fn.body with
    | none => none
    | some c =>
      evCode cx f σ.length fn.ntmps call n c (numbered 0 args) σ fun e fr σ' =>
        match e with
        | .normal | .ret => resV cx fr σ' fn.results.toList fun vs =>
            (match (oneOrTup vs).leave σ.length σ', leaveSt σ.length σ' (List.range σ.length) with | some v, some s => some (.ret v, s) | _, _ => none)
        | .pan v => (match v.leave σ.length σ', leaveSt σ.length σ' (List.range σ.length) with | some v, some s => some (.pan v, s) | _, _ => none)
        | _ => none

theorem evFun_with (n f : Nat) (args : List V) (σ : St) : evFun cx (n + 1) f args σ = evWith cx (evFun cx n) n f args σ := rfl

theorem evWith_mono {call call' : Caller} (hk : knows cx call call') {n n' : Nat} (hn : n ≤ n') : ∀ f args σ r, evWith cx call n f args σ = some r → evWith cx call' n' f args σ = some r := by
  intro f args σ r h
  unfold evWith at h ⊢
  split at h
  · cases h
  · rename_i fn hfn
    split at h
    · cases h
    · rename_i c hc
      exact evCode_mono hk hn c (fun _ _ _ h => h) h

theorem evFun_mono : ∀ (n n' : Nat), n ≤ n' → ∀ f args σ r, evFun cx n f args σ = some r → evFun cx n' f args σ = some r
  | 0, _, _ => fun f args σ r h => by cases h
  | n + 1, 0, h => absurd h (by omega)
  | n + 1, n' + 1, h => fun f args σ r hr => by
    rw [evFun_with] at hr ⊢
    exact evWith_mono (fun f args σ r _ h => evFun_mono n n' (by omega) f args σ r h) (by omega) f args σ r hr

/-- What is known, with some fuel. -/
def Known (cx : Cx) (call : Caller) : Prop := ∀ f args σ r, call f args σ = some r → ∃ n, evFun cx n f args σ = some r

end
end Go.Vai
end

section
namespace Go.Vai

section
variable {R : Type} {cx : Cx}

/-- What a call answers, with fuel enough. -/
noncomputable def evLim (cx : Cx) : Caller := fun f args σ =>
  open Classical in if h : ∃ r n, evFun cx n f args σ = some r then some h.choose else none

theorem lim_ex {f : Nat} {args : List V} {σ : St} {r : Out × St} (h : evLim cx f args σ = some r) : ∃ n, evFun cx n f args σ = some r := by
  unfold evLim at h
  split at h
  · rename_i hex
    obtain ⟨n, hn⟩ := hex.choose_spec
    cases h
    exact ⟨n, hn⟩
  · cases h

theorem lim_of {f n : Nat} {args : List V} {σ : St} {r : Out × St} (h : evFun cx n f args σ = some r) : evLim cx f args σ = some r := by
  unfold evLim
  have hex : ∃ r n, evFun cx n f args σ = some r := ⟨r, n, h⟩
  rw [dif_pos hex]
  obtain ⟨k, hk⟩ := hex.choose_spec
  have h1 := evFun_mono n (max n k) (Nat.le_max_left _ _) f args σ _ h
  have h2 := evFun_mono k (max n k) (Nat.le_max_right _ _) f args σ _ hk
  rw [h1] at h2
  exact h2.symm

/-- From some number on. -/
def Ev (P : Nat → Prop) : Prop := ∃ n₀, ∀ n, n₀ ≤ n → P n

theorem Ev.mono {P Q : Nat → Prop} (h : Ev P) (hpq : ∀ n, P n → Q n) : Ev Q := let ⟨a, ha⟩ := h; ⟨a, fun n hn => hpq n (ha n hn)⟩

theorem Ev.both {P Q : Nat → Prop} (h : Ev P) (h' : Ev Q) : Ev fun n => P n ∧ Q n :=
  let ⟨a, ha⟩ := h; let ⟨b, hb⟩ := h'; ⟨max a b, fun n hn => ⟨ha n (by omega), hb n (by omega)⟩⟩

theorem lim_ev {f : Nat} {args : List V} {σ : St} {r : Out × St} (h : evLim cx f args σ = some r) : Ev fun n => evFun cx n f args σ = some r :=
  let ⟨k, hk⟩ := lim_ex h; ⟨k, fun n hn => evFun_mono k n hn f args σ r hk⟩

theorem callV_lim {σ : St} {t f : Nat} {args : List V} {K : Oc → De → List Nat → Option R} {r : R} (h : callV cx (evLim cx) σ t f args K = some r) : Ev fun n => callV cx (evFun cx n) σ t f args K = some r := by
  unfold callV at h ⊢
  simp only at h ⊢
  obtain ⟨hc, h⟩ := must_some h
  obtain ⟨hd, h⟩ := must_some h
  rw [hc, hd]
  simp only [must, cond_true]
  cases hq : evLim cx f (V.renL (posIn (reach σ 1000 (V.idsL args) [])) args) (renSt σ (reach σ 1000 (V.idsL args) []) 0 (reach σ 1000 (V.idsL args) [])) with
  | none => rw [hq] at h; cases h
  | some p =>
    rw [hq] at h
    exact (lim_ev hq).mono fun n hn => by rw [hn]; exact h

theorem Ev.all {P : Prop} (h : P) : Ev fun _ => P := ⟨0, fun _ _ => h⟩

theorem evOp_lim {m nt : Nat} {o : Oper} {fr : Fr} {σ : St} {p : Tri} (h : evOp1 cx m nt (evLim cx) o fr σ = some p) : Ev fun n => evOp1 cx m nt (evFun cx n) o fr σ = some p := by
  unfold evOp1 at h ⊢
  obtain ⟨dst, op, type, pos, after, guard⟩ := o
  cases op
  case makeFunc fn first caps => cases fn <;> exact .all h
  case makeMap t r => cases r <;> exact .all h
  case call c =>
    obtain ⟨callee, cargs, ctypes⟩ := c
    cases callee with
    | value f =>
      simp only [evOp] at h ⊢
      obtain ⟨v, hv, h⟩ := optK_some h
      simp only [hv, optK]
      split at h
      · obtain ⟨l, hl, h⟩ := optK_some h
        simp only [hl]
        exact callV_lim h
      · cases h
    | invoke r nm => exact .all h
    | builtin b => cases b <;> exact .all h
  all_goals exact .all h

theorem guardV_lim {ops : List Oper} {o : Oper} {fr : Fr} {yes no : Fr → Option R} {yes' no' : Nat → Fr → Option R} {r : R} (hy : ∀ fr, yes fr = some r → Ev fun n => yes' n fr = some r)
    (hn : ∀ fr, no fr = some r → Ev fun n => no' n fr = some r) (h : guardV ops o fr yes no = some r) : Ev fun n => guardV ops o fr (yes' n) (no' n) = some r := by
  unfold guardV at h ⊢
  split at h
  · exact hy _ h
  · split at h
    · exact hn _ h
    · split at h
      · have key : ∀ (b want : Bool) (p q : Fr), (bif b then (bif want then yes p else no p) else (bif want then no q else yes q)) = some r →
            Ev fun n => (bif b then (bif want then yes' n p else no' n p) else (bif want then no' n q else yes' n q)) = some r := by
          intro b want p q h
          cases b <;> cases want <;> first | exact hy _ h | exact hn _ h
        exact key _ _ _ _ h
      · exact hn _ h
      · cases h

theorem evOps_lim {m nt : Nat} {ops : List Oper} {K : Ex → Fr → St → Option R} {K' : Nat → Ex → Fr → St → Option R} {r : R} (hK : ∀ e fr σ, K e fr σ = some r → Ev fun n => K' n e fr σ = some r) :
    ∀ (l : List Oper) (fr : Fr) (σ : St), evOps cx m nt (evLim cx) ops l fr σ K = some r → Ev fun n => evOps cx m nt (evFun cx n) ops l fr σ (K' n) = some r
  | [], fr, σ, h => hK _ _ _ h
  | o :: l, fr, σ, h => by
    unfold evOps at h ⊢
    obtain ⟨hd, h⟩ := must_some h
    rw [hd]
    simp only [must, cond_true]
    refine guardV_lim (fun fr h => ?_) (fun fr h => evOps_lim hK l _ _ h) h
    obtain ⟨p, hp, h⟩ := optK_some h
    obtain ⟨oc, δ, fp⟩ := p
    cases oc with
    | val v => exact ((evOp_lim hp).both (evOps_lim hK l _ _ h)).mono fun n hn => by simp only [hn.1, optK]; exact hn.2
    | pan v => exact ((evOp_lim hp).both (hK _ _ _ h)).mono fun n hn => by simp only [hn.1, optK]; exact hn.2

theorem evDraw_lim {m nt : Nat} {ops : List Oper} {pre : List Nat} {K : Ex → Fr → St → Option R} {K' : Nat → Ex → Fr → St → Option R} {r : R} (hK : ∀ e fr σ, K e fr σ = some r → Ev fun n => K' n e fr σ = some r) :
    ∀ (l : List Oper) (i : Nat) (log : List Log) (dead : Option (Nat × V)) (fr : Fr) (σ : St), evDraw cx m nt (evLim cx) ops pre i l log dead fr σ K = some r → Ev fun n => evDraw cx m nt (evFun cx n) ops pre i l log dead fr σ (K' n) = some r
  | [], i, log, none, fr, σ, h => by simp only [evDraw] at h ⊢; exact hK _ _ _ h
  | [], i, log, some (k, v), fr, σ, h => by
    simp only [evDraw] at h ⊢
    obtain ⟨hc, h⟩ := must_some h
    rw [hc]
    exact hK _ _ _ h
  | o :: l, i, log, dead, fr, σ, h => by
    simp only [evDraw] at h ⊢
    cases hd : deadDep pre i dead
    · rw [hd, cond_false] at h
      simp only [cond_false]
      obtain ⟨hc, h⟩ := must_some h
      rw [hc]
      simp only [must, cond_true]
      refine guardV_lim (fun fr h => ?_) (fun fr h => evDraw_lim hK l _ _ _ _ _ h) h
      obtain ⟨p, hp, h⟩ := optK_some h
      obtain ⟨hm, h⟩ := must_some h
      obtain ⟨oc, δ, fp⟩ := p
      cases oc with
      | val v => exact ((evOp_lim hp).both (evDraw_lim hK l _ _ _ _ _ h)).mono fun n hn => by simp only [hn.1, optK, hm, cond_true]; exact hn.2
      | pan v =>
        cases dead with
        | none => exact ((evOp_lim hp).both (evDraw_lim hK l _ _ _ _ _ h)).mono fun n hn => by simp only [hn.1, optK, hm, cond_true]; exact hn.2
        | some q => cases h
    · rw [hd, cond_true] at h
      simp only [cond_true]
      exact evDraw_lim hK l _ _ _ _ _ h

theorem tidy_lim {m f key : Nat} {fr : Fr} {σ : St} {K : Fr → St → Option R} {K' : Nat → Fr → St → Option R} {r : R} (hK : ∀ fr σ, K fr σ = some r → Ev fun n => K' n fr σ = some r) (h : tidy cx m f key fr σ K = some r) :
    Ev fun n => tidy cx m f key fr σ (K' n) = some r := by
  unfold tidy at h ⊢
  simp only at h ⊢
  obtain ⟨hc, h⟩ := must_some h
  rw [hc]
  exact hK _ _ h

theorem evCode_lim {f m nt N : Nat} : ∀ (c : Code) {K : Ex → Fr → St → Option R} {K' : Nat → Ex → Fr → St → Option R} {r : R} {fr : Fr} {σ : St},
    (∀ e fr σ, K e fr σ = some r → Ev fun n => K' n e fr σ = some r) → evCode cx f m nt (evLim cx) N c fr σ K = some r → Ev fun n => evCode cx f m nt (evFun cx n) n c fr σ (K' n) = some r := by
  intro c
  induction c with
  | skip => intro K K' r fr σ hK h; exact hK _ _ _ h
  | label l => intro K K' r fr σ hK h; exact hK _ _ _ h
  | exit id => intro K K' r fr σ hK h; exact hK _ _ _ h
  | goto l => intro K K' r fr σ hK h; exact hK _ _ _ h
  | ret => intro K K' r fr σ hK h; exact hK _ _ _ h
  | refuse why => intro K K' r fr σ hK h; cases h
  | rangeFunc f params assign body _ _ => intro K K' r fr σ hK h; cases h
  | region id ops draw =>
    intro K K' r fr σ hK h
    cases draw
    · exact evOps_lim hK _ _ _ h
    · simp only [evCode] at h ⊢
      obtain ⟨hc, h⟩ := must_some h
      rw [hc]
      exact evDraw_lim hK _ _ _ _ _ _ h
  | seq x y ihx ihy =>
    intro K K' r fr σ hK h
    refine ihx (fun e fr σ h => ?_) h
    cases e with
    | normal => exact ihy hK h
    | _ => exact hK _ _ _ h
  | cond c x y ihx ihy =>
    intro K K' r fr σ hK h
    simp only [evCode] at h ⊢
    obtain ⟨v, hv, h⟩ := optK_some h
    obtain ⟨b, rfl, h⟩ := asB_some h
    simp only [hv, optK, asB]
    cases b
    · exact ihy hK h
    · exact ihx hK h
  | block id c ih =>
    intro K K' r fr σ hK h
    refine ih (fun e fr σ h => ?_) h
    cases e with
    | normal => exact tidy_lim (fun fr σ h => hK _ _ _ h) h
    | exit i =>
      simp only at h ⊢
      cases hb : Nat.beq i id <;> rw [hb] at h
      · exact hK _ _ _ h
      · exact tidy_lim (fun fr σ h => hK _ _ _ h) h
    | _ => exact hK _ _ _ h
  | loop c ih =>
    intro K K' r fr σ hK h
    simp only [evCode] at h ⊢
    refine tidy_lim (fun fr σ h => ?_) h
    have key : ∀ (k : Nat), ∀ (fr : Fr) (σ : St), iter (evCode cx f m nt (evLim cx) N c) (tidy cx m f (2 * firstRegion c + 1)) k fr σ K = some r →
        Ev fun n => ∀ k', k ≤ k' → iter (evCode cx f m nt (evFun cx n) n c) (tidy cx m f (2 * firstRegion c + 1)) k' fr σ (K' n) = some r := by
      intro k
      induction k with
      | zero => intro fr σ h; cases h
      | succ k ihk =>
        intro fr σ h
        simp only [iter] at h
        have h1 : Ev fun n => ∀ k', k ≤ k' → iter (evCode cx f m nt (evFun cx n) n c) (tidy cx m f (2 * firstRegion c + 1)) (k' + 1) fr σ (K' n) = some r := by
          -- one number of rounds for all
          have := ih (K := fun e fr σ => match e with
            | .normal => tidy cx m f (2 * firstRegion c + 1) fr σ fun fr σ => iter (evCode cx f m nt (evLim cx) N c) (tidy cx m f (2 * firstRegion c + 1)) k fr σ K
            | e => K e fr σ)
            (K' := fun n e fr σ => match e with
            | .normal => tidy cx m f (2 * firstRegion c + 1) fr σ fun fr σ => iter (evCode cx f m nt (evFun cx n) n c) (tidy cx m f (2 * firstRegion c + 1)) k fr σ (K' n)
            | e => K' n e fr σ) (r := r) (fr := fr) (σ := σ) (fun e fr σ h => by
              cases e with
              | normal => exact tidy_lim (fun fr σ h => (ihk fr σ h).mono fun n hn => hn k (Nat.le_refl k)) h
              | _ => exact hK _ _ _ h) h
          refine this.mono fun n hn k' hk' => ?_
          simp only [iter]
          have hmono : ∀ (k k' : Nat), k ≤ k' → ∀ (fr : Fr) (σ : St), iter (evCode cx f m nt (evFun cx n) n c) (tidy cx m f (2 * firstRegion c + 1)) k fr σ (K' n) = some r →
              iter (evCode cx f m nt (evFun cx n) n c) (tidy cx m f (2 * firstRegion c + 1)) k' fr σ (K' n) = some r := by
            intro k
            induction k with
            | zero => intro k' _ fr σ h; cases h
            | succ k ihk =>
              intro k' hle fr σ h
              obtain ⟨k', rfl⟩ : ∃ j, k' = j + 1 := ⟨k' - 1, by omega⟩
              simp only [iter] at h ⊢
              refine evCode_mono (fun _ _ _ _ _ h => h) (Nat.le_refl _) c (fun e fr σ h => ?_) h
              cases e with
              | normal => exact tidy_mono (fun fr σ h => ihk k' (by omega) _ _ h) h
              | _ => exact h
          refine evCode_mono (fun _ _ _ _ _ h => h) (Nat.le_refl _) c (fun e fr σ h => ?_) hn
          cases e with
          | normal => exact tidy_mono (fun fr σ h => hmono k k' hk' _ _ h) h
          | _ => exact h
        refine h1.mono fun n hn k' hk' => ?_
        obtain ⟨k', rfl⟩ : ∃ j, k' = j + 1 := ⟨k' - 1, by omega⟩
        exact hn k' (by omega)
    obtain ⟨a, ha⟩ := key N fr σ h
    exact ⟨max a N, fun n hn => ha n (by omega) n (by omega)⟩
  | scope c ih =>
    intro K K' r fr σ hK h
    refine ih (fun e fr σ h => ?_) h
    cases e with
    | goto l => cases h
    | _ => exact hK _ _ _ h

/-- A call is what its body makes of what the calls in it are. -/
theorem lim_with {N f : Nat} {args : List V} {σ : St} {r : Out × St} (h : evWith cx (evLim cx) N f args σ = some r) : evLim cx f args σ = some r := by
  have : Ev fun n => evWith cx (evFun cx n) n f args σ = some r := by
    unfold evWith at h ⊢
    split at h
    · cases h
    · rename_i fn hfn
      split at h
      · cases h
      · rename_i c hc
        exact evCode_lim c (fun e fr σ h => .all h) h
  obtain ⟨a, ha⟩ := this
  exact lim_of (n := a + 1) (by rw [evFun_with]; exact ha a (Nat.le_refl a))

end
end Go.Vai
end

section
namespace Go.Vai

section
variable {α R : Type} {cx : Cx} {σ : St}

theorem optK_optK {β : Type} (o : Option β) (F : β → Option α) (K : α → Option R) : optK (optK o F) K = optK o fun x => optK (F x) K := by cases o <;> rfl
theorem optK_must (b : Bool) (X : Option α) (K : α → Option R) : optK (must b X) K = must b (optK X K) := by cases b <;> rfl
theorem optK_cond (b : Bool) (X Y : Option α) (K : α → Option R) : optK (bif b then X else Y) K = bif b then optK X K else optK Y K := by cases b <;> rfl
theorem optK_none' (K : α → Option R) : optK none K = none := rfl
theorem optK_some' (x : α) (K : α → Option R) : optK (some x) K = K x := rfl

theorem asB_push (v : V) (F : Bool → Option α) (K : α → Option R) : optK (asB v F) K = asB v fun x => optK (F x) K := by unfold asB; split <;> rfl
theorem asInt_push (x : D) (k : IntKind) (F : Int → Option α) (K : α → Option R) : optK (asInt x k F) K = asInt x k fun x => optK (F x) K := by unfold asInt; split <;> simp only [optK_cond, optK_none']
theorem asBool_push (x : D) (F : Bool → Option α) (K : α → Option R) : optK (asBool x F) K = asBool x fun x => optK (F x) K := by unfold asBool; split <;> rfl
theorem asStr_push (x : D) (F : List UInt8 → Option α) (K : α → Option R) : optK (asStr x F) K = asStr x fun x => optK (F x) K := by unfold asStr; split <;> rfl
theorem asSl_push (x : D) (n : Nat) (F : List D → Option α) (K : α → Option R) : optK (asSl x n F) K = asSl x n fun x => optK (F x) K := by unfold asSl; split <;> simp only [optK_cond, optK_none']
theorem asAgg_push (x : D) (n : Nat) (F : D → Option α) (K : α → Option R) : optK (asAgg x n F) K = asAgg x n fun x => optK (F x) K := by unfold asAgg; split <;> simp only [optK_cond, optK_none']
theorem asD_push (x : V) (F : D → Option α) (K : α → Option R) : optK (asD x F) K = asD x fun x => optK (F x) K := by unfold asD; split <;> rfl
theorem nthD_push (l : List D) (i : Nat) (F : D → Option α) (K : α → Option R) : optK (nthD l i F) K = nthD l i fun x => optK (F x) K := by unfold nthD; split <;> rfl
theorem nthV_push (l : List V) (i : Nat) (F : V → Option α) (K : α → Option R) : optK (nthV l i F) K = nthV l i fun x => optK (F x) K := by unfold nthV; split <;> rfl
theorem asTup_push (x : V) (F : List V → Option α) (K : α → Option R) : optK (asTup x F) K = asTup x fun x => optK (F x) K := by unfold asTup; split <;> rfl
theorem unc_push (l : List V) (F : V → List V → Option α) (K : α → Option R) : optK (unc l F) K = unc l fun x y => optK (F x y) K := by unfold unc; split <;> rfl
theorem unn_push (l : List V) (F : Option α) (K : α → Option R) : optK (unn l F) K = unn l (optK F K) := by unfold unn; split <;> rfl
theorem castD_push (P : Program) (t : Nat) (x : D) (F : V → Option α) (K : α → Option R) : optK (castD P t x F) K = castD P t x fun x => optK (F x) K := by
  unfold castD
  split <;> simp only [asInt_push, asBool_push, asStr_push, asSl_push, asAgg_push, optK_none']
  split <;> rfl
theorem castV_push (P : Program) (t : Nat) (x : V) (F : V → Option α) (K : α → Option R) : optK (castV P t x F) K = castV P t x fun x => optK (F x) K := by
  unfold castV
  split
  · exact castD_push P t _ F K
  · exact optK_must _ _ _
theorem intOp_push (op : BinOp) (k : IntKind) (a b : Int) (F : V → Option α) (K : α → Option R) : optK (intOp op k a b F) K = intOp op k a b fun x => optK (F x) K := by cases op <;> first | rfl | simp only [intOp, optK_must, optK_none']
theorem strOp_push (op : BinOp) (a b : List UInt8) (F : V → Option α) (K : α → Option R) : optK (strOp op a b F) K = strOp op a b fun x => optK (F x) K := by cases op <;> first | rfl | simp only [strOp, optK_must, optK_none']
theorem shiftOp_push (op : BinOp) (k : IntKind) (a b : Int) (F : V → Option α) (K : α → Option R) : optK (shiftOp op k a b F) K = shiftOp op k a b fun x => optK (F x) K := by cases op <;> first | rfl | simp only [shiftOp, optK_must, optK_none']
theorem eqV_push (op : BinOp) (b : Bool) (F : V → Option α) (K : α → Option R) : optK (eqV op b F) K = eqV op b fun x => optK (F x) K := by cases op <;> first | rfl | simp only [eqV, optK_none']
theorem binV_push (P : Program) (cst : Bool) (op : BinOp) (t : Nat) (x y : V) (F : V → Option α) (K : α → Option R) : optK (binV P cst op t x y F) K = binV P cst op t x y fun x => optK (F x) K := by
  unfold binV
  split <;> first | rfl | simp only [strOp_push, optK_must, eqV_push, optK_none'] | skip
  split <;> simp only [shiftOp_push, intOp_push, optK_cond, optK_none']
theorem unV_push (op : UnOp) (x : V) (F : V → Option α) (K : α → Option R) : optK (unV op x F) K = unV op x fun x => optK (F x) K := by unfold unV; split <;> rfl
theorem dataOf_push (x : V) (F : Nat → List D → Option α) (K : α → Option R) : optK (dataOf x F) K = dataOf x fun a b => optK (F a b) K := by unfold dataOf; split <;> rfl
theorem dataS_push (x : V) (F : Nat → List D → Option α) (K : α → Option R) : optK (dataS x F) K = dataS x fun a b => optK (F a b) K := by unfold dataS; split <;> rfl
theorem convV_push (P : Program) (s d : Nat) (x : V) (F : V → Option α) (K : α → Option R) : optK (convV P s d x F) K = convV P s d x fun x => optK (F x) K := by
  unfold convV
  split <;> try rfl
  split <;> simp only [dataS_push, optK_must, optK_none']
  congr 1; funext a b; congr 1
  split <;> rfl
theorem bound_push (v : Option V) (y d : Nat) (F : Nat → Option α) (K : α → Option R) : optK (bound v y d F) K = bound v y d fun x => optK (F x) K := by unfold bound; split <;> simp only [optK_must, optK_none']
theorem index_push (v : V) (n : Nat) (F : Nat → Option α) (K : α → Option R) : optK (index v n F) K = index v n fun x => optK (F x) K := by unfold index; split <;> simp only [optK_must, optK_none']
theorem opdO_push (fr : Fr) (x : Option Operand) (F : Option V → Option α) (K : α → Option R) : optK (opdO fr x F) K = opdO fr x fun x => optK (F x) K := by unfold opdO; split <;> simp only [optK_optK]
theorem loadV_push (t : Nat) (p : V) (F : V → List Nat → Option α) (K : α → Option R) : optK (loadV cx σ t p F) K = loadV cx σ t p fun a b => optK (F a b) K := by
  unfold loadV
  rw [optK_must]
  congr 1
  split
  · split <;> simp only [optK_cond, castV_push, castD_push, optK_must, nthV_push, nthD_push, optK_none']
  · simp only [optK_cond, asAgg_push, castD_push, optK_must, nthV_push, nthD_push, optK_none']
  · simp only [optK_optK, optK_cond, asAgg_push, castD_push, optK_must, nthV_push, nthD_push, optK_none']
  · rfl
theorem storeV_push (t : Nat) (p v : V) (F : De → List Nat → Option α) (K : α → Option R) : optK (storeV cx σ t p v F) K = storeV cx σ t p v fun a b => optK (F a b) K := by
  unfold storeV
  split <;> try rfl
  split <;> simp only [optK_cond, optK_must, optK_none']
  split <;> simp only [optK_must, optK_none']
theorem castTup_push (P : Program) : ∀ (ts : List Nat) (vs : List V) (F : List V → Option α) (K : α → Option R), optK (castTup P ts vs F) K = castTup P ts vs fun x => optK (F x) K
  | [], vs, F, K => by simp only [castTup, unn_push]
  | t :: ts, vs, F, K => by
    simp only [castTup, unc_push, castV_push]
    congr 1; funext v r; congr 1; funext u
    exact castTup_push P ts r _ K
theorem castOut_push (P : Program) (t : Nat) (v : V) (F : V → Option α) (K : α → Option R) : optK (castOut P t v F) K = castOut P t v fun x => optK (F x) K := by
  unfold castOut
  split
  · split <;> simp only [asTup_push, castTup_push]
  · exact castV_push P t v F K

theorem likeV_push (o x : V) (F : V → Option α) (K : α → Option R) : optK (likeV o x F) K = likeV o x fun x => optK (F x) K := by
  unfold likeV
  split <;> simp only [asD_push, asInt_push, asBool_push, asStr_push, asSl_push]
  split <;> simp only [optK_cond, optK_none']
theorem likeL_push : ∀ (os vs : List V) (F : List V → Option α) (K : α → Option R), optK (likeL os vs F) K = likeL os vs fun x => optK (F x) K
  | [], vs, F, K => by simp only [likeL, unn_push]
  | o :: os, vs, F, K => by
    simp only [likeL, unc_push, likeV_push]
    congr 1; funext v r; congr 1; funext u
    exact likeL_push os r _ K
theorem likeO_push (o x : Ob) (F : Ob → Option α) (K : α → Option R) : optK (likeO o x F) K = likeO o x fun x => optK (F x) K := by
  unfold likeO
  split
  · rw [optK_must]
    congr 1
    split
    · exact likeL_push _ _ _ K
    · rfl
  · rw [optK_must, likeV_push]
  · rfl
theorem backOb_push (ren : List Nat) (σ' : St) : ∀ (l : List Nat) (k : Nat) (F : De → Option α) (K : α → Option R), optK (backOb ren σ σ' k l F) K = backOb ren σ σ' k l fun x => optK (F x) K
  | [], k, F, K => rfl
  | i :: l, k, F, K => by
    simp only [backOb, optK_optK, likeO_push]
    congr 1; funext a; congr 1; funext b; congr 1; funext c
    exact backOb_push ren σ' l (k + 1) _ K
theorem callV_push (call : Caller) (t f : Nat) (args : List V) (F : Oc → De → List Nat → Option α) (K : α → Option R) : optK (callV cx call σ t f args F) K = callV cx call σ t f args fun a b c => optK (F a b c) K := by
  unfold callV
  simp only [optK_must]
  congr 1
  congr 1
  split <;> simp only [backOb_push, castOut_push, optK_none']
theorem appendV_push (site t : Nat) (s x : V) (b : Bool) (F : V → De → List Nat → Option α) (K : α → Option R) : optK (appendV cx σ site t s x b F) K = appendV cx σ site t s x b fun a b c => optK (F a b c) K := by
  unfold appendV
  split <;> try rfl
  simp only [dataOf_push, optK_must, optK_cond]
  congr 1; funext a l; congr 1; congr 1
  split <;> try rfl
  split <;> simp only [optK_must, optK_none']
theorem sliceV_push (site t : Nat) (x : V) (lo hi mx : Option V) (F : V → De → List Nat → Option α) (K : α → Option R) : optK (sliceV cx σ site t x lo hi mx F) K = sliceV cx σ site t x lo hi mx fun a b c => optK (F a b c) K := by
  unfold sliceV
  split <;> try rfl
  · split <;> simp only [bound_push, optK_none']
  · simp only [dataS_push, optK_must]
    congr 1; congr 1; funext a l; congr 1
    split <;> simp only [bound_push, optK_must, optK_cond]
theorem lenV_push (t : Nat) (x : V) (F : V → List Nat → Option α) (K : α → Option R) : optK (lenV cx σ t x F) K = lenV cx σ t x fun a b => optK (F a b) K := by
  unfold lenV
  split <;> try rfl
  split <;> rfl
theorem indexAddrV_push (t : Nat) (x i : V) (F : V → Option α) (K : α → Option R) : optK (indexAddrV cx t x i F) K = indexAddrV cx t x i fun a => optK (F a) K := by
  unfold indexAddrV
  split <;> try rfl
  all_goals
    simp only [optK_must]
    congr 1
    split <;> simp only [index_push, nthD_push, optK_must, optK_none']
theorem fieldAddrV_push (s : Nat) (x : V) (f : Nat) (F : V → Option α) (K : α → Option R) : optK (fieldAddrV cx s x f F) K = fieldAddrV cx s x f fun a => optK (F a) K := by
  unfold fieldAddrV
  simp only [optK_optK, optK_must]
  congr 1; funext p; congr 1
  split <;> rfl
theorem partV_push (t : Nat) (v : V) (off : Nat) (F : V → Option α) (K : α → Option R) : optK (partV cx t v off F) K = partV cx t v off fun a => optK (F a) K := by
  unfold partV
  simp only [optK_must, optK_cond, nthV_push, castV_push]
theorem indexV_push (t : Nat) (x i : V) (F : V → Option α) (K : α → Option R) : optK (indexV cx t x i F) K = indexV cx t x i fun a => optK (F a) K := by
  unfold indexV
  split <;> try rfl
  · split <;> simp only [index_push, optK_optK, optK_none']
  · simp only [index_push, partV_push]

/-- What comes behind an operation may be drawn into it. -/
theorem evOp_push {m nt : Nat} {call : Caller} {o : Oper} {fr : Fr} (F : Oc → De → List Nat → Option α) (K : α → Option R) : optK (evOp cx m nt call o fr σ F) K = evOp cx m nt call o fr σ fun a b c => optK (F a b c) K := by
  obtain ⟨dst, op, type, pos, after, guard⟩ := o
  cases op
  case makeFunc fn first caps => cases fn <;> simp only [evOp, optK_must, optK_optK, optK_none']
  case makeMap t r => cases r <;> simp only [evOp, optK_must, optK_none']
  case move x | assign x =>
    simp only [evOp]
    split
    · split <;> try rfl
      split <;> rfl
    · simp only [optK_optK]
  case buildSlice t n ps =>
    simp only [evOp]
    split <;> simp only [optK_optK, optK_must, optK_none']
  case nilCheck x =>
    simp only [evOp, optK_optK]
    congr 1; funext v
    split <;> rfl
  case convert s t x =>
    simp only [evOp, optK_optK]
    congr 1; funext v
    split
    · split <;> simp only [optK_must, optK_none']
    · simp only [convV_push]
  case makeInterface t x =>
    simp only [evOp]
    split <;> try rfl
    simp only [optK_optK]
    congr 1; funext v
    split <;> rfl
  case panic x =>
    simp only [evOp, optK_optK]
    congr 1; funext v
    split <;> rfl
  case call c =>
    obtain ⟨callee, cargs, ctypes⟩ := c
    cases callee with
    | value f =>
      simp only [evOp, optK_optK]
      congr 1; funext v
      split <;> simp only [optK_optK, callV_push, optK_none']
    | invoke r nm => rfl
    | builtin b =>
      cases b <;> try rfl
      · simp only [evOp]
        split <;> simp only [optK_optK, optK_must, appendV_push, optK_none']
      · simp only [evOp]
        split <;> simp only [optK_optK, lenV_push, optK_none']
  all_goals first | rfl | (simp only [evOp, optK_optK, optK_must, optK_cond, optK_none', asB_push, loadV_push, storeV_push, binV_push, unV_push, opdO_push, sliceV_push, fieldAddrV_push, partV_push, indexAddrV_push, indexV_push, asTup_push, nthV_push]; done)

theorem evOp1_push {m nt : Nat} {call : Caller} {o : Oper} {fr : Fr} (K : Tri → Option R) : optK (evOp1 cx m nt call o fr σ) K = evOp cx m nt call o fr σ fun a b c => K (a, b, c) := by
  unfold evOp1
  rw [evOp_push]
  rfl

/-- Operations in the text's order: what comes behind drawn in. -/
def evOpsC (cx : Cx) (m nt : Nat) (call : Caller) (ops : List Oper) : List Oper → Fr → St → (Ex → Fr → St → Option R) → Option R
  | [], fr, σ, K => K .normal fr σ
  | o :: r, fr, σ, K => must (dstOk nt o.dst) <| guardV ops o fr
      (fun fr => evOp cx m nt call o fr σ fun oc δ _ => match oc with
        | .val v => evOpsC cx m nt call ops r (putF fr o.dst v) (applyDe σ δ) K
        | .pan v => K (.pan v) [] (applyDe σ δ))
      (fun fr => evOpsC cx m nt call ops r (putF fr o.dst undefV) σ K)

theorem evOps_C {m nt : Nat} {call : Caller} {ops : List Oper} {K : Ex → Fr → St → Option R} : ∀ (l : List Oper) (fr : Fr) (σ : St), evOps cx m nt call ops l fr σ K = evOpsC cx m nt call ops l fr σ K
  | [], _, _ => rfl
  | o :: l, fr, σ => by
    unfold evOps evOpsC
    congr 1
    congr 1
    · funext fr
      rw [evOp1_push]
      congr 1
      funext oc δ fp
      cases oc with
      | val v => exact evOps_C l _ _
      | pan v => rfl
    · funext fr
      exact evOps_C l _ _

/-- Operations whose order is open: what comes behind drawn in. -/
def evDrawC (cx : Cx) (m nt : Nat) (call : Caller) (ops : List Oper) (pre : List Nat) :
    Nat → List Oper → List Log → Option (Nat × V) → Fr → St → (Ex → Fr → St → Option R) → Option R
  | _, [], _, none, fr, σ, K => K .normal fr σ
  | _, [], log, some (k, v), _, σ, K => must (log.all fun a => a.w.isEmpty || Nat.beq a.i k || preHas pre k a.i) (K (.pan v) [] σ)
  | i, o :: r, log, dead, fr, σ, K =>
      bif deadDep pre i dead then evDrawC cx m nt call ops pre (i + 1) r log dead fr σ K
      else must (dstOk nt o.dst) <| guardV ops o fr
        (fun fr => evOp cx m nt call o fr σ fun oc δ fp => must (log.all fun a => meetOk pre a ⟨i, δ.map (·.1) ++ fp, δ.map (·.1)⟩) (match oc, dead with
          | .val u, _ => evDrawC cx m nt call ops pre (i + 1) r (⟨i, δ.map (·.1) ++ fp, δ.map (·.1)⟩ :: log) dead (putF fr o.dst u) (applyDe σ δ) K
          | .pan v, none => evDrawC cx m nt call ops pre (i + 1) r (⟨i, δ.map (·.1) ++ fp, δ.map (·.1)⟩ :: log) (some (i, v)) fr (applyDe σ δ) K
          | .pan _, some _ => none))
        (fun fr => evDrawC cx m nt call ops pre (i + 1) r log dead (putF fr o.dst undefV) σ K)

theorem evDraw_C {m nt : Nat} {call : Caller} {ops : List Oper} {pre : List Nat} {K : Ex → Fr → St → Option R} : ∀ (l : List Oper) (i : Nat) (log : List Log) (dead : Option (Nat × V)) (fr : Fr) (σ : St),
    evDraw cx m nt call ops pre i l log dead fr σ K = evDrawC cx m nt call ops pre i l log dead fr σ K
  | [], _, _, none, _, _ => rfl
  | [], _, _, some _, _, _ => rfl
  | o :: l, i, log, dead, fr, σ => by
    unfold evDraw evDrawC
    rw [evDraw_C l]
    congr 1
    congr 1
    congr 1
    · funext fr
      rw [evOp1_push]
      congr 1
      funext oc δ fp
      congr 1
      cases oc with
      | val v => exact evDraw_C l _ _ _ _ _
      | pan v =>
        cases dead with
        | none => exact evDraw_C l _ _ _ _ _
        | some q => rfl
    · funext fr
      exact evDraw_C l _ _ _ _ _

end
end Go.Vai
end

section
namespace Go.Vai

section
variable {R : Type} {cx : Cx}

def evCodeC (cx : Cx) (f m nt : Nat) (call : Caller) (n : Nat) : Code → Fr → St → (Ex → Fr → St → Option R) → Option R
  | .skip, fr, σ, K => K .normal fr σ
  | .label _, fr, σ, K => K .normal fr σ
  | .region _ ops false, fr, σ, K => evOpsC cx m nt call ops.toList ops.toList fr σ K
  | .region _ ops true, fr, σ, K => must (drawOk ops.toList (pres ops.toList [])) (evDrawC cx m nt call ops.toList (pres ops.toList []) 0 ops.toList [] none fr σ K)
  | .seq a b, fr, σ, K => evCodeC cx f m nt call n a fr σ fun e fr σ => match e with
      | .normal => evCodeC cx f m nt call n b fr σ K
      | e => K e fr σ
  | .cond c a b, fr, σ, K => optK (opd fr c) fun v => asB v fun t => bif t then evCodeC cx f m nt call n a fr σ K else evCodeC cx f m nt call n b fr σ K
  | .block id c, fr, σ, K => evCodeC cx f m nt call n c fr σ fun e fr σ => match e with
      | .normal => tidy cx m f (2 * id) fr σ (K .normal)
      | .exit id' => bif Nat.beq id' id then tidy cx m f (2 * id) fr σ (K .normal) else K (.exit id') fr σ
      | e => K e fr σ
  | .loop c, fr, σ, K => tidy cx m f (2 * firstRegion c + 1) fr σ fun fr σ =>
      iter (evCodeC cx f m nt call n c) (tidy cx m f (2 * firstRegion c + 1)) n fr σ K
  | .exit id, fr, σ, K => K (.exit id) fr σ
  | .goto l, fr, σ, K => K (.goto l) fr σ
  | .ret, fr, σ, K => K .ret fr σ
  | .scope c, fr, σ, K => evCodeC cx f m nt call n c fr σ fun e fr σ => match e with
      | .goto _ => none
      | e => K e fr σ
  | _, _, _, _ => none

theorem evCode_C {f m nt n : Nat} {call : Caller} : ∀ (c : Code) (fr : Fr) (σ : St) (K : Ex → Fr → St → Option R), evCode cx f m nt call n c fr σ K = evCodeC cx f m nt call n c fr σ K := by
  intro c
  induction c with
  | skip => intros; rfl
  | label l => intros; rfl
  | exit id => intros; rfl
  | goto l => intros; rfl
  | ret => intros; rfl
  | refuse why => intros; rfl
  | rangeFunc f params assign body _ _ => intros; rfl
  | region id ops draw =>
    intro fr σ K
    cases draw
    · exact evOps_C _ _ _
    · unfold evCode evCodeC
      rw [evDraw_C]
  | seq x y ihx ihy =>
    intro fr σ K
    unfold evCode evCodeC
    rw [ihx]
    congr 1
    funext e fr σ
    cases e <;> first | rfl | exact ihy _ _ _
  | cond c x y ihx ihy =>
    intro fr σ K
    unfold evCode evCodeC
    simp only [ihx, ihy]
  | block id c ih =>
    intro fr σ K
    unfold evCode evCodeC
    rw [ih]
    congr 1
  | loop c ih =>
    intro fr σ K
    unfold evCode evCodeC
    congr 1
    funext fr σ
    have e : (fun (fr : Fr) (σ : St) (K : Ex → Fr → St → Option R) => evCode cx f m nt call n c fr σ K) = fun fr σ K => evCodeC cx f m nt call n c fr σ K := by
      funext fr σ K
      exact ih fr σ K
    exact congrArg (fun body => iter body (tidy cx m f (2 * firstRegion c + 1)) n fr σ K) e
  | scope c ih =>
    intro fr σ K
    unfold evCode evCodeC
    rw [ih]
    congr 1

/-- How a call ends. -/
def endK (cx : Cx) (f m : Nat) (res : List ResultVar) : Ex → Fr → St → Option (Out × St) := fun e fr σ' =>
  match e with
  | .normal | .ret => resV cx fr σ' res fun vs =>
      (match (oneOrTup vs).leave m σ', leaveSt m σ' (List.range m) with | some v, some s => some (.ret v, s) | _, _ => none)
  | .pan v => (match v.leave m σ', leaveSt m σ' (List.range m) with | some v, some s => some (.pan v, s) | _, _ => none)
  | _ => none

/-- A call's body, with what is known of calls. -/
def evBody (cx : Cx) (call : Caller) (n f : Nat) (args : List V) (σ : St) : Option (Out × St) :=
  match cx.P.funcs[f]? with
  | none => none
  | some fn =>
    match fn.body with
    | none => none
    | some c => evCodeC cx f σ.length fn.ntmps call n c (numbered 0 args) σ (endK cx f σ.length fn.results.toList)

theorem evWith_body {call : Caller} {n f : Nat} {args : List V} {σ : St} : evWith cx call n f args σ = evBody cx call n f args σ := by
  unfold evWith evBody
  cases cx.P.funcs[f]? with
  | none => rfl
  | some fn =>
    simp only
    cases fn.body with
    | none => rfl
    | some c =>
      simp only
      rw [evCode_C]
      congr 1

/-- So a call is shown: its body, by what is known of the calls in it. -/
theorem lim_body {call : Caller} (hk : knows cx call (evLim cx)) {N f : Nat} {args : List V} {σ : St} {r : Out × St} (h : evBody cx call N f args σ = some r) : evLim cx f args σ = some r :=
  lim_with (N := N) (evWith_mono hk (Nat.le_refl N) f args σ r (by rw [evWith_body]; exact h))

end
end Go.Vai
end

section
namespace Go.Vai

section
variable {R : Type}

def codeOf (cx : Cx) (f : Nat) : Code := match cx.P.funcs[f]? with | some fn => (match fn.body with | some c => c | none => .skip) | none => .skip
def ntOf (cx : Cx) (f : Nat) : Nat := match cx.P.funcs[f]? with | some fn => fn.ntmps | none => 0
def resOf (cx : Cx) (f : Nat) : List ResultVar := match cx.P.funcs[f]? with | some fn => fn.results.toList | none => []

/-- The loop whose first region is numbered so. -/
def findLoop (r : Nat) : Code → Option Code
  | .loop c => bif Nat.beq (firstRegion c) r then some c else findLoop r c
  | .seq a b => (match findLoop r a with | some c => some c | none => findLoop r b)
  | .cond _ a b => (match findLoop r a with | some c => some c | none => findLoop r b)
  | .block _ c => findLoop r c
  | .scope c => findLoop r c
  | _ => none

def loopC (cx : Cx) (f r : Nat) : Code := match findLoop r (codeOf cx f) with | some c => c | none => .skip

/-- A loop. -/
def LP (cx : Cx) (call : Caller) (n f m r k : Nat) (fr : Fr) (σ : St) (K : Ex → Fr → St → Option R) : Option R :=
  iter (evCodeC cx f m (ntOf cx f) call n (loopC cx f r)) (tidy cx m f (2 * r + 1)) k fr σ K

/-- What comes behind a loop in some code. -/
def ctxK (cx : Cx) (f m nt : Nat) (call : Caller) (n r : Nat) : Code → (Ex → Fr → St → Option R) → Option (Ex → Fr → St → Option R)
  | .loop c, K => bif Nat.beq (firstRegion c) r then some K else none
  | .seq a b, K => (match ctxK cx f m nt call n r a (fun e fr σ => match e with
      | .normal => evCodeC cx f m nt call n b fr σ K
      | e => K e fr σ) with | some k => some k | none => ctxK cx f m nt call n r b K)
  | .cond _ a b, K => (match ctxK cx f m nt call n r a K with | some k => some k | none => ctxK cx f m nt call n r b K)
  | .block id c, K => ctxK cx f m nt call n r c fun e fr σ => match e with
      | .normal => tidy cx m f (2 * id) fr σ (K .normal)
      | .exit id' => bif Nat.beq id' id then tidy cx m f (2 * id) fr σ (K .normal) else K (.exit id') fr σ
      | e => K e fr σ
  | .scope c, K => ctxK cx f m nt call n r c fun e fr σ => match e with
      | .goto _ => none
      | e => K e fr σ
  | _, _ => none

/-- Behind a loop of a function. -/
def AK (cx : Cx) (call : Caller) (n f m r : Nat) (K : Ex → Fr → St → Option R) : Ex → Fr → St → Option R :=
  match ctxK cx f m (ntOf cx f) call n r (codeOf cx f) K with | some k => k | none => fun _ _ _ => none

/-- Behind a round of a loop. -/
def inK (cx : Cx) (call : Caller) (n f m r k : Nat) (K : Ex → Fr → St → Option R) : Ex → Fr → St → Option R := fun e fr σ =>
  match e with
  | .normal => tidy cx m f (2 * r + 1) fr σ fun fr σ => LP cx call n f m r k fr σ K
  | e => K e fr σ

/-- Behind a loop in a loop. -/
def AL (cx : Cx) (call : Caller) (n f m r r' : Nat) (K : Ex → Fr → St → Option R) : Ex → Fr → St → Option R :=
  match ctxK cx f m (ntOf cx f) call n r' (loopC cx f r) K with | some k => k | none => fun _ _ _ => none

def EK (cx : Cx) (f m : Nat) : Ex → Fr → St → Option (Out × St) := endK cx f m (resOf cx f)

end
end Go.Vai
end

section
namespace Go.Vai

section
variable {R : Type}

/-- The operations of a region. -/
def findRegion (r : Nat) : Code → Option (List Oper)
  | .region id ops _ => bif Nat.beq id r then some ops.toList else none
  | .loop c => findRegion r c
  | .seq a b => (match findRegion r a with | some c => some c | none => findRegion r b)
  | .cond _ a b => (match findRegion r a with | some c => some c | none => findRegion r b)
  | .block _ c => findRegion r c
  | .scope c => findRegion r c
  | _ => none

def regOps (cx : Cx) (f r : Nat) : List Oper := match findRegion r (codeOf cx f) with | some l => l | none => []

/-- What comes behind a region in some code. -/
def ctxR (cx : Cx) (f m nt : Nat) (call : Caller) (n r : Nat) : Code → (Ex → Fr → St → Option R) → Option (Ex → Fr → St → Option R)
  | .region id _ _, K => bif Nat.beq id r then some K else none
  | .seq a b, K => (match ctxR cx f m nt call n r a (fun e fr σ => match e with
      | .normal => evCodeC cx f m nt call n b fr σ K
      | e => K e fr σ) with | some k => some k | none => ctxR cx f m nt call n r b K)
  | .cond _ a b, K => (match ctxR cx f m nt call n r a K with | some k => some k | none => ctxR cx f m nt call n r b K)
  | .block id c, K => ctxR cx f m nt call n r c fun e fr σ => match e with
      | .normal => tidy cx m f (2 * id) fr σ (K .normal)
      | .exit id' => bif Nat.beq id' id then tidy cx m f (2 * id) fr σ (K .normal) else K (.exit id') fr σ
      | e => K e fr σ
  | .scope c, K => ctxR cx f m nt call n r c fun e fr σ => match e with
      | .goto _ => none
      | e => K e fr σ
  | _, _ => none

/-- Behind a region of a function. -/
def AR (cx : Cx) (call : Caller) (n f m r : Nat) (K : Ex → Fr → St → Option R) : Ex → Fr → St → Option R :=
  match ctxR cx f m (ntOf cx f) call n r (codeOf cx f) K with | some k => k | none => fun _ _ _ => none

/-- Behind a region of a loop's round. -/
def RL (cx : Cx) (call : Caller) (n f m r0 r : Nat) (K : Ex → Fr → St → Option R) : Ex → Fr → St → Option R :=
  match ctxR cx f m (ntOf cx f) call n r (loopC cx f r0) K with | some k => k | none => fun _ _ _ => none

/-- A region from some operation on. -/
def OPS (cx : Cx) (call : Caller) (n f m r j : Nat) (fr : Fr) (σ : St) (K : Ex → Fr → St → Option R) : Option R :=
  evOpsC cx m (ntOf cx f) call (regOps cx f r) ((regOps cx f r).drop j) fr σ K

theorem asAgg_at {l : List D} {n : Nat} {K : D → Option R} (h : Nat.beq l.length n = true) : asAgg (.agg l) n K = K (.agg l) := by
  show (bif Nat.beq l.length n then K (.agg l) else none) = _
  rw [h]; rfl

end
end Go.Vai
end

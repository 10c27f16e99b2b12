/-
  Each operation of the interpreter is the machine's: what is appended.
  Each operation of the interpreter is the machine's: the first append, pieces of slices and texts, conversions.
  A call sees what its arguments lead to, and nothing else: names of objects inside and outside.
  A call from the caller's side.
  A call from the caller's side: the whole.
  Each operation of the interpreter is the machine's: all of them.
-/
import Derived.Test.YtkaopadaeefoiaaDoorVaiPart2

set_option linter.all false
set_option linter.unusedSimpArgs false
set_option linter.unusedVariables false

section
namespace Go.Vai

section
variable {R : Type} {P : Program} {cx : Cx} {w w' : World} {σ : St} {μ μ' : Mu}

theorem run_storeCells_fr (g o : Nat) (t : TypeId) (fr : Nat × Nat) : ∀ (vs : List Value) (i : Nat) (cur : Array Value) (w : World), w.heap[g]? = some (.cells cur t fr) → o + i + vs.length ≤ cur.size →
    (fr = (0, 0) ∨ cur.size ≤ fr.1) → (∀ v ∈ vs, v.oneCell' = true) →
    (storeCells ⟨g, o, none⟩ vs i).run P w = .ok () (w.setRow g (cur.toList.take (o + i) ++ vs ++ cur.toList.drop (o + i + vs.length)).toArray)
  | [], i, cur, w, hg, _, _, _ => by
    simp only [storeCells, List.append_nil, List.length_nil, Nat.add_zero, List.take_append_drop, Array.toArray_toList]
    rw [setRow_self w g cur t fr hg]
    rfl
  | v :: rest, i, cur, w, hg, hl, hfr, h1 => by
    have hi : o + i < cur.size := by simp at hl; omega
    have hadd : (⟨g, o, none⟩ : Addr).add i = ⟨g, o + i, none⟩ := addr_add g o i
    have hcell : w.cell? ⟨g, o + i, none⟩ = some cur[o + i] := by simp [World.cell?, hg, hi]
    have hfro : w.frozen? ⟨g, o + i, none⟩ = false := by
      rcases hfr with rfl | hfr
      · simp [World.frozen?, hg]
      · obtain ⟨a, b⟩ := fr
        simp only [World.frozen?, hg] at hfr ⊢
        have : ¬ a ≤ o + i := by omega
        simp [this]
    have hst : (store ((⟨g, o, none⟩ : Addr).add i) v).run P w = .ok () (w.setRow g (cur.setIfInBounds (o + i) v)) := by
      rw [hadd, run_store P w _ v _ (h1 v (by simp)), hcell]
      simp [hfro, setCell_eq_setRow w g (o + i) cur t fr v hg]
    have ih := run_storeCells_fr g o t fr rest (i + 1) (cur.setIfInBounds (o + i) v) (w.setRow g (cur.setIfInBounds (o + i) v)) (setRow_heap w g cur _ t _ hg) (by simp at hl ⊢; omega) (by simpa using hfr) (fun x hx => h1 x (by simp [hx]))
    simp only [storeCells, Sem.run_bind, hst, Result.andThen_ok, ih, setRow_setRow]
    congr 3
    have e := list_seg_step cur.toList (o + i) v rest (by simp at hl ⊢; omega)
    simpa [Array.toList_setIfInBounds, Nat.add_assoc] using e

theorem flatD_bytes (s : List UInt8) : flatD (s.map fun b => (D.int .u8 b.toNat)) = s.map fun b => (D.int .u8 b.toNat) := by
  unfold flatD
  induction s with
  | nil => rfl
  | cons a s ih => simp only [List.map_cons, List.flatMap_cons, ih]; rfl

/-- What is to be appended: its length and its cells. -/
theorem dataOf_row {v : V} {v' : Value} {K : Nat → List D → Option R} {r : R} (hv : RV w σ μ v' v) (h : dataOf v K = some r) :
    ∃ sz ys, K sz ys = some r ∧ (Builtin.lenOf v').run P w = .ok ys.length w ∧ ∀ size, (sz = size ∨ ys = []) →
      (∀ y ∈ ys, y.cells.length = size) ∧ ∃ xs : List Value, (∀ w', Stays w (OwnOf σ μ) w' (OwnOf σ μ) → (Builtin.firstCells size ys.length v').run P w' = .ok xs.toArray w') ∧ RDs w (OwnOf σ μ) xs (flatD ys) ∧ (∀ x ∈ xs, x.oneCell' = true) := by
  have slc : ∀ {sz : Nat} {l : List D}, RD w (OwnOf σ μ) v' (.sl sz l) → K sz l = some r → ∃ sz ys, K sz ys = some r ∧ (Builtin.lenOf v').run P w = .ok ys.length w ∧ ∀ size, (sz = size ∨ ys = []) →
      (∀ y ∈ ys, y.cells.length = size) ∧ ∃ xs : List Value, (∀ w', Stays w (OwnOf σ μ) w' (OwnOf σ μ) → (Builtin.firstCells size ys.length v').run P w' = .ok xs.toArray w') ∧ RDs w (OwnOf σ μ) xs (flatD ys) ∧ (∀ x ∈ xs, x.oneCell' = true) := by
    intro sz l hd hK
    refine ⟨sz, l, hK, ?_, fun size hs => ?_⟩
    · obtain ⟨base, cap, rfl⟩ := hd.slice_inv; rfl
    · have hd := hd.sl_sz hs
      obtain ⟨base, cap, rfl, _, hsz, xs, hxl, h1, hr, hc⟩ := hd.toRow
      by_cases he : l = []
      · subst he
        refine ⟨by simp, [], fun w' _ => ?_, ⟨rfl, by simp [flatD]⟩, by simp⟩
        cases base with
        | none => rfl
        | some a =>
          simp only [Builtin.firstCells, List.length_nil, Nat.zero_mul]
          rfl
      · refine ⟨hsz he, xs, fun w' hst => ?_, hr, h1⟩
        obtain ⟨b, o, rfl, hcc⟩ := hc he
        simp only [Builtin.firstCells]
        have := run_loadCells_list (P := P) w' ⟨b, o, none⟩ xs (fun j x hx => by rw [addr_add]; exact (hst.cell _ _ _ (hcc j x hx).2 (hcc j x hx).1).1)
        rw [hxl] at this
        exact this
  unfold dataOf at h
  split at h
  · cases hv with | d _ _ hd => exact slc hd h
  · exact slc hv.slD h
  · rename_i s
    obtain rfl := hv.str_inv
    refine ⟨1, _, h, ?_, fun size hs => ?_⟩
    · simp [Builtin.lenOf, strB_size]
    · have hfl := flatD_bytes s
      refine ⟨fun y hy => ?_, s.map fun b => .int .u8 b.toNat, fun w' _ => ?_, ?_, ?_⟩
      · rcases hs with rfl | hs
        · simp only [List.mem_map] at hy; obtain ⟨b, _, rfl⟩ := hy; rfl
        · rw [hs] at hy; cases hy
      · simp only [Builtin.firstCells, List.length_map]
        have e : (strB s).extract 0 s.length = strB s := by
          have := strB_extract s 0 s.length
          simpa using this
        rw [e]
        simp [strB]
      · rw [hfl]
        exact ⟨by simp, fun i x y hx hy => by
          simp only [List.getElem?_map, Option.map_eq_some_iff] at hx hy
          obtain ⟨b, hb, rfl⟩ := hx
          obtain ⟨b', hb', rfl⟩ := hy
          rw [hb] at hb'; cases hb'
          exact .int _ _⟩
      · intro x hx
        simp only [List.mem_map] at hx
        obtain ⟨b, _, rfl⟩ := hx
        rfl
  · cases h

theorem growBy_le (need : Nat) : ∀ (n c : Nat), c ≤ need + (need + 768) / 4 → Builtin.growBy need n c ≤ need + (need + 768) / 4
  | 0, c, h => h
  | n + 1, c, h => by
    unfold Builtin.growBy
    split
    · exact h
    · exact growBy_le need n _ (by omega)

theorem nextcap_le (need cap : Nat) (h : cap < need) : Builtin.nextslicecap need cap ≤ 2 * need + 192 := by
  unfold Builtin.nextslicecap
  split
  · omega
  · split
    · omega
    · have := growBy_le need 4 cap (by omega)
      omega


theorem flatD_append (l l' : List D) : flatD (l ++ l') = flatD l ++ flatD l' := by simp [flatD]

/-- The world behind a draw. -/
theorem drew_stays : Stays w (OwnOf σ μ) w.drew (OwnOf σ μ) := ⟨fun _ _ _ h hc => ⟨hc, h⟩, fun _ _ _ h hm => ⟨hm, h⟩⟩

theorem zeroCells_length (z : Array Value) (n : Nat) : (Builtin.zeroCells z n).size = n * z.size := by simp [Builtin.zeroCells]


theorem not_int {t' : Nat} (ht' : (match P.underlying t' with | some (.int _) => false | some _ => true | none => false) = true) : ∃ d, P.underlying t' = some d ∧ ∀ k, d ≠ .int k := by
  cases hu : P.underlying t' with
  | none => rw [hu] at ht'; cases ht'
  | some d =>
    refine ⟨d, rfl, fun k hk => ?_⟩
    subst hk
    rw [hu] at ht'
    cases ht'

/-- An append that has room. -/
theorem run_append_in {t t' e ty ln n cap : Nat} {base : Option Addr} {x' : Value} {d' : TypeDesc} {xs : List Value} (hu : P.underlying t = some (.slice e)) (hty : hasTy P e = true) (hu' : P.underlying t' = some d') (hd' : ∀ k, d' ≠ .int k)
    (hl : (Builtin.lenOf x').run P w = .ok n w) (hx : (Builtin.firstCells (P.cellsOf e) n x').run P w = .ok xs.toArray w) (hc : ln + n ≤ cap) {w' : World}
    (hst : (match base with | some a => storeCells (a.add (ln * P.cellsOf e)) xs | none => pure () : Sem Unit).run P w = .ok () w') :
    (Builtin.append_ #[t, t'] ty #[.slice base ln cap, x']).run P w = .ok (.slice base (ln + n) cap) w' := by
  unfold Builtin.append_
  simp only [List.getElem?_toArray, List.getElem?_cons_zero, List.getElem?_cons_succ, Sem.run_bind, run_underlying hu, run_underlying hu', Result.andThen_ok, run_sizeTy hty, Sem.run_pure, hl, Bool.false_eq_true, if_false, if_pos hc,
    Bool.not_false, if_true, hx]
  cases base with
  | none => simp only [Sem.run_pure] at hst ⊢; cases hst; rfl
  | some a => simp only [Sem.run_bind, hst, Result.andThen_ok, Sem.run_pure]

/-- An append that must grow. -/
theorem run_append_grow {t t' e ty ln n cap : Nat} {base : Option Addr} {x' : Value} {d' : TypeDesc} {xs ys : List Value} {i : TypeInfo} {z : Value} (hu : P.underlying t = some (.slice e)) (hi : P.info? e = some i) (hz : i.zero = some z) (hty : hasTy P e = true)
    (hu' : P.underlying t' = some d') (hd' : ∀ k, d' ≠ .int k) (hl : (Builtin.lenOf x').run P w = .ok n w) (hc : cap < ln + n) (hle : ln + n ≤ 4294967296) (hby : P.bytesOf e ≤ 4096)
    (hy : (Builtin.firstCells (P.cellsOf e) ln (.slice base ln cap)).run P w.drew = .ok ys.toArray w.drew)
    (hx : (Builtin.firstCells (P.cellsOf e) n x').run P w.drew = .ok xs.toArray w.drew) :
    ∃ c, ln + n ≤ c ∧ (Builtin.append_ #[t, t'] ty #[.slice base ln cap, x']).run P w =
      .ok (.slice (some ⟨w.heap.size, 0, none⟩) (ln + n) c) (w.drew.alloc (.cells (ys.toArray ++ xs.toArray ++ Builtin.zeroCells z.cells (c - (ln + n))) e)) := by
  have hb : i.bytes = P.bytesOf e := by simp [Program.bytesOf, hi]
  have hnc : ¬ Builtin.nextslicecap (ln + n) cap * i.bytes > 2 ^ 48 := by
    have h1 := nextcap_le (ln + n) cap hc
    have h2 : Builtin.nextslicecap (ln + n) cap * i.bytes ≤ (2 * 4294967296 + 192) * 4096 := Nat.mul_le_mul (by omega) (by omega)
    omega
  have hbig : ¬ ((ln + n : Nat) : Int) > IntKind.i64.max := by
    have : IntKind.i64.max = 9223372036854775807 := by decide
    rw [this]; omega
  refine ⟨(Question.appendCap (ln + n) cap e).cut (w.tape w.drawn (.appendCap (ln + n) cap e)), Nat.le_add_right _ _, ?_⟩
  unfold Builtin.append_
  simp only [List.getElem?_toArray, List.getElem?_cons_zero, List.getElem?_cons_succ, Sem.run_bind, run_underlying hu, run_underlying hu', Result.andThen_ok, run_sizeTy hty, Sem.run_pure, hl, Bool.false_eq_true, if_false, if_neg (Nat.not_le.2 hc),
    typeInfo, run_program, hi, hbig, false_and, Bool.not_false, if_true]
  rw [if_neg hnc]
  simp only [Sem.run_bind, Sem.run_pure, run_program, Result.andThen_ok, hi, run_choose, Question.forced, run_askRoom, World.drew_eq, hy, hx, hz, newRow, run_newObj, World.alloc_eq, World.size_drew, Bool.false_eq_true, if_false, zeroValue, typeInfo]

/-- Of a block of which a slice's tail is owned nobody else owns anything. -/
theorem Inv.tailOwn (hi : Inv cx w σ μ) {id n b : Nat} (ho : getA σ id = some (.tok n)) (hb : (μ id).blk = some b) {j : Nat} {o : Ob} {k : Nat} (hj : getA σ j = some o) (hown : owns μ j o b k) : j = id := by
  have key : ∃ i, owns μ j o b i ∧ owns μ id (.tok n) b i := by
    refine ⟨max k (max (μ id).f (μ j).f), ?_, ?_⟩
    · cases o <;> simp only [owns] at hown ⊢ <;> first | exact hown | exact ⟨hown.1, by omega⟩
    · exact ⟨hb, by omega⟩
  obtain ⟨i, h1, h2⟩ := key
  exact hi.apart j id o _ b i hj ho h1 h2

/-- What is appended. -/
theorem append_ok {t t' e ty id : Nat} {sz sz' : Nat} {l ys : List D} {s' x' : Value} {x : V} {z : List D} (hi : Inv cx w σ μ) (hs : RV w σ μ s' (.sl sz l id)) (hx : RV w σ μ x' x)
    (hd : dataOf x (fun a b => some (a, b)) = some (sz', ys))
    (hu : cx.P.underlying t = some (.slice e)) (hz : zeroOf cx.P e = some z) (ht' : (match cx.P.underlying t' with | some (.int _) => false | some _ => true | none => false) = true)
    (hsz' : sz' = cx.P.cellsOf e ∨ ys = []) (hsz : sz = cx.P.cellsOf e) (hby : cx.P.bytesOf e ≤ 4096) (ho : getA σ id = some (.tok l.length)) (hle : l.length + ys.length ≤ 4294967296) :
    ∃ v' w' lo, (Builtin.append_ #[t, t'] ty #[s', x']).run cx.P w = .ok v' w' ∧ Upd cx w σ μ w' (applyDe σ [(id, .tok (l.length + ys.length))]) (setMu μ id lo) [id] ∧
      (∀ j ∈ [id], ∀ o', getA (applyDe σ [(id, .tok (l.length + ys.length))]) j = some o' → ObOk w' (applyDe σ [(id, .tok (l.length + ys.length))]) (setMu μ id lo) j o') ∧
      RV w' (applyDe σ [(id, .tok (l.length + ys.length))]) (setMu μ id lo) v' (.sl sz (l ++ ys) id) := by
  subst hsz
  obtain ⟨sz0, ys0, h0, hlen, hcells⟩ := dataOf_row (P := cx.P) hx hd
  cases h0
  obtain ⟨hysz, xs, hfx, hxr, hx1⟩ := hcells _ hsz'
  obtain ⟨i, zv, hti, hzv, hty, ha, hzr, hzone, hzlen, hzfit⟩ := zeroOf_some (w := w) hz
  obtain ⟨d', hu', hd'⟩ := not_int ht'
  have hzc : zv.cells.size = cx.P.cellsOf e := by have := (hzr (OwnOf σ μ)).1; simp at this; omega
  have hxl : xs.length = ys.length * cx.P.cellsOf e := by rw [hxr.1, flatD_length ys hysz]
  have hnew : getA (applyDe σ [(id, Ob.tok (l.length + ys.length))]) id = some (.tok (l.length + ys.length)) := by simp [applyDe, getA_putA]
  have hother : ∀ j, j ≠ id → getA (applyDe σ [(id, Ob.tok (l.length + ys.length))]) j = getA σ j := fun j hj => by simp [applyDe, getA_putA, Ne.symm hj]
  cases hs with
  | sl _ _ _ _ n hrd ht hn htail => ?_
  rw [ho] at ht; cases ht
  have htail := htail rfl
  obtain ⟨base, cap, rfl, hcap, hlsz, zs, hzl, hz1, hzsr, hzcell⟩ := hrd.toRow
  have hcap : l.length ≤ cap := by
    by_cases he : l = []
    · subst he; simp
    · exact hcap he
  have hlsz' : ∀ y ∈ l, y.cells.length = cx.P.cellsOf e := fun y hy => hlsz (List.ne_nil_of_mem hy) y hy
  have hall : ∀ y ∈ l ++ ys, y.cells.length = cx.P.cellsOf e := fun y hy => by
    rcases List.mem_append.1 hy with h | h
    · exact hlsz' y h
    · exact hysz y h
  by_cases hroom : l.length + ys.length ≤ cap
  · -- in place
    by_cases hys : ys = []
    · -- nothing is appended
      subst hys
      have hxs : xs = [] := by simpa using hxl
      subst hxs
      have hup : Upd cx w σ μ w (applyDe σ [(id, Ob.tok (l.length + 0))]) (setMu μ id (μ id)) [id] := by
        have hmu := setMu_self μ id
        rw [hmu]
        exact {
          os := rfl, output := rfl, size := Nat.le_refl _, blk := fun _ _ _ => rfl, cell := fun _ _ _ _ h => h,
          fr := rfl, same := fun j hj => ⟨hother j (by simpa using hj), rfl⟩,
          own := fun j hj q hq b i hown _ => by
            simp at hj; subst hj
            rw [show getA (applyDe σ [(j, Ob.tok (l.length + 0))]) j = some (.tok (l.length + 0)) from hnew] at hq
            cases hq
            exact ⟨_, ho, hown⟩,
          still := fun j hj q hq => by
            simp at hj; subst hj
            rw [ho] at hq; cases hq
            rw [show getA (applyDe σ [(j, Ob.tok (l.length + 0))]) j = some (.tok (l.length + 0)) from hnew]
            exact ⟨by omega, fun _ => rfl⟩,
          apart := fun j hj j' hj' _ _ _ _ _ _ _ _ _ => by simp at hj hj'; rw [hj, hj'] }
      have hmu := setMu_self μ id
      refine ⟨.slice base (l.length + 0) cap, w, μ id, ?_, hup, fun j hj o' ho' => ?_, ?_⟩
      · refine run_append_in hu hty hu' hd' hlen (hfx w (Stays.refl _ _)) (by simpa using hroom) ?_
        cases base <;> rfl
      · simp at hj; subst hj
        rw [hnew] at ho'
        cases ho'
        rw [hmu]
        exact hi.ob j _ ho
      · rw [List.append_nil]
        refine .sl _ _ _ id (l.length + 0) ?_ hnew (by simp) fun _ => by rw [hmu]; exact htail
        exact hrd.stays (hup.goes.stays' hi)
    · -- behind the slice's end
      have hpos : 0 < ys.length := List.length_pos_iff.2 hys
      rcases htail with ⟨h1, _, _⟩ | ⟨b, o, hbase, hb, hf, hend, hnc⟩
      · omega
      obtain rfl := hbase
      obtain ⟨cs, el, fr, hh, hcs, hfr⟩ := hi.ob id _ ho b hb
      have hmul : (l.length + ys.length) * cx.P.cellsOf e ≤ cap * cx.P.cellsOf e := Nat.mul_le_mul_right _ hroom
      rw [Nat.add_mul] at hmul
      have hfit : o + l.length * cx.P.cellsOf e + 0 + xs.length ≤ cs.size := by rw [hcs, hxl]; omega
      have hst := run_storeCells_fr (P := cx.P) b (o + l.length * cx.P.cellsOf e) el fr xs 0 cs w hh hfit hfr hx1
      simp only [Nat.add_zero] at hst
      generalize hncs : (cs.toList.take (o + l.length * cx.P.cellsOf e) ++ xs ++ cs.toList.drop (o + l.length * cx.P.cellsOf e + xs.length)).toArray = ncs at hst
      have hncsz : ncs.size = cs.size := by rw [← hncs]; simp; omega
      have hlow : ∀ k, k < (μ id).f → ncs[k]? = cs[k]? := fun k hk => by
        rw [← hncs]
        have : k < o + l.length * cx.P.cellsOf e := by omega
        simp only [List.getElem?_toArray, List.append_assoc]
        rw [List.getElem?_append_left (by simp; omega), List.getElem?_take, if_pos this]
        simp
      have hmid : ∀ (k : Nat) v, xs[k]? = some v → ncs[o + l.length * cx.P.cellsOf e + k]? = some v := fun k v hk => by
        rw [← hncs]
        have hkl := (List.getElem?_eq_some_iff.1 hk).1
        have hmin : min (o + l.length * cx.P.cellsOf e) cs.size = o + l.length * cx.P.cellsOf e := by omega
        simp only [List.getElem?_toArray, List.append_assoc]
        rw [List.getElem?_append_right (by simp; omega)]
        rw [List.getElem?_append_left (by simp [hmin]; omega)]
        rw [← hk]
        congr 1
        simp [hmin]
      have hnh : (w.setRow b ncs).heap[b]? = some (.cells ncs el fr) := setRow_heap w b cs ncs el fr hh
      let lo : Lo := ⟨some b, (μ id).f + xs.length, (μ id).e⟩
      have hup : Upd cx w σ μ (w.setRow b ncs) (applyDe σ [(id, Ob.tok (l.length + ys.length))]) (setMu μ id lo) [id] := {
        os := rfl, output := rfl, size := by rw [setRow_size]; exact Nat.le_refl _,
        blk := fun b' _ hn => by
          have hne : b' ≠ b := fun h => hn id (by simp) _ ho (μ id).f (by rw [h]; exact ⟨hb, Nat.le_refl _⟩)
          exact setRow_other _ _ _ hne,
        cell := fun b' k v hn hc => by
          by_cases hbb : b' = b
          · subst hbb
            have hk : k < (μ id).f := Nat.lt_of_not_le fun h => hn id (by simp) _ ho ⟨hb, h⟩
            rw [cell_of_heap hnh, hlow k hk, ← cell_of_heap (i := k) hh]
            exact hc
          · unfold World.cell? at hc ⊢
            simp only at hc ⊢
            rw [setRow_other _ _ _ hbb]
            exact hc,
        fr := rfl, same := fun j hj => by
          have hj : j ≠ id := by simpa using hj
          exact ⟨hother j hj, by simp [setMu, hj]⟩,
        own := fun j hj q hq b' k hown _ => by
          simp at hj; subst hj
          rw [hnew] at hq; cases hq
          refine ⟨_, ho, ?_⟩
          have h1 : some b = some b' := by simpa [setMu, lo] using hown.1
          have h2 : (μ j).f + xs.length ≤ k := by simpa [setMu, lo] using hown.2
          exact ⟨hb.trans h1, by omega⟩,
        still := fun j hj q hq => by
          simp at hj; subst hj
          rw [ho] at hq; cases hq
          rw [hnew]
          exact ⟨by omega, fun h => by omega⟩,
        apart := fun j hj j' hj' _ _ _ _ _ _ _ _ _ => by simp at hj hj'; rw [hj, hj'] }
      have hs := hup.goes.stays' hi
      refine ⟨.slice (some ⟨b, o, none⟩) (l.length + ys.length) cap, w.setRow b ncs, lo, ?_, hup, fun j hj o' ho' => ?_, ?_⟩
      · refine run_append_in hu hty hu' hd' hlen (hfx w (Stays.refl _ _)) hroom ?_
        simp only [addr_add]
        exact hst
      · simp at hj; subst hj
        rw [hnew] at ho'; cases ho'
        intro b' hb'
        have hbb : b = b' := by simpa [setMu, lo] using hb'
        subst hbb
        exact ⟨ncs, el, fr, hnh, by simp [setMu, lo, hncsz, hcs], by rw [hncsz]; exact hfr⟩
      · refine .sl _ _ _ id (l.length + ys.length) ?_ hnew (by simp) fun _ => .inr ⟨b, o, rfl, by simp [setMu, lo], ?_, by simpa [setMu, lo] using hend, hroom⟩
        · refine RD.ofRow hnh (by simp) hroom hall (fun k c hk => ?_) fun k hk hown => ?_
          · rw [flatD_append] at hk
            have hfl := flatD_length l hlsz'
            by_cases hkl : k < (flatD l).length
            · rw [List.getElem?_append_left hkl] at hk
              obtain ⟨v, hv⟩ := getSome (l := zs) (i := k) (by rw [hzsr.1]; exact hkl)
              have hne : l ≠ [] := by intro h; subst h; simp [flatD] at hkl
              obtain ⟨b1, o1, hb1, hc1⟩ := hzcell hne
              cases hb1
              have hc2 := (hc1 k v hv).1
              rw [cell_of_heap hh] at hc2
              refine ⟨v, ?_, (hzsr.2 k v c hv hk).stays hs, hz1 v (List.mem_of_getElem? hv)⟩
              rw [hlow _ (by omega)]
              exact hc2
            · rw [List.getElem?_append_right (by omega)] at hk
              obtain ⟨v, hv⟩ := getSome (l := xs) (i := k - (flatD l).length) (by rw [hxr.1]; exact (List.getElem?_eq_some_iff.1 hk).1)
              refine ⟨v, ?_, (hxr.2 _ v c hv hk).stays hs, hx1 v (List.mem_of_getElem? hv)⟩
              have := hmid _ v hv
              rw [hfl] at this hkl
              rw [show o + k = o + l.length * cx.P.cellsOf e + (k - l.length * cx.P.cellsOf e) by omega]
              exact this
          · rcases hown with hfr | ⟨j, q, hj, hq⟩
            · exact hi.frame id _ b _ ho ⟨hb, Nat.le_refl _⟩ _ hfr
            by_cases hjid : j = id
            · subst hjid
              rw [hnew] at hj; cases hj
              have h2 : (μ j).f + xs.length ≤ o + k := by simpa [setMu, lo] using hq.2
              rw [Nat.add_mul] at hk
              omega
            · rw [hother j hjid] at hj
              exact hjid (hi.tailOwn ho hb hj ((owns_congr (by simp [setMu, hjid]) q _ _).1 hq))
        · simp only [setMu, lo, if_true]
          rw [Nat.add_mul, hxl]; omega
  · -- a new array
    have hgrow : cap < l.length + ys.length := by omega
    have hpos : 0 < ys.length := by omega
    have hfz : (Builtin.firstCells (cx.P.cellsOf e) l.length (.slice base l.length cap)).run cx.P w.drew = .ok zs.toArray w.drew := by
      by_cases he : l = []
      · subst he
        have : zs = [] := by simpa using hzl
        subst this
        cases base with
        | none => rfl
        | some a => simp only [Builtin.firstCells, List.length_nil, Nat.zero_mul]; rfl
      · obtain ⟨b, o, rfl, hc⟩ := hzcell he
        simp only [Builtin.firstCells]
        have := run_loadCells_list (P := cx.P) w.drew ⟨b, o, none⟩ zs (fun j x hx => by rw [addr_add]; exact (hc j x hx).1)
        rw [hzl] at this
        exact this
    obtain ⟨c, hc, hrun⟩ := run_append_grow (ty := ty) hu hti hzv hty hu' hd' hlen hgrow hle hby hfz (hfx w.drew drew_stays)
    generalize hncs : zs.toArray ++ xs.toArray ++ Builtin.zeroCells zv.cells (c - (l.length + ys.length)) = ncs at hrun
    let lo : Lo := ⟨some w.heap.size, (l.length + ys.length) * cx.P.cellsOf e, c * cx.P.cellsOf e⟩
    have hsize : ncs.size = c * cx.P.cellsOf e := by
      rw [← hncs]
      simp only [Array.size_append, List.size_toArray, zeroCells_length, hzl, hxl, hzc]
      have : c = l.length + ys.length + (c - (l.length + ys.length)) := by omega
      rw [this]
      simp only [Nat.add_mul, Nat.add_sub_cancel_left]
    have hnh : (w.drew.alloc (.cells ncs e)).heap[w.heap.size]? = some (.cells ncs e (0, 0)) := alloc_new (w := w.drew)
    have hold : ∀ b, b < w.heap.size → (w.drew.alloc (.cells ncs e)).heap[b]? = w.heap[b]? := fun b hb => alloc_old (w := w.drew) b hb
    have hup : Upd cx w σ μ (w.drew.alloc (.cells ncs e)) (applyDe σ [(id, Ob.tok (l.length + ys.length))]) (setMu μ id lo) [id] := {
      os := rfl, output := rfl, size := by simp,
      blk := fun b' hb' _ => hold b' hb',
      cell := fun b' k v _ hc => by
        have := hold b' (lt_of_cell hc)
        unfold World.cell? at hc ⊢
        simp only at hc ⊢
        rw [this]
        exact hc,
      fr := rfl, same := fun j hj => by
        have hj : j ≠ id := by simpa using hj
        exact ⟨hother j hj, by simp [setMu, hj]⟩,
      own := fun j hj q hq b' k hown hlt => by
        simp at hj; subst hj
        rw [hnew] at hq; cases hq
        have h1 : w.heap.size = b' := by simpa [setMu, lo] using hown.1
        omega,
      still := fun j hj q hq => by
        simp at hj; subst hj
        rw [ho] at hq; cases hq
        rw [hnew]
        exact ⟨by omega, fun h => by omega⟩,
      apart := fun j hj j' hj' _ _ _ _ _ _ _ _ _ => by simp at hj hj'; rw [hj, hj'] }
    have hs := hup.goes.stays' hi
    refine ⟨_, _, lo, hrun, hup, fun j hj o' ho' => ?_, ?_⟩
    · simp at hj; subst hj
      rw [hnew] at ho'; cases ho'
      intro b' hb'
      have hbb : w.heap.size = b' := by simpa [setMu, lo] using hb'
      subst hbb
      exact ⟨ncs, e, (0, 0), hnh, by simp [setMu, lo, hsize], .inl rfl⟩
    · refine .sl _ _ _ id (l.length + ys.length) ?_ hnew (by simp) fun _ => .inr ⟨w.heap.size, 0, rfl, by simp [setMu, lo], by simp [setMu, lo], by simp [setMu, lo], hc⟩
      refine RD.ofRow hnh (by simp) hc hall (fun k c' hk => ?_) fun k hk hown => ?_
      · rw [flatD_append] at hk
        rw [Nat.zero_add]
        by_cases hkl : k < (flatD l).length
        · rw [List.getElem?_append_left hkl] at hk
          obtain ⟨v, hv⟩ := getSome (l := zs) (i := k) (by rw [hzsr.1]; exact hkl)
          refine ⟨v, ?_, (hzsr.2 k v c' hv hk).stays hs, hz1 v (List.mem_of_getElem? hv)⟩
          have hkz := (List.getElem?_eq_some_iff.1 hv).1
          rw [← hncs, Array.getElem?_append_left (by simp; omega), Array.getElem?_append_left (by simpa using hkz)]
          simpa using hv
        · rw [List.getElem?_append_right (by omega)] at hk
          obtain ⟨v, hv⟩ := getSome (l := xs) (i := k - (flatD l).length) (by rw [hxr.1]; exact (List.getElem?_eq_some_iff.1 hk).1)
          refine ⟨v, ?_, (hxr.2 _ v c' hv hk).stays hs, hx1 v (List.mem_of_getElem? hv)⟩
          have hkx := (List.getElem?_eq_some_iff.1 hv).1
          have hzf := hzsr.1
          rw [← hncs, Array.getElem?_append_left (by simp; omega), Array.getElem?_append_right (by simp; omega)]
          simp only [List.size_toArray, hzf]
          simpa using hv
      · rcases hown with hfr | ⟨j, q, hj, hq⟩
        · exact absurd (hi.frLt _ _ hfr) (by omega)
        by_cases hjid : j = id
        · subst hjid
          rw [hnew] at hj; cases hj
          have h2 : (l.length + ys.length) * cx.P.cellsOf e ≤ 0 + k := by simpa [setMu, lo] using hq.2
          omega
        · rw [hother j hjid] at hj
          have := owns_lt hi hj ((owns_congr (by simp [setMu, hjid]) q _ _).1 hq)
          omega

end
end Go.Vai
end

section
namespace Go.Vai

section
variable {R : Type} {P : Program} {cx : Cx} {w w' : World} {σ : St} {μ μ' : Mu}

/-- A slice that may be appended to, without memory of its own. -/
theorem bareUpd {id : Nat} {ob : Ob} (hf : getA σ id = none) : Upd cx w σ μ w (applyDe σ [(id, ob)]) (setMu μ id ⟨none, 0, 0⟩) [id] :=
  newUpd (δ := [(id, ob)]) rfl rfl (Nat.le_refl _) (fun _ _ => rfl) (by simp [freshAll, hf]) rfl (fun j hj => by simp at hj; simp [setMu, hj])
    (fun j hj b hb => by simp at hj; subst hj; simp [setMu] at hb) (fun j hj j' hj' b _ _ => by simp at hj hj'; rw [hj, hj'])

theorem bare_ok {id sz cap : Nat} {base : Option Addr} (hf : getA σ id = none) (hc : cap = 0) :
    (∀ j ∈ [id], ∀ o', getA (applyDe σ [(id, .tok 0)]) j = some o' → ObOk w (applyDe σ [(id, .tok 0)]) (setMu μ id ⟨none, 0, 0⟩) j o') ∧
      RV w (applyDe σ [(id, .tok 0)]) (setMu μ id ⟨none, 0, 0⟩) (.slice base 0 cap) (.sl sz [] id) := by
  refine ⟨fun j hj o' ho' => ?_, ?_⟩
  · simp at hj; subst hj
    simp only [applyDe, getA_putA, if_pos] at ho'
    cases ho'
    intro b hb
    simp [setMu] at hb
  · exact .sl _ _ _ id 0 (.sl0 _ _ _) (by simp [applyDe, getA_putA]) (Nat.le_refl _) fun _ => .inl ⟨hc, rfl, by simp [setMu]⟩

/-- What is appended to nil. -/
theorem append_nil_ok {t t' e ty id : Nat} {sz' : Nat} {ys : List D} {x' : Value} {x : V} {z : List D} (hi : Inv cx w σ μ) (hx : RV w σ μ x' x)
    (hd : dataOf x (fun a b => some (a, b)) = some (sz', ys))
    (hu : cx.P.underlying t = some (.slice e)) (hz : zeroOf cx.P e = some z) (ht' : (match cx.P.underlying t' with | some (.int _) => false | some _ => true | none => false) = true)
    (hsz' : sz' = cx.P.cellsOf e ∨ ys = []) (hby : cx.P.bytesOf e ≤ 4096) (hf : getA σ id = none) (hle : ys.length ≤ 4294967296) :
    ∃ v' w' lo, (Builtin.append_ #[t, t'] ty #[.slice none 0 0, x']).run cx.P w = .ok v' w' ∧ Upd cx w σ μ w' (applyDe σ [(id, .tok ys.length)]) (setMu μ id lo) [id] ∧
      (∀ j ∈ [id], ∀ o', getA (applyDe σ [(id, .tok ys.length)]) j = some o' → ObOk w' (applyDe σ [(id, .tok ys.length)]) (setMu μ id lo) j o') ∧
      RV w' (applyDe σ [(id, .tok ys.length)]) (setMu μ id lo) v' (.sl (cx.P.cellsOf e) ys id) := by
  obtain ⟨sz0, ys0, h0, hlen, hcells⟩ := dataOf_row (P := cx.P) hx hd
  cases h0
  obtain ⟨hysz, xs, hfx, hxr, hx1⟩ := hcells _ hsz'
  obtain ⟨i, zv, hti, hzv, hty, ha, hzr, hzone, hzlen, hzfit⟩ := zeroOf_some (w := w) hz
  obtain ⟨d', hu', hd'⟩ := not_int ht'
  have hzc : zv.cells.size = cx.P.cellsOf e := by have := (hzr (OwnOf σ μ)).1; simp at this; omega
  have hxl : xs.length = ys.length * cx.P.cellsOf e := by rw [hxr.1, flatD_length ys hysz]
  by_cases hys : ys = []
  · subst hys
    have hxs : xs = [] := by simpa using hxl
    subst hxs
    obtain ⟨g1, g2⟩ := bare_ok (w := w) (μ := μ) (sz := cx.P.cellsOf e) (base := none) (cap := 0) hf rfl
    refine ⟨.slice none (0 + 0) 0, w, ⟨none, 0, 0⟩, ?_, bareUpd hf, g1, g2⟩
    exact run_append_in hu hty hu' hd' hlen (hfx w (Stays.refl _ _)) (by simp) rfl
  · have hpos : 0 < ys.length := List.length_pos_iff.2 hys
    obtain ⟨c, hc, hrun⟩ := run_append_grow (ty := ty) (ln := 0) (cap := 0) (base := none) (ys := []) hu hti hzv hty hu' hd' hlen (by omega) (by omega) hby rfl (hfx w.drew drew_stays)
    simp only [Nat.zero_add] at hc hrun
    generalize hncs : (List.toArray [] : Array Value) ++ xs.toArray ++ Builtin.zeroCells zv.cells (c - ys.length) = ncs at hrun
    let lo : Lo := ⟨some w.heap.size, ys.length * cx.P.cellsOf e, c * cx.P.cellsOf e⟩
    have hsize : ncs.size = c * cx.P.cellsOf e := by
      rw [← hncs]
      simp only [Array.size_append, List.size_toArray, zeroCells_length, hxl, hzc, List.length_nil, Nat.zero_add]
      have : c = ys.length + (c - ys.length) := by omega
      rw [this]
      simp only [Nat.add_mul, Nat.add_sub_cancel_left]
    have hnh : (w.drew.alloc (.cells ncs e)).heap[w.heap.size]? = some (.cells ncs e (0, 0)) := alloc_new (w := w.drew)
    have hup : Upd cx w σ μ (w.drew.alloc (.cells ncs e)) (applyDe σ [(id, .tok ys.length)]) (setMu μ id lo) [id] :=
      newUpd (δ := [(id, .tok ys.length)]) rfl rfl (by simp) (fun b hb => alloc_old (w := w.drew) b hb) (by simp [freshAll, hf]) rfl (fun j hj => by simp at hj; simp [setMu, hj])
        (fun j hj b hb => by simp at hj; subst hj; simp [setMu, lo] at hb; omega) (fun j hj j' hj' b _ _ => by simp at hj hj'; rw [hj, hj'])
    have hs := hup.goes.stays' hi
    have hnew : getA (applyDe σ [(id, Ob.tok ys.length)]) id = some (.tok ys.length) := by simp [applyDe, getA_putA]
    refine ⟨_, _, lo, hrun, hup, fun j hj o' ho' => ?_, ?_⟩
    · simp at hj; subst hj
      rw [hnew] at ho'; cases ho'
      intro b' hb'
      have hbb : w.heap.size = b' := by simpa [setMu, lo] using hb'
      subst hbb
      exact ⟨ncs, e, (0, 0), hnh, by simp [setMu, lo, hsize], .inl rfl⟩
    · refine .sl _ _ _ id ys.length ?_ hnew (Nat.le_refl _) fun _ => .inr ⟨w.heap.size, 0, rfl, by simp [setMu, lo], by simp [setMu, lo], by simp [setMu, lo], hc⟩
      refine RD.ofRow hnh rfl hc hysz (fun k c' hk => ?_) fun k hk hown => ?_
      · obtain ⟨v, hv⟩ := getSome (l := xs) (i := k) (by rw [hxr.1]; exact (List.getElem?_eq_some_iff.1 hk).1)
        refine ⟨v, ?_, (hxr.2 _ v c' hv hk).stays hs, hx1 v (List.mem_of_getElem? hv)⟩
        have hkx := (List.getElem?_eq_some_iff.1 hv).1
        rw [Nat.zero_add, ← hncs, Array.getElem?_append_left (by simpa using hkx)]
        simpa using hv
      · rcases hown with hfr | ⟨j, q, hj, hq⟩
        · exact absurd (hi.frLt _ _ hfr) (by omega)
        by_cases hjid : j = id
        · subst hjid
          rw [hnew] at hj; cases hj
          have h2 : ys.length * cx.P.cellsOf e ≤ 0 + k := by simpa [setMu, lo] using hq.2
          omega
        · have hj' : getA σ j = some q := by simpa [applyDe, getA_putA, Ne.symm hjid] using hj
          have := owns_lt hi hj' ((owns_congr (by simp [setMu, hjid]) q _ _).1 hq)
          omega

theorem run_sliceAt_str {t : Nat} {s : List UInt8} {lo hi : Option Value} {l h : Nat} (hu : P.underlying t = some .string) (hr : (Instr.sliceBounds false s.length s.length lo hi none).run P w = .ok (l, h, s.length) w) :
    (Instr.sliceAt t (.string (strB s)) lo hi none).run P w = .ok (.string ((strB s).extract l h)) w := by
  unfold Instr.sliceAt Instr.slice
  simp [run_underlying hu, strB_size, hr]

theorem run_sliceAt_sl {t e : Nat} {base : Option Addr} {n cap : Nat} {lo hi mx : Option Value} {l h m : Nat} (hu : P.underlying t = some (.slice e)) (hty : hasTy P e = true)
    (hr : (Instr.sliceBounds true n cap lo hi mx).run P w = .ok (l, h, m) w) :
    (Instr.sliceAt t (.slice base n cap) lo hi mx).run P w = .ok (.slice (if m = l then base else base.map (·.add (l * P.cellsOf e))) (h - l) (m - l)) w := by
  unfold Instr.sliceAt Instr.slice
  simp [run_underlying hu, hr, run_sizeTy hty]

/-- A piece of a slice or a text. -/
theorem sliceV_ok {site t : Nat} {x : V} {x' : Value} {lo hi mx : Option V} {lo' hi' mx' : Option Value} {K : V → De → List Nat → Option R} {r : R} (hx : RV w σ μ x' x)
    (hlo : optRV w σ μ lo lo') (hhi : optRV w σ μ hi hi') (hmx : optRV w σ μ mx mx') (h : sliceV cx σ site t x lo hi mx K = some r) :
    ∃ v δ fp, K v δ fp = some r ∧ ∃ v' μ' ids, (Instr.sliceAt t x' lo' hi' mx').run cx.P w = .ok v' w ∧ Upd cx w σ μ w (applyDe σ δ) μ' ids ∧
      (∀ j ∈ ids, ∀ o', getA (applyDe σ δ) j = some o' → ObOk w (applyDe σ δ) μ' j o') ∧ RV w (applyDe σ δ) μ' v' v := by
  have plain : ∀ {v : V} {v' : Value}, K v [] [] = some r → (Instr.sliceAt t x' lo' hi' mx').run cx.P w = .ok v' w → RV w σ μ v' v →
      ∃ v δ fp, K v δ fp = some r ∧ ∃ v' μ' ids, (Instr.sliceAt t x' lo' hi' mx').run cx.P w = .ok v' w ∧ Upd cx w σ μ w (applyDe σ δ) μ' ids ∧
      (∀ j ∈ ids, ∀ o', getA (applyDe σ δ) j = some o' → ObOk w (applyDe σ δ) μ' j o') ∧ RV w (applyDe σ δ) μ' v' v := by
    intro v v' hK hr hv
    refine ⟨v, [], [], hK, v', μ, [], hr, ?_, by simp, hv⟩
    exact { os := rfl, output := rfl, size := Nat.le_refl _, blk := fun _ _ _ => rfl, cell := fun _ _ _ _ h => h, fr := rfl, same := fun _ _ => ⟨rfl, rfl⟩, own := by simp, still := by simp, apart := by simp }
  unfold sliceV at h
  split at h
  · rename_i hu
    split at h
    · rename_i s
      cases mx' with
      | some a => exact hmx.elim
      | none =>
        obtain rfl := hx.str_inv
        obtain ⟨a, b, h1, h2, hK, hr⟩ := bounds_run (P := cx.P) (b := false) hlo hhi (Nat.le_refl _) h
        refine plain hK (run_sliceAt_str hu hr) ?_
        rw [strB_extract]
        exact .str' _
    · cases h
  · rename_i e hu
    have hty := (must_some h).1
    replace h := (must_some h).2
    obtain ⟨sz, xs, hrd, h1⟩ := dataS_some hx h
    have hsz := (must_some h1).1
    replace h1 := (must_some h1).2
    have hsz : sz = cx.P.cellsOf e ∨ xs = [] := by
      rw [Bool.or_eq_true] at hsz
      rcases hsz with g | g
      · exact .inl (Nat.eq_of_beq_eq_true g)
      · exact .inr (by simpa using g)
    have hrd := hrd.sl_sz hsz
    have hcap : ∃ base cap, x' = .slice base xs.length cap ∧ xs.length ≤ cap := by
      obtain ⟨base, n, cap, rfl, hn, hc, _⟩ := hrd.piece (Nat.le_refl xs.length) (Nat.le_refl _)
      subst hn
      exact ⟨base, cap, rfl, hc⟩
    obtain ⟨base, cap, rfl, hcap⟩ := hcap
    split at h1
    · cases mx' with
      | some a => exact hmx.elim
      | none =>
        obtain ⟨a, b, g1, g2, hK, hr⟩ := bounds_run (P := cx.P) (b := true) hlo hhi hcap h1
        refine plain hK (run_sliceAt_sl hu hty hr) ?_
        obtain ⟨base', n, cap', heq, hn, hc, hp⟩ := hrd.piece g1 g2
        cases heq
        exact .d _ _ (hp cap hc)
    · rename_i m
      have hhs := (must_some h1).1
      replace h1 := (must_some h1).2
      cases mx' with
      | none => exact hmx.elim
      | some mv =>
        rcases opt_bound (v' := some mv) hmx h1 with ⟨hn, _, _⟩ | ⟨k, i, hmv, m0, m1, h2⟩
        · cases hn
        cases hmv
        cases hi with
        | none => cases hhs
        | some hiv =>
          cases hi' with
          | none => exact hhi.elim
          | some hv =>
            rcases opt_bound (v' := some hv) hhi h2 with ⟨hn, _, _⟩ | ⟨k2, i2, hhv, q0, q1, h3⟩
            · cases hn
            cases hhv
            have hb : ∃ a, a ≤ i2.toNat ∧ (bif Nat.beq i.toNat a then must (freshAll σ [(site, .tok 0)]) (K (.sl (cx.P.cellsOf e) [] site) [(site, .tok 0)] [site])
                else K (.d (.sl (cx.P.cellsOf e) ((xs.take i2.toNat).drop a))) [] []) = some r ∧ (Instr.sliceBounds true xs.length cap lo' (some (.int k2 i2)) (some (.int k i))).run cx.P w = .ok (a, i2.toNat, i.toNat) w := by
              have c1 : (Instr.sliceBound (.int k i) cap .slice3Acap).run cx.P w = .ok i.toNat w := run_sliceBound m0 (by omega)
              have c2 : (Instr.sliceBound (.int k2 i2) i.toNat .slice3B).run cx.P w = .ok i2.toNat w := run_sliceBound q0 q1
              rcases opt_bound hlo h3 with ⟨rfl, _, h4⟩ | ⟨k3, i3, rfl, r0, r1, h4⟩
              · exact ⟨0, Nat.zero_le _, h4, by simp [Instr.sliceBounds, c1, c2]⟩
              · exact ⟨i3.toNat, by omega, h4, by simp [Instr.sliceBounds, c1, c2, run_sliceBound r0 r1]⟩
            obtain ⟨a, ha, h4, hr⟩ := hb
            have hle : i2.toNat ≤ xs.length := by omega
            obtain ⟨base', n, cap', heq, hn, hc, hp⟩ := hrd.piece ha hle
            cases heq
            cases hw : Nat.beq i.toNat a
            · rw [hw, cond_false] at h4
              exact plain h4 (run_sliceAt_sl hu hty hr) (.d _ _ (hp i.toNat (by omega)))
            · rw [hw, cond_true] at h4
              have hia := Nat.eq_of_beq_eq_true hw
              obtain ⟨hf, hK⟩ := must_some h4
              have h0 : i2.toNat - a = 0 := by omega
              obtain ⟨g1, g2⟩ := bare_ok (w := w) (μ := μ) (sz := cx.P.cellsOf e) (base := if i.toNat = a then base else base.map (·.add (a * cx.P.cellsOf e))) (cap := i.toNat - a) (fresh_none hf) (by omega)
              have hr' := run_sliceAt_sl (base := base) hu hty hr
              rw [h0] at hr'
              exact ⟨_, _, _, hK, _, _, [site], hr', bareUpd (fresh_none hf), g1, g2⟩
  · cases h


/-- A slice of bytes, read as one that a text may share. -/
theorem freeze_ok {t e id n : Nat} {sz : Nat} {l : List D} {x' : Value} (hi : Inv cx w σ μ) (hx : RV w σ μ x' (.sl sz l id)) (hl : l ≠ []) (ho : getA σ id = some (.tok n)) (hn : l.length = n)
    (hu : cx.P.underlying t = some (.slice e)) (he : cx.P.underlying e = some (.int .u8)) :
    ∃ w', (convert t t x').run cx.P w = .ok x' w' ∧ Upd cx w σ μ w' (applyDe σ [(id, .tok n)]) μ [id] ∧
      (∀ j ∈ [id], ∀ o', getA (applyDe σ [(id, .tok n)]) j = some o' → ObOk w' (applyDe σ [(id, .tok n)]) μ j o') ∧ RV w' (applyDe σ [(id, .tok n)]) μ x' (.sl sz l id) := by
  have hx0 := hx
  cases hx with | sl _ _ _ _ n' hrd ht hn' htail => ?_
  rw [ho] at ht; cases ht
  have htail := htail hn
  obtain ⟨base, cap, rfl⟩ := hrd.slice_inv
  have hne : l.length ≠ 0 := fun h => hl (List.eq_nil_of_length_eq_zero h)
  rcases htail with ⟨_, h0, _⟩ | ⟨b, o, hbase, hb, hf, hend, hnc⟩
  · exact absurd h0 hne
  obtain rfl := hbase
  obtain ⟨cs, el, fr, hh, hcs, hfr⟩ := hi.ob id _ ho b hb
  have hlt := lt_of_heap hh
  let w' := w.freeze ⟨b, cs.size, none⟩ 1
  have hhb : ∃ fr', w'.heap[b]? = some (.cells cs el fr') ∧ cs.size ≤ fr'.1 := by
    simp only [w', World.freeze]
    rw [if_neg (by omega)]
    simp only [Array.getElem?_modify, if_true, hh, Option.map_some]
    obtain ⟨lo, hi'⟩ := fr
    refine ⟨_, rfl, ?_⟩
    split
    · exact Nat.le_refl _
    · rename_i hne'
      rcases hfr with h | h
      · cases h; simp at hne'
      · simp only at h ⊢; omega
  have hho : ∀ b', b' ≠ b → w'.heap[b']? = w.heap[b']? := fun b' hb' => by
    simp only [w', World.freeze]
    rw [if_neg (by omega)]
    simp [Array.getElem?_modify, Ne.symm hb']
  have hsz : w'.heap.size = w.heap.size := by
    simp only [w', World.freeze]
    rw [if_neg (by omega)]
    simp
  have hcell : ∀ b' k, w'.cell? ⟨b', k, none⟩ = w.cell? ⟨b', k, none⟩ := fun b' k => by
    by_cases hbb : b' = b
    · subst hbb
      obtain ⟨fr', h1, _⟩ := hhb
      rw [cell_of_heap h1, cell_of_heap hh]
    · unfold World.cell?
      simp only
      rw [hho b' hbb]
  have hnew : getA (applyDe σ [(id, Ob.tok n)]) id = some (.tok n) := by simp [applyDe, getA_putA]
  have hup : Upd cx w σ μ w' (applyDe σ [(id, .tok n)]) μ [id] := {
    os := by simp only [w', World.freeze]; split <;> rfl
    output := by simp only [w', World.freeze]; split <;> rfl
    size := by omega
    blk := fun b' _ h => hho b' fun e => h id (by simp) _ ho (μ id).f (by rw [e]; exact ⟨hb, Nat.le_refl _⟩)
    cell := fun b' k v _ h => (hcell b' k).trans h
    fr := rfl
    same := fun j hj => by
      have : id ≠ j := fun e => hj (by simp [e])
      exact ⟨by simp [applyDe, getA_putA, this], rfl⟩
    own := fun j hj q hq b' k hown _ => by
      simp at hj; subst hj
      rw [hnew] at hq; cases hq
      exact ⟨_, ho, hown⟩
    still := fun j hj q hq => by
      simp at hj; subst hj
      rw [ho] at hq; cases hq
      rw [hnew]
      exact ⟨Nat.le_refl _, fun _ => rfl⟩
    apart := fun j hj j' hj' _ _ _ _ _ _ _ _ _ => by simp at hj hj'; rw [hj, hj'] }
  refine ⟨w', ?_, hup, fun j hj o' ho' => ?_, ?_⟩
  · unfold convert
    simp only [Sem.run_bind, run_underlying hu, Result.andThen_ok, run_underlying he, beq_self_eq_true]
    unfold markStringish
    simp [World.shape?, hh, w']
  · simp at hj; subst hj
    rw [hnew] at ho'; cases ho'
    intro b' hb'
    rw [hb] at hb'; cases hb'
    obtain ⟨fr', h1, h2⟩ := hhb
    exact ⟨cs, el, fr', h1, hcs, .inr h2⟩
  · exact hx0.stays (hup.goes.stays' hi) fun j hj o ho => hup.stillAll j o ho

end
end Go.Vai
end

section
namespace Go.Vai

theorem posIn_atIn : ∀ {ren : List Nat} {i : Nat}, i ∈ ren → atIn ren (posIn ren i) = i ∧ posIn ren i < ren.length
  | j :: r, i, h => by
    by_cases e : j = i
    · subst e; simp [posIn, atIn]
    · have : i ∈ r := by cases h with | head => exact absurd rfl e | tail _ h => exact h
      obtain ⟨h1, h2⟩ := posIn_atIn this
      simp only [posIn, beqF e, cond_false, atIn, List.length_cons]
      exact ⟨h1, by omega⟩

theorem nodupB_spec : ∀ {l : List Nat}, nodupB l = true → l.Nodup
  | [], _ => by simp
  | i :: r, h => by
    simp only [nodupB, Bool.and_eq_true] at h
    have h1 : ¬ i ∈ r := by simpa using h.1
    exact List.nodup_cons.2 ⟨h1, nodupB_spec h.2⟩

theorem atIn_mem : ∀ {ren : List Nat} {k : Nat}, k < ren.length → ren[k]? = some (atIn ren k)
  | j :: r, 0, _ => rfl
  | j :: r, k + 1, h => by simpa [atIn] using atIn_mem (ren := r) (k := k) (by simpa using h)

theorem posIn_of_get : ∀ {ren : List Nat} {k i : Nat}, ren.Nodup → ren[k]? = some i → posIn ren i = k
  | j :: r, 0, i, hn, h => by simp at h; subst h; simp [posIn]
  | j :: r, k + 1, i, hn, h => by
    have hn' := List.nodup_cons.1 hn
    have hr : r[k]? = some i := by simpa using h
    have hne : ¬ j = i := fun e => hn'.1 (e ▸ List.mem_of_getElem? hr)
    simp [posIn, beqF hne, posIn_of_get hn'.2 hr]

mutual
theorem V.ren_ids (f : Nat → Nat) : ∀ (v : V), (v.ren f).ids = v.ids.map f
  | .d x => rfl
  | .eptr x o => rfl
  | .gptr g o => rfl
  | .ptr id o => rfl
  | .sl s l id => rfl
  | .slo id o n => rfl
  | .map id => rfl
  | .agg l => by simp only [V.ren, V.ids]; exact V.renL_ids f l
  | .func g l => by simp only [V.ren, V.ids]; exact V.renL_ids f l
  | .tup l => by simp only [V.ren, V.ids]; exact V.renL_ids f l
  | .iface t v => by simp only [V.ren, V.ids]; exact V.ren_ids f v
theorem V.renL_ids (f : Nat → Nat) : ∀ (l : List V), V.idsL (V.renL f l) = (V.idsL l).map f
  | [] => rfl
  | v :: r => by simp only [V.renL, V.idsL, List.map_append, V.ren_ids f v, V.renL_ids f r]
end

theorem V.renL_map (f : Nat → Nat) : ∀ (l : List V), V.renL f l = l.map (V.ren f)
  | [] => rfl
  | v :: r => by simp [V.renL, V.renL_map f r]

theorem V.ren_cells (f : Nat → Nat) (v : V) : (v.ren f).cells = v.cells.map (V.ren f) := by
  cases v with
  | d x => cases x <;> simp [V.ren, V.cells]
  | agg l => simp [V.ren, V.cells, V.renL_map]
  | _ => simp [V.ren, V.cells]

theorem V.cells_ids {v c : V} (h : c ∈ v.cells) {i : Nat} (hi : i ∈ c.ids) : i ∈ v.ids := by
  cases v with
  | d x => cases x <;> simp [V.cells] at h <;> first | (subst h; exact hi) | (obtain ⟨y, _, rfl⟩ := h; exact hi)
  | agg l => exact V.idsL_mem h hi
  | _ => simp [V.cells] at h; subst h; exact hi

theorem V.ren_tup (f : Nat → Nat) (v : V) : (v.ren f).tupV = v.tupV := by cases v <;> rfl

section
variable {cx : Cx} {w w' : World} {σ τ : St} {μ ν : Mu}

/-- Of the same kind, and as long. -/
def compatOb : Option Ob → Option Ob → Prop
  | some (.val ..), some (.val ..) => True
  | some (.row l), some (.row l') => l'.length = l.length
  | some (.tok n), some (.tok n') => n' = n
  | some (.map ..), some (.map ..) => True
  | none, _ => True
  | _, _ => False

theorem compatOb.ren (f : Nat → Nat) (o : Option Ob) : compatOb o (o.map (Ob.ren f)) := by
  cases o with
  | none => trivial
  | some o => cases o <;> simp [compatOb, Ob.ren]

/-- The same under other names. -/
theorem RV.rename (f : Nat → Nat) (hs : Stays w (OwnOf σ μ) w (OwnOf τ ν)) {v : Value} {x : V} (h : RV w σ μ v x) (hg : ∀ id ∈ x.ids, compatOb (getA σ id) (getA τ (f id)) ∧ ν (f id) = μ id) :
    RV w τ ν v (x.ren f) := by
  induction h with
  | d v x h => exact .d v x (h.stays hs)
  | ptr id off b hc hb =>
    obtain ⟨h1, h2⟩ := hg id (by simp [V.ids])
    refine .ptr _ off b ?_ (by rw [h2]; exact hb)
    cases ho : getA σ id with
    | none => rw [ho] at hc; exact hc.elim
    | some o =>
      rw [ho] at hc h1
      cases o <;> first
        | exact hc.elim
        | (cases ho' : getA τ (f id) with
           | none => rw [ho'] at h1; exact h1.elim
           | some o' => rw [ho'] at h1; cases o' <;> first | exact h1.elim | trivial)
  | eptr x b o off xs hc h => exact .eptr x b o off xs (fun j hj => ⟨(hs.cell _ _ _ (hc j hj).2.1 (hc j hj).1).1, (hs.cell _ _ _ (hc j hj).2.1 (hc j hj).1).2, (hc j hj).2.2⟩) (fun j c hj => (h j c hj).stays hs)
  | gptr g off => exact .gptr g off
  | agg cs l hl ho _ ih =>
    simp only [V.ren, V.renL_map]
    refine .agg cs _ (by simpa using hl) ho fun i x y hx hy => ?_
    rw [List.getElem?_map, Option.map_eq_some_iff] at hy
    obtain ⟨z, hz, rfl⟩ := hy
    exact ih i x z hx hz fun id hid => hg id (V.idsL_mem (List.mem_of_getElem? hz) hid)
  | sl v sz l id n h ht hn he =>
    obtain ⟨h1, h2⟩ := hg id (by simp [V.ids])
    rw [ht] at h1
    have h1' : getA τ (f id) = some (.tok n) := by
      cases ho' : getA τ (f id) with
      | none => rw [ho'] at h1; exact h1.elim
      | some o' => rw [ho'] at h1; cases o' <;> first | exact h1.elim | (have h1 : _ = n := h1; rw [h1])
    refine .sl v sz l _ n (h.stays hs) h1' hn fun e => ?_
    have := he e
    unfold tail at this ⊢
    rw [h2]
    exact this
  | slo id off n cap b l hi hb hn hcap =>
    obtain ⟨h1, h2⟩ := hg id (by simp [V.ids])
    rw [hi] at h1
    cases ho' : getA τ (f id) with
    | none => rw [ho'] at h1; exact h1.elim
    | some o' =>
      rw [ho'] at h1
      cases o' <;> first | exact h1.elim | skip
      rename_i l'
      have h1 : l'.length = l.length := h1
      exact .slo _ off n cap b l' ho' (by rw [h2]; exact hb) (by omega) hcap
  | func g cs l hl _ ih =>
    simp only [V.ren, V.renL_map]
    refine .func g cs _ (by simpa using hl) fun i x y hx hy => ?_
    rw [List.getElem?_map, Option.map_eq_some_iff] at hy
    obtain ⟨z, hz, rfl⟩ := hy
    exact ih i x z hx hz fun id hid => hg id (V.idsL_mem (List.mem_of_getElem? hz) hid)
  | map id b ks vs hi hb =>
    obtain ⟨h1, h2⟩ := hg id (by simp [V.ids])
    rw [hi] at h1
    cases ho' : getA τ (f id) with
    | none => rw [ho'] at h1; exact h1.elim
    | some o' =>
      rw [ho'] at h1
      cases o' <;> first | exact h1.elim | exact .map _ b _ _ ho' (by rw [h2]; exact hb)
  | iface t v u _ ih => exact .iface t v _ (ih hg)
  | tup cs l hl _ ih =>
    simp only [V.ren, V.renL_map]
    refine .tup cs _ (by simpa using hl) fun i x y hx hy => ?_
    rw [List.getElem?_map, Option.map_eq_some_iff] at hy
    obtain ⟨z, hz, rfl⟩ := hy
    exact ih i x z hx hz fun id hid => hg id (V.idsL_mem (List.mem_of_getElem? hz) hid)

theorem RVs.rename (f : Nat → Nat) (hs : Stays w (OwnOf σ μ) w (OwnOf τ ν)) {vs : List Value} {l : List V} (h : RVs w σ μ vs l)
    (hg : ∀ id ∈ V.idsL l, compatOb (getA σ id) (getA τ (f id)) ∧ ν (f id) = μ id) : RVs w τ ν vs (V.renL f l) := by
  rw [V.renL_map]
  refine ⟨by simpa using h.1, fun i x y hx hy => ?_⟩
  rw [List.getElem?_map, Option.map_eq_some_iff] at hy
  obtain ⟨z, hz, rfl⟩ := hy
  exact (h.2 i x z hx hz).rename f hs fun id hid => hg id (V.idsL_mem (List.mem_of_getElem? hz) hid)

theorem owns_ren (f : Nat → Nat) (id : Nat) (o : Ob) (b i : Nat) : owns μ id (o.ren f) b i ↔ owns μ id o b i := by cases o <;> exact Iff.rfl

/-- An object under other names. -/
theorem ObOk.rename (f : Nat → Nat) (hs : Stays w (OwnOf σ μ) w (OwnOf τ ν)) {id : Nat} {o : Ob} (h : ObOk w σ μ id o) (hid : ν (f id) = μ id)
    (hg : ∀ j ∈ o.ids, compatOb (getA σ j) (getA τ (f j)) ∧ ν (f j) = μ j) : ObOk w τ ν (f id) (o.ren f) := by
  cases o with
  | val n v =>
    obtain ⟨b, cs, el, hb, hh, hn, ht, h1, hr⟩ := h
    refine ⟨b, cs, el, by rw [hid]; exact hb, hh, hn, by rw [V.ren_tup]; exact ht, h1, ?_⟩
    rw [V.ren_cells]
    refine ⟨by simpa using hr.1, fun i x y hx hy => ?_⟩
    rw [List.getElem?_map, Option.map_eq_some_iff] at hy
    obtain ⟨z, hz, rfl⟩ := hy
    exact (hr.2 i x z hx hz).rename f hs fun j hj => hg j (V.cells_ids (List.mem_of_getElem? hz) hj)
  | row l =>
    obtain ⟨b, cs, el, hb, hh, h1, hr⟩ := h
    exact ⟨b, cs, el, by rw [hid]; exact hb, hh, h1, hr.stays hs⟩
  | tok n =>
    intro b hb
    rw [hid] at hb ⊢
    exact h b hb
  | map ks vs =>
    obtain ⟨b, es, clock, hb, hh, hk, hv⟩ := h
    exact ⟨b, es, clock, by rw [hid]; exact hb, hh, hk.stays hs, hv.stays hs⟩

theorem getA_renSt (σ : St) (full : List Nat) : ∀ (ren : List Nat) (k j : Nat), (∀ i ∈ ren, ∃ o, getA σ i = some o) →
    getA (renSt σ full k ren) j = if k ≤ j then (ren[j - k]?).bind fun i => (getA σ i).map (Ob.ren (posIn full)) else none
  | [], k, j, _ => by simp [renSt, getA]
  | i :: r, k, j, h => by
    obtain ⟨o, ho⟩ := h i List.mem_cons_self
    have ih := getA_renSt σ full r (k + 1) j fun i hi => h i (List.mem_cons_of_mem _ hi)
    simp only [renSt, ho, getA]
    by_cases e : k = j
    · subst e; simp [ho]
    · simp only [beqF e, cond_false, ih]
      by_cases hlt : k + 1 ≤ j
      · have h2 : k ≤ j := by omega
        have h3 : j - k = (j - (k + 1)) + 1 := by omega
        simp [hlt, h2, h3]
      · have h2 : ¬ k ≤ j := by omega
        simp [hlt, h2]

theorem renSt_length (σ : St) (full : List Nat) : ∀ (ren : List Nat) (k : Nat), (∀ i ∈ ren, ∃ o, getA σ i = some o) → (renSt σ full k ren).length = ren.length
  | [], k, _ => rfl
  | i :: r, k, h => by
    obtain ⟨o, ho⟩ := h i List.mem_cons_self
    simp [renSt, ho, renSt_length σ full r (k + 1) fun i hi => h i (List.mem_cons_of_mem _ hi)]

/-- The objects are 0, 1, .. -/
def Canon (σ : St) : Prop := ∀ k o, getA σ k = some o → k < σ.length ∧ ∀ i ∈ o.ids, i < σ.length

/-- What a function's runs are good for. -/
def CallOk (cx : Cx) (call : Nat → List V → St → Option (Out × St)) : Prop :=
  ∀ f args σ out σ', call f args σ = some (out, σ') → ∀ w μ vs, Inv cx w σ μ → Canon σ → (∀ i ∈ V.idsL args, i < σ.length) → (∀ k, k < σ.length → ∃ o, getA σ k = some o) → RVs w σ μ vs args →
    (∃ fn, cx.P.funcs[f]? = some fn ∧ fn.body.isNone = false) ∧ (∀ k o, getA σ' k = some o → k < σ.length ∧ ∀ i ∈ o.ids, i < σ.length) ∧ (∀ i ∈ (match out with | .ret v => v.ids | .pan v => v.ids), i < σ.length) ∧
    Calls cx.P f vs.toArray w fun e w' => ∃ μ', After cx w σ μ w' σ' μ' ∧
      match out, e with
      | .ret v, .returned x => RV w' σ' μ' x v
      | .pan v, .panicked chain => ∃ x, chain = [{ v := x, recovered := false }] ∧ RV w' σ' μ' x v
      | _, _ => False

end
end Go.Vai
end

section
namespace Go.Vai

section
variable {R : Type} {cx : Cx} {w w' : World} {σ τ : St} {μ ν : Mu}

/-- Two objects have no block in common. -/
theorem Inv.blockApart (hi : Inv cx w σ μ) {id id' : Nat} {o o' : Ob} {b i i' : Nat} (ho : getA σ id = some o) (ho' : getA σ id' = some o') (h : owns μ id o b i) (h' : owns μ id' o' b i') : id = id' := by
  have key : ∃ k, owns μ id o b k ∧ owns μ id' o' b k := by
    refine ⟨max (max i i') (max (μ id).f (μ id').f), ?_, ?_⟩
    · cases o <;> simp only [owns] at h ⊢ <;> first | exact h | exact ⟨h.1, by omega⟩
    · cases o' <;> simp only [owns] at h' ⊢ <;> first | exact h' | exact ⟨h'.1, by omega⟩
  obtain ⟨k, h1, h2⟩ := key
  exact hi.apart id id' o o' b k ho ho' h1 h2

/-- Of the same make, but for how an empty slice is told. -/
def likeOf (new u : V) : Prop := u = new ∨ ∃ s sz l, new = .d (.sl s l) ∧ u = .d (.sl sz l) ∧ (s = sz ∨ l = [])

theorem likeOf.rv {new u : V} (h : likeOf new u) {v : Value} (hv : RV w σ μ v new) : RV w σ μ v u := by
  rcases h with rfl | ⟨s, sz, l, rfl, rfl, he⟩
  · exact hv
  · cases hv with | d _ _ hd => exact .d _ _ (hd.sl_sz he)

theorem likeOf.ids {new u : V} (h : likeOf new u) : u.ids = new.ids := by
  rcases h with rfl | ⟨s, sz, l, rfl, rfl, he⟩ <;> rfl

theorem likeV_ok {old new : V} {K : V → Option R} {r : R} (h : likeV old new K = some r) : ∃ u, K u = some r ∧ likeOf new u := by
  unfold likeV at h
  split at h
  · obtain ⟨x, rfl, h⟩ := asD_some h; obtain ⟨n, rfl, h2⟩ := asInt_some h; exact ⟨_, h2, .inl rfl⟩
  · obtain ⟨x, rfl, h⟩ := asD_some h; obtain ⟨n, rfl, h2⟩ := asBool_some h; exact ⟨_, h2, .inl rfl⟩
  · obtain ⟨x, rfl, h⟩ := asD_some h; obtain ⟨n, rfl, h2⟩ := asStr_some h; exact ⟨_, h2, .inl rfl⟩
  · obtain ⟨x, rfl, h⟩ := asD_some h; obtain ⟨s, l, rfl, he, h2⟩ := asSl_some h; exact ⟨_, h2, .inr ⟨_, _, _, rfl, rfl, he⟩⟩
  · obtain ⟨x, rfl, h⟩ := asD_some h; exact ⟨_, h, .inl rfl⟩
  · rename_i sz l id
    split at h
    · rename_i sz' l' id'
      cases hc : (Nat.beq sz sz' && Nat.beq id id')
      · rw [hc] at h; cases h
      · rw [hc, cond_true] at h
        rw [Bool.and_eq_true] at hc
        obtain rfl := Nat.eq_of_beq_eq_true hc.1
        obtain rfl := Nat.eq_of_beq_eq_true hc.2
        exact ⟨_, h, .inl rfl⟩
    · cases h
  · exact ⟨_, h, .inl rfl⟩

theorem likeL_ok : ∀ {olds news : List V} {K : List V → Option R} {r : R}, likeL olds news K = some r → ∃ us, K us = some r ∧ us.length = news.length ∧ ∀ (i : Nat) x u, news[i]? = some x → us[i]? = some u → likeOf x u
  | [], news, K, r, h => by
    obtain ⟨rfl, h⟩ := unn_some h
    exact ⟨[], h, rfl, by simp⟩
  | o :: os, news, K, r, h => by
    obtain ⟨v, q, rfl, h1⟩ := unc_some h
    obtain ⟨u, h2, hu⟩ := likeV_ok h1
    obtain ⟨us, h3, hl, hus⟩ := likeL_ok h2
    refine ⟨u :: us, h3, by simp [hl], fun i x y hx hy => ?_⟩
    cases i with
    | zero => simp at hx hy; subst hx; subst hy; exact hu
    | succ i => exact hus i x y (by simpa using hx) (by simpa using hy)

/-- An object, of the same make. -/
structure LikeO (new o : Ob) : Prop where
  ok : ∀ (w : World) (σ : St) (μ : Mu) (id : Nat), ObOk w σ μ id new → ObOk w σ μ id o
  ids : o.ids = new.ids
  owns : ∀ (μ : Mu) (id b i : Nat), owns μ id o b i ↔ owns μ id new b i
  still : ∀ (μ μ' : Mu) (id : Nat) (p : Ob), stillOb μ id p μ' (some new) → stillOb μ id p μ' (some o)
  compat : compatOb (some new) (some o)

theorem LikeO.refl (o : Ob) : LikeO o o := ⟨fun _ _ _ _ h => h, rfl, fun _ _ _ _ => Iff.rfl, fun _ _ _ _ h => h, by cases o <;> simp [compatOb]⟩

theorem idsL_congr : ∀ {l l' : List V}, l.length = l'.length → (∀ (i : Nat) x y, l[i]? = some x → l'[i]? = some y → x.ids = y.ids) → V.idsL l = V.idsL l'
  | [], [], _, _ => rfl
  | x :: l, y :: l', h, hi => by
    simp only [V.idsL]
    rw [hi 0 x y rfl rfl, idsL_congr (by simpa using h) fun i a b ha hb => hi (i + 1) a b (by simpa using ha) (by simpa using hb)]

theorem likeOf.cells {new u : V} (h : likeOf new u) {vs : List Value} (hv : RVs w σ μ vs new.cells) : RVs w σ μ vs u.cells := by
  rcases h with rfl | ⟨s, sz, l, rfl, rfl, he⟩
  · exact hv
  · refine ⟨hv.1, fun i x y hx hy => ?_⟩
    cases i with
    | zero =>
      simp [V.cells] at hy; subst hy
      have := hv.2 0 x _ hx rfl
      cases this with | d _ _ hd => exact .d _ _ (hd.sl_sz he)
    | succ i => simp [V.cells] at hy

theorem likeOf.tup {new u : V} (h : likeOf new u) (ht : new.tupV = false) : u.tupV = false := by
  rcases h with rfl | ⟨s, sz, l, rfl, rfl, he⟩
  · exact ht
  · rfl

theorem likeO_val {n : Nat} {v u : V} (hr : ∀ (w : World) (σ : St) (μ : Mu) (vs : List Value), RVs w σ μ vs v.cells → RVs w σ μ vs u.cells) (ht : v.tupV = false → u.tupV = false) (hi : u.ids = v.ids) : LikeO (.val n v) (.val n u) where
  ok := fun w σ μ id h => by
    obtain ⟨b, cs, el, hb, hh, hn, htp, h1, hrr⟩ := h
    exact ⟨b, cs, el, hb, hh, hn, ht htp, h1, hr w σ μ _ hrr⟩
  ids := hi
  owns := fun _ _ _ _ => Iff.rfl
  still := fun μ μ' id p h => by cases p <;> exact h
  compat := trivial

theorem likeO_ok {old new : Ob} {K : Ob → Option R} {r : R} (h : likeO old new K = some r) : ∃ o, K o = some r ∧ LikeO new o := by
  unfold likeO at h
  split at h
  · rename_i n l n' v
    obtain ⟨hn, h1⟩ := must_some h
    clear h
    obtain rfl := Nat.eq_of_beq_eq_true hn
    split at h1
    · rename_i l'
      obtain ⟨us, hK, hl, hus⟩ := likeL_ok h1
      refine ⟨_, hK, likeO_val (fun w σ μ vs hv => ?_) (fun _ => rfl) ?_⟩
      · simp only [V.cells] at hv ⊢
        refine ⟨by rw [hl]; exact hv.1, fun i x y hx hy => ?_⟩
        obtain ⟨z, hz⟩ := getSome (l := l') (i := i) (by rw [← hl]; exact (List.getElem?_eq_some_iff.1 hy).1)
        exact (hus i z y hz hy).rv (hv.2 i x z hx hz)
      · simp only [V.ids]
        exact idsL_congr hl fun i x y hx hy => (hus i y x hy hx).ids
    · exact ⟨_, h1, LikeO.refl _⟩
  · rename_i n v n' v' hne
    obtain ⟨hn, h1⟩ := must_some h
    clear h
    obtain rfl := Nat.eq_of_beq_eq_true hn
    obtain ⟨u, hK, hu⟩ := likeV_ok h1
    exact ⟨_, hK, likeO_val (fun w σ μ vs hv => hu.cells hv) hu.tup hu.ids⟩
  · exact ⟨_, h, LikeO.refl _⟩

theorem backOb_ok {full : List Nat} {σ' : St} : ∀ (ren : List Nat) (k : Nat) {K : De → Option R} {r : R}, backOb full σ σ' k ren K = some r →
    ∃ δ, K δ = some r ∧ δ.map (·.1) = ren ∧ ∀ (j i : Nat), ren[j]? = some i → ∃ old new o, getA σ i = some old ∧ getA σ' (k + j) = some new ∧ δ[j]? = some (i, o) ∧ LikeO (new.ren (atIn full)) o
  | [], k, K, r, h => ⟨[], h, rfl, by simp⟩
  | i :: ren, k, K, r, h => by
    simp only [backOb] at h
    obtain ⟨old, ho, h⟩ := optK_some h
    obtain ⟨new, hn, h⟩ := optK_some h
    obtain ⟨o, h, hlike⟩ := likeO_ok h
    obtain ⟨δ, hK, hm, hδ⟩ := backOb_ok ren (k + 1) h
    refine ⟨(i, o) :: δ, hK, by simp [hm], fun j a hj => ?_⟩
    cases j with
    | zero => simp at hj; subst hj; exact ⟨old, new, o, ho, hn, rfl, hlike⟩
    | succ j =>
      obtain ⟨old', new', o', h1, h2, h3, h4⟩ := hδ j a (by simpa using hj)
      exact ⟨old', new', o', h1, by rw [show k + (j + 1) = k + 1 + j by omega]; exact h2, by simpa using h3, h4⟩

theorem castV_any {P : Program} {t : Nat} {v : V} {K : V → Option R} {r : R} (h : castV P t v K = some r) : ∃ u, K u = some r ∧ ∀ (w : World) (σ : St) (μ : Mu) (v' : Value), RV w σ μ v' v → RV w σ μ v' u := by
  cases v with
  | d x =>
    simp only [castV] at h
    unfold castD at h
    split at h
    · obtain ⟨n, rfl, h2⟩ := asInt_some h; exact ⟨_, h2, fun _ _ _ _ h => h⟩
    · obtain ⟨n, rfl, h2⟩ := asBool_some h; exact ⟨_, h2, fun _ _ _ _ h => h⟩
    · obtain ⟨n, rfl, h2⟩ := asStr_some h; exact ⟨_, h2, fun _ _ _ _ h => h⟩
    · obtain ⟨s, l, rfl, he, h2⟩ := asSl_some h; exact ⟨_, h2, fun _ _ _ _ h => by cases h with | d _ _ hd => exact .d _ _ (hd.sl_sz he)⟩
    · obtain ⟨l, _, _, h2⟩ := asAgg_some h; exact ⟨_, h2, fun _ _ _ _ h => h⟩
    · obtain ⟨l, _, _, h2⟩ := asAgg_some h; exact ⟨_, h2, fun _ _ _ _ h => h⟩
    · split at h
      · cases h
      · exact ⟨_, h, fun _ _ _ _ h => h⟩
    · cases h
  | _ => exact ⟨_, (must_some h).2, fun _ _ _ _ h => h⟩

theorem castTup_ok {P : Program} : ∀ {ts : List Nat} {vs : List V} {K : List V → Option R} {r : R}, castTup P ts vs K = some r → ∃ us, K us = some r ∧ us.length = vs.length ∧ ∀ (i : Nat) x u, vs[i]? = some x → us[i]? = some u → ∀ (w : World) (σ : St) (μ : Mu) v, RV w σ μ v x → RV w σ μ v u
  | [], vs, K, r, h => by
    obtain ⟨rfl, h⟩ := unn_some h
    exact ⟨[], h, rfl, by simp⟩
  | t :: ts, vs, K, r, h => by
    obtain ⟨v, q, rfl, h1⟩ := unc_some h
    obtain ⟨u, h2, hu⟩ := castV_any h1
    obtain ⟨us, hK, hl, hus⟩ := castTup_ok h2
    refine ⟨u :: us, hK, by simp [hl], fun i x y hx hy => ?_⟩
    cases i with
    | zero => simp at hx hy; subst hx; subst hy; exact hu
    | succ i => exact hus i x y (by simpa using hx) (by simpa using hy)

theorem castOut_ok {P : Program} {t : Nat} {v : V} {K : V → Option R} {r : R} (h : castOut P t v K = some r) : ∃ u, K u = some r ∧ ∀ (w : World) (σ : St) (μ : Mu) (v' : Value), RV w σ μ v' v → RV w σ μ v' u := by
  unfold castOut at h
  split at h
  · split at h
    · exact ⟨_, h, fun _ _ _ _ h => h⟩
    · obtain ⟨l, rfl, h1⟩ := asTup_some h
      obtain ⟨us, hK, hl, hus⟩ := castTup_ok h1
      refine ⟨_, hK, fun w σ μ v' hv => ?_⟩
      cases hv with | tup cs _ hcl hr => ?_
      refine .tup cs us (by rw [hl]; exact hcl) fun i x y hx hy => ?_
      obtain ⟨z, hz⟩ := getSome (l := l) (i := i) (by rw [← hl]; exact (List.getElem?_eq_some_iff.1 hy).1)
      exact hus i z y hz hy w σ μ x (hr i x z hx hz)
  · exact castV_any h

end
end Go.Vai
end

section
namespace Go.Vai

section
variable {R : Type} {cx : Cx} {w w' : World} {σ τ : St} {μ ν : Mu}

theorem Ob.ren_ids (f : Nat → Nat) (o : Ob) : (o.ren f).ids = o.ids.map f := by
  cases o <;> simp [Ob.ren, Ob.ids, V.ren_ids]

/-- What the objects that a call doesn't see own. -/
def restOwn (σ : St) (μ : Mu) (ren : List Nat) : Own := fun b i => μ.fr b i ∨ ∃ j o, j ∉ ren ∧ getA σ j = some o ∧ owns μ j o b i

/-- Where the callee's objects lie. -/
def innerMu (σ : St) (μ : Mu) (ren : List Nat) : Mu := ⟨fun k => μ (atIn ren k), restOwn σ μ ren⟩

theorem inner_get {ren : List Nat} (hex : ∀ i ∈ ren, ∃ o, getA σ i = some o) {i : Nat} (hi : i ∈ ren) :
    getA (renSt σ ren 0 ren) (posIn ren i) = (getA σ i).map (Ob.ren (posIn ren)) := by
  rw [getA_renSt σ ren ren 0 _ hex]
  obtain ⟨h1, h2⟩ := posIn_atIn hi
  simp only [Nat.zero_le, if_true, Nat.sub_zero]
  rw [atIn_mem h2, h1]
  rfl

theorem inner_some {ren : List Nat} (hex : ∀ i ∈ ren, ∃ o, getA σ i = some o) {k : Nat} {o : Ob} (h : getA (renSt σ ren 0 ren) k = some o) :
    ∃ i q, ren[k]? = some i ∧ getA σ i = some q ∧ o = q.ren (posIn ren) ∧ k < ren.length := by
  rw [getA_renSt σ ren ren 0 k hex] at h
  simp only [Nat.zero_le, if_true, Nat.sub_zero] at h
  cases hk : ren[k]? with
  | none => rw [hk] at h; cases h
  | some i =>
    rw [hk] at h
    simp only [Option.bind_some, Option.map_eq_some_iff] at h
    obtain ⟨q, hq, rfl⟩ := h
    exact ⟨i, q, rfl, hq, rfl, (List.getElem?_eq_some_iff.1 hk).1⟩

theorem atIn_of_get {ren : List Nat} {k i : Nat} (h : ren[k]? = some i) : atIn ren k = i := by
  have := atIn_mem (List.getElem?_eq_some_iff.1 h).1
  rw [h] at this
  exact (Option.some.inj this).symm

/-- 'owns' asks only where the object lies. -/
theorem owns_at {μ ν : Mu} {id k : Nat} (h : ν k = μ id) (o : Ob) (b i : Nat) : owns ν k o b i ↔ owns μ id o b i := by
  cases o <;> simp [owns, h]

theorem inner_own {ren : List Nat} (hex : ∀ i ∈ ren, ∃ o, getA σ i = some o) : OwnOf (renSt σ ren 0 ren) (innerMu σ μ ren) = OwnOf σ μ := by
  funext b i
  apply propext
  constructor
  · rintro ((hf | ⟨j, o, hj, ho, hown⟩) | ⟨k, o, ho, hown⟩)
    · exact .inl hf
    · exact .inr ⟨j, o, ho, hown⟩
    · obtain ⟨a, q, hk, hq, rfl, _⟩ := inner_some hex ho
      exact .inr ⟨a, q, hq, (owns_at (show innerMu σ μ ren k = μ a from congrArg μ.lo (atIn_of_get hk)) q b i).1 ((owns_ren _ _ _ _ _).1 hown)⟩
  · rintro (hf | ⟨j, o, ho, hown⟩)
    · exact .inl (.inl hf)
    · by_cases hj : j ∈ ren
      · have hg := inner_get hex hj
        rw [ho] at hg
        exact .inr ⟨posIn ren j, _, hg, (owns_ren _ _ _ _ _).2 ((owns_at (show innerMu σ μ ren (posIn ren j) = μ j from congrArg μ.lo (posIn_atIn hj).1) o b i).2 hown)⟩
      · exact .inl (.inr ⟨j, o, hj, ho, hown⟩)

theorem closedIn_spec {args : List V} {ren : List Nat} (h : closedIn σ args ren = true) : ren.Nodup ∧ (∀ i ∈ V.idsL args, i ∈ ren) ∧ ∀ i ∈ ren, ∃ o, getA σ i = some o ∧ ∀ j ∈ o.ids, j ∈ ren := by
  unfold closedIn at h
  simp only [Bool.and_eq_true, List.all_eq_true] at h
  obtain ⟨⟨h1, h2⟩, h3⟩ := h
  refine ⟨nodupB_spec h1, fun i hi => by simpa using h2 i hi, fun i hi => ?_⟩
  have := h3 i hi
  split at this
  · rename_i o ho
    exact ⟨o, ho, fun j hj => by simpa using List.all_eq_true.1 this j hj⟩
  · cases this

/-- The callee's view of the world. -/
theorem inner_inv {ren : List Nat} (hi : Inv cx w σ μ) (hnd : ren.Nodup) (hcl : ∀ i ∈ ren, ∃ o, getA σ i = some o ∧ ∀ j ∈ o.ids, j ∈ ren) : Inv cx w (renSt σ ren 0 ren) (innerMu σ μ ren) := by
  have hex : ∀ i ∈ ren, ∃ o, getA σ i = some o := fun i h => let ⟨o, ho, _⟩ := hcl i h; ⟨o, ho⟩
  have hown := inner_own (μ := μ) hex
  have hst : Stays w (OwnOf σ μ) w (OwnOf (renSt σ ren 0 ren) (innerMu σ μ ren)) := by rw [hown]; exact Stays.refl _ _
  refine ⟨fun k o ho => ?_, fun k k' o o' b i ho ho' h1 h2 => ?_, by rw [hown]; exact hi.glob, fun k o b i ho h j hf => ?_, fun b i hf => ?_, fun r es clock i hm hf => ?_⟩
  · obtain ⟨a, q, hk, hq, rfl, hlt⟩ := inner_some hex ho
    have ha : a ∈ ren := List.mem_of_getElem? hk
    have hpos := posIn_of_get hnd hk
    obtain ⟨q', hq', hids⟩ := hcl a ha
    rw [hq] at hq'; cases hq'
    have := (hi.ob a q hq).rename (τ := renSt σ ren 0 ren) (ν := innerMu σ μ ren) (posIn ren) hst (congrArg μ.lo (posIn_atIn ha).1) fun j hj =>
      ⟨by rw [inner_get hex (hids j hj)]; exact compatOb.ren _ _, congrArg μ.lo (posIn_atIn (hids j hj)).1⟩
    rw [hpos] at this
    exact this
  · obtain ⟨a, q, hk, hq, rfl, _⟩ := inner_some hex ho
    obtain ⟨a', q', hk', hq', rfl, _⟩ := inner_some hex ho'
    have e1 := (owns_at (show innerMu σ μ ren k = μ a from congrArg μ.lo (atIn_of_get hk)) q b i).1 ((owns_ren _ _ _ _ _).1 h1)
    have e2 := (owns_at (show innerMu σ μ ren k' = μ a' from congrArg μ.lo (atIn_of_get hk')) q' b i).1 ((owns_ren _ _ _ _ _).1 h2)
    have := hi.apart a a' q q' b i hq hq' e1 e2
    subst this
    rw [← posIn_of_get hnd hk, ← posIn_of_get hnd hk']
  · obtain ⟨a, q, hk, hq, rfl, _⟩ := inner_some hex ho
    have e1 := (owns_at (show innerMu σ μ ren k = μ a from congrArg μ.lo (atIn_of_get hk)) q b i).1 ((owns_ren _ _ _ _ _).1 h)
    rcases hf with hf | ⟨j', o', hj', ho', hown'⟩
    · exact hi.frame a q b i hq e1 j hf
    · have := hi.blockApart hq ho' e1 hown'
      exact hj' (this ▸ List.mem_of_getElem? hk)
  · rcases hf with hf | ⟨j', o', hj', ho', hown'⟩
    · exact hi.frLt b i hf
    · exact owns_lt hi ho' hown'
  · rcases hf with hf | ⟨j', o', hj', ho', hown'⟩
    · exact .inl (hi.frMap r es clock i hm hf)
    · refine .inr ⟨j', o', hj', ho', ?_⟩
      have hok := hi.ob j' o' ho'
      cases o' with
      | tok n =>
        obtain ⟨cs, el, fr, hh, _⟩ := hok r hown'.1
        rw [hm] at hh; cases hh
      | _ => exact hown'

/-- Where the caller's objects lie behind the call. -/
def outerMu (μ μ1 : Mu) (ren : List Nat) : Mu := ⟨fun j => if j ∈ ren then μ1 (posIn ren j) else μ j, μ.fr⟩

/-- A call. -/
theorem callV_ok {call : Nat → List V → St → Option (Out × St)} (hcall : CallOk cx call) (hi : Inv cx w σ μ) {t f : Nat} {args : List V} {vs : List Value} (hv : RVs w σ μ vs args) {K : Oc → De → List Nat → Option R} {r : R}
    (h : callV cx call σ t f args K = some r) :
    ∃ oc δ fp, K oc δ fp = some r ∧ (∃ fn, cx.P.funcs[f]? = some fn ∧ fn.body.isNone = false) ∧ Calls cx.P f vs.toArray w fun e w' => ∃ μ', After cx w σ μ w' (applyDe σ δ) μ' ∧
      match oc, e with
      | .val v, .returned x => RV w' (applyDe σ δ) μ' x v
      | .pan v, .panicked chain => ∃ x, chain = [{ v := x, recovered := false }] ∧ RV w' (applyDe σ δ) μ' x v
      | _, _ => False := by
  unfold callV at h
  simp only at h
  generalize hren : reach σ 1000 (V.idsL args) [] = ren at h
  obtain ⟨hc, h⟩ := must_some h
  obtain ⟨_, h⟩ := must_some h
  obtain ⟨hnd, hargs, hcl⟩ := closedIn_spec hc
  have hex : ∀ i ∈ ren, ∃ o, getA σ i = some o := fun i h => let ⟨o, ho, _⟩ := hcl i h; ⟨o, ho⟩
  have hown := inner_own (μ := μ) hex
  have hst : Stays w (OwnOf σ μ) w (OwnOf (renSt σ ren 0 ren) (innerMu σ μ ren)) := by rw [hown]; exact Stays.refl _ _
  have hlen : (renSt σ ren 0 ren).length = ren.length := renSt_length σ ren ren 0 hex
  have hinv := inner_inv hi hnd hcl
  have hcanon : Canon (renSt σ ren 0 ren) := fun k o ho => by
    obtain ⟨a, q, hk, hq, rfl, hlt⟩ := inner_some hex ho
    refine ⟨by omega, fun i hin => ?_⟩
    rw [Ob.ren_ids, List.mem_map] at hin
    obtain ⟨j, hj, rfl⟩ := hin
    obtain ⟨q', hq', hids⟩ := hcl a (List.mem_of_getElem? hk)
    rw [hq] at hq'; cases hq'
    rw [hlen]
    exact (posIn_atIn (hids j hj)).2
  have hvs : RVs w (renSt σ ren 0 ren) (innerMu σ μ ren) vs (V.renL (posIn ren) args) :=
    hv.rename (posIn ren) hst fun id hid => ⟨by rw [inner_get hex (hargs id hid)]; exact compatOb.ren _ _, congrArg μ.lo (posIn_atIn (hargs id hid)).1⟩
  have hargs' : ∀ i ∈ V.idsL (V.renL (posIn ren) args), i < (renSt σ ren 0 ren).length := fun i hin => by
    rw [V.renL_ids, List.mem_map] at hin
    obtain ⟨j, hj, rfl⟩ := hin
    rw [hlen]
    exact (posIn_atIn (hargs j hj)).2
  have hfull : ∀ k, k < (renSt σ ren 0 ren).length → ∃ o, getA (renSt σ ren 0 ren) k = some o := fun k hk => by
    rw [hlen] at hk
    obtain ⟨i, hik⟩ := getSome hk
    obtain ⟨o, ho⟩ := hex i (List.mem_of_getElem? hik)
    have := inner_get hex (List.mem_of_getElem? hik)
    rw [posIn_of_get hnd hik, ho] at this
    exact ⟨_, this⟩
  -- what the callee leaves, seen by the caller
  have fin : ∀ (out : Out) (σ' : St) (δ : De), call f (V.renL (posIn ren) args) (renSt σ ren 0 ren) = some (out, σ') → δ.map (·.1) = ren →
      (∀ (j i : Nat), ren[j]? = some i → ∃ old new o, getA σ i = some old ∧ getA σ' (0 + j) = some new ∧ δ[j]? = some (i, o) ∧ LikeO (new.ren (atIn ren)) o) →
      (∀ k o, getA σ' k = some o → k < ren.length ∧ ∀ i ∈ o.ids, i < ren.length) →
      ∀ (w' : World) (μ1 : Mu), After cx w (renSt σ ren 0 ren) (innerMu σ μ ren) w' σ' μ1 →
        After cx w σ μ w' (applyDe σ δ) (outerMu μ μ1 ren) ∧
        ∀ (x : Value) (v : V), (∀ i ∈ v.ids, i < ren.length) → RV w' σ' μ1 x v → RV w' (applyDe σ δ) (outerMu μ μ1 ren) x (v.ren (atIn ren)) := by
    intro out σ' δ hout hδm hδ hσ' w' μ1 haf
    have hget : ∀ {j i : Nat}, ren[j]? = some i → ∃ new o, getA σ' j = some new ∧ getA (applyDe σ δ) i = some o ∧ LikeO (new.ren (atIn ren)) o := by
      intro j i hj
      obtain ⟨old, new, o, h1, h2, h3, h4⟩ := hδ j i hj
      rw [Nat.zero_add] at h2
      exact ⟨new, o, h2, getA_applyDe_mem (by rw [hδm]; exact hnd) (List.mem_of_getElem? h3), h4⟩
    have hrest : ∀ {j : Nat}, j ∉ ren → getA (applyDe σ δ) j = getA σ j := fun hj => getA_applyDe_not (by rw [hδm]; exact hj)
    have hmu : ∀ {j i : Nat}, ren[j]? = some i → outerMu μ μ1 ren i = μ1 j := fun {j i} hj => by
      have hm : i ∈ ren := List.mem_of_getElem? hj
      simp only [outerMu, if_pos hm, posIn_of_get hnd hj]
    have hmu' : ∀ {j : Nat}, j ∉ ren → outerMu μ μ1 ren j = μ j := fun {j} hj => by simp only [outerMu, if_neg hj]
    have hfr1 : μ1.fr = restOwn σ μ ren := haf.fr
    have hown2 : OwnOf (applyDe σ δ) (outerMu μ μ1 ren) = OwnOf σ' μ1 := by
      funext b i
      apply propext
      constructor
      · rintro (hf | ⟨j, o, ho, hown⟩)
        · exact .inl (by rw [hfr1]; exact .inl hf)
        · by_cases hj : j ∈ ren
          · obtain ⟨h1, h2⟩ := posIn_atIn hj
            have hk : ren[posIn ren j]? = some j := by rw [atIn_mem h2, h1]
            obtain ⟨new, o', h3, h4, h5⟩ := hget hk
            rw [ho] at h4; cases h4
            exact .inr ⟨posIn ren j, new, h3, (owns_at (hmu hk) new b i).1 ((owns_ren _ _ _ _ _).1 ((h5.owns _ _ _ _).1 hown))⟩
          · rw [hrest hj] at ho
            exact .inl (by rw [hfr1]; exact .inr ⟨j, o, hj, ho, (owns_at (hmu' hj) o b i).1 hown⟩)
      · rintro (hf | ⟨k, o, ho, hown⟩)
        · rw [hfr1] at hf
          rcases hf with hf | ⟨j, o, hj, ho, hown⟩
          · exact .inl hf
          · exact .inr ⟨j, o, by rw [hrest hj]; exact ho, (owns_at (hmu' hj) o b i).2 hown⟩
        · obtain ⟨i', hk⟩ := getSome (hσ' k o ho).1
          obtain ⟨new, o', h3, h4, h5⟩ := hget hk
          rw [ho] at h3; cases h3
          exact .inr ⟨i', o', h4, (h5.owns _ _ _ _).2 ((owns_ren _ _ _ _ _).2 ((owns_at (hmu hk) o b i).2 hown))⟩
    have hst2 : Stays w' (OwnOf σ' μ1) w' (OwnOf (applyDe σ δ) (outerMu μ μ1 ren)) := by rw [hown2]; exact Stays.refl _ _
    have hmine : ∀ b i, Mine (renSt σ ren 0 ren) (innerMu σ μ ren) b i → ∃ j o, j ∈ ren ∧ getA σ j = some o ∧ owns μ j o b i := by
      rintro b i ⟨k, o, ho, h1⟩
      obtain ⟨a, q, hk, hq, rfl, _⟩ := inner_some hex ho
      exact ⟨a, q, List.mem_of_getElem? hk, hq, (owns_at (show innerMu σ μ ren k = μ a from congrArg μ.lo (atIn_of_get hk)) q b i).1 ((owns_ren _ _ _ _ _).1 h1)⟩
    have hmine' : ∀ b i, Mine (renSt σ ren 0 ren) (innerMu σ μ ren) b i → Mine σ μ b i := fun b i h => let ⟨j, o, _, ho, h1⟩ := hmine b i h; ⟨j, o, ho, h1⟩
    -- the callee's objects, outside
    have hback : ∀ {j : Nat}, j ∈ ren → ∀ {o}, getA (applyDe σ δ) j = some o → ∃ new, getA σ' (posIn ren j) = some new ∧ LikeO (new.ren (atIn ren)) o ∧ outerMu μ μ1 ren j = μ1 (posIn ren j) := by
      intro j hj o ho
      obtain ⟨h1, h2⟩ := posIn_atIn hj
      have hk : ren[posIn ren j]? = some j := by rw [atIn_mem h2, h1]
      obtain ⟨new, o', h3, h4, h5⟩ := hget hk
      rw [ho] at h4; cases h4
      exact ⟨new, h3, h5, hmu hk⟩
    have hownIn : ∀ {j : Nat}, j ∈ ren → ∀ {o b i}, getA (applyDe σ δ) j = some o → owns (outerMu μ μ1 ren) j o b i → ∃ new, getA σ' (posIn ren j) = some new ∧ owns μ1 (posIn ren j) new b i := by
      intro j hj o b i ho h1
      obtain ⟨new, h3, h5, h6⟩ := hback hj ho
      exact ⟨new, h3, (owns_at h6 new b i).1 ((owns_ren _ _ _ _ _).1 ((h5.owns _ _ _ _).1 h1))⟩
    have hgoes : Goes w σ μ w' (applyDe σ δ) (outerMu μ μ1 ren) := by
      have hg := haf.goes
      refine ⟨⟨hg.kept.os, hg.kept.output, hg.kept.size, fun b hb hn => hg.kept.blk b hb fun i hm => hn i (hmine' b i hm), fun b i x hn hc => hg.kept.cell b i x (fun hm => hn (hmine' b i hm)) hc⟩, ?_, rfl⟩
      rintro b i hb ⟨j, o, ho, h1⟩
      by_cases hj : j ∈ ren
      · obtain ⟨new, h3, h4⟩ := hownIn hj ho h1
        exact hmine' b i (hg.own b i hb ⟨_, new, h3, h4⟩)
      · exact ⟨j, o, by rw [← hrest hj]; exact ho, (owns_at (hmu' hj) o b i).1 h1⟩
    have hs := hgoes.stays' hi
    -- names of the callee's, outside
    have hname : ∀ k, k < ren.length → ∀ new, getA σ' k = some new → ∃ o, getA (applyDe σ δ) (atIn ren k) = some o ∧ LikeO (new.ren (atIn ren)) o ∧ outerMu μ μ1 ren (atIn ren k) = μ1 k := by
      intro k hk new hnew
      have hk' := atIn_mem hk
      obtain ⟨new', o, h3, h4, h5⟩ := hget hk'
      rw [hnew] at h3; cases h3
      exact ⟨o, h4, h5, hmu hk'⟩
    have hcompat : ∀ k, k < ren.length → compatOb (getA σ' k) (getA (applyDe σ δ) (atIn ren k)) ∧ outerMu μ μ1 ren (atIn ren k) = μ1 k := by
      intro k hk
      refine ⟨?_, hmu (atIn_mem hk)⟩
      cases hn : getA σ' k with
      | none => trivial
      | some new =>
        obtain ⟨o, h1, h2, _⟩ := hname k hk new hn
        rw [h1]
        have := h2.compat
        cases new <;> cases o <;> first | exact this.elim | exact this
    have hrv : ∀ (x : Value) (v : V), (∀ i ∈ v.ids, i < ren.length) → RV w' σ' μ1 x v → RV w' (applyDe σ δ) (outerMu μ μ1 ren) x (v.ren (atIn ren)) :=
      fun x v hv hrv => hrv.rename (atIn ren) hst2 fun id hid => hcompat id (hv id hid)
    have hstill : ∀ id o, getA σ id = some o → stillOb μ id o (outerMu μ μ1 ren) (getA (applyDe σ δ) id) := by
      intro id o ho
      by_cases hj : id ∈ ren
      · obtain ⟨h1, h2⟩ := posIn_atIn hj
        have hk : ren[posIn ren id]? = some id := by rw [atIn_mem h2, h1]
        obtain ⟨new, o', h3, h4, h5⟩ := hget hk
        rw [h4]
        refine h5.still _ _ _ _ ?_
        have hg := inner_get hex hj
        rw [ho] at hg
        have := haf.still _ _ hg
        rw [h3] at this
        have e1 : innerMu σ μ ren (posIn ren id) = μ id := congrArg μ.lo h1
        have e2 : outerMu μ μ1 ren id = μ1 (posIn ren id) := hmu hk
        cases o <;> cases new <;> simp only [Option.map_some, Ob.ren, stillOb] at this ⊢ <;> first
          | exact this.elim
          | (rw [e2, ← e1]; exact this)
      · rw [hrest hj, ho]
        have e := hmu' hj
        cases o <;> simp [stillOb, e]
    refine ⟨⟨⟨fun id o ho => ?_, fun id id' o o' b i ho ho' h1 h2 => ?_, by rw [hown2]; exact haf.inv.glob, fun id o b i ho h j hf => ?_, fun b i hf => ?_, fun q es clock i hm hf => ?_⟩, hgoes, hstill, rfl⟩, hrv⟩
    · -- the objects
      by_cases hj : id ∈ ren
      · obtain ⟨h1, h2⟩ := posIn_atIn hj
        have hk : ren[posIn ren id]? = some id := by rw [atIn_mem h2, h1]
        obtain ⟨new, o', h3, h4, h5⟩ := hget hk
        rw [ho] at h4; cases h4
        refine h5.ok _ _ _ _ ?_
        have := (haf.inv.ob _ _ h3).rename (τ := applyDe σ δ) (ν := outerMu μ μ1 ren) (atIn ren) hst2 (by rw [h1]; exact hmu hk) fun j hj => hcompat j ((hσ' _ _ h3).2 j hj)
        rw [h1] at this
        exact this
      · rw [hrest hj] at ho
        have hok := hi.ob id o ho
        have e2 := hmu' hj
        have hfree : ∀ b, (μ id).blk = some b → w'.heap[b]? = w.heap[b]? := by
          intro b hb
          have hoi : owns μ id o b (μ id).f := by cases o <;> simp [owns, hb]
          refine haf.goes.kept.blk b (owns_lt hi ho hoi) fun i hm => hj ?_
          obtain ⟨a, q, ha, hq, h1⟩ := hmine b i hm
          exact hi.blockApart ho hq hoi h1 ▸ ha
        have rv : ∀ v x, RV w σ μ v x → RV w' (applyDe σ δ) (outerMu μ μ1 ren) v x := fun v x hv => hv.stays hs fun id _ o ho => hstill id o ho
        cases o with
        | val n v =>
          obtain ⟨b, cs, el, hb, hh, hn, ht, h1, hr⟩ := hok
          exact ⟨b, cs, el, e2 ▸ hb, (hfree b hb).trans hh, hn, ht, h1, hr.map fun v x _ => rv v x⟩
        | row l =>
          obtain ⟨b, cs, el, hb, hh, h1, hr⟩ := hok
          exact ⟨b, cs, el, e2 ▸ hb, (hfree b hb).trans hh, h1, hr.stays hs⟩
        | tok n =>
          intro b hb
          rw [e2] at hb ⊢
          obtain ⟨cs, el, fr, hh, hz⟩ := hok b hb
          exact ⟨cs, el, fr, (hfree b hb).trans hh, hz⟩
        | map ks vs =>
          obtain ⟨b, es, clock, hb, hh, hk, hv⟩ := hok
          exact ⟨b, es, clock, e2 ▸ hb, (hfree b hb).trans hh, hk.stays hs, hv.stays hs⟩
    · by_cases hj : id ∈ ren
      · obtain ⟨new, h3, h4⟩ := hownIn hj ho h1
        by_cases hj' : id' ∈ ren
        · obtain ⟨new', h3', h4'⟩ := hownIn hj' ho' h2
          have := haf.inv.apart _ _ _ _ b i h3 h3' h4 h4'
          rw [← (posIn_atIn hj).1, ← (posIn_atIn hj').1, this]
        · rw [hrest hj'] at ho'
          exact (haf.inv.frame _ _ b i h3 h4 i (by rw [hfr1]; exact .inr ⟨id', o', hj', ho', (owns_at (hmu' hj') o' b i).1 h2⟩)).elim
      · rw [hrest hj] at ho
        have h1' := (owns_at (hmu' hj) o b i).1 h1
        by_cases hj' : id' ∈ ren
        · obtain ⟨new', h3', h4'⟩ := hownIn hj' ho' h2
          exact (haf.inv.frame _ _ b i h3' h4' i (by rw [hfr1]; exact .inr ⟨id, o, hj, ho, h1'⟩)).elim
        · rw [hrest hj'] at ho'
          exact hi.apart _ _ _ _ b i ho ho' h1' ((owns_at (hmu' hj') o' b i).1 h2)
    · by_cases hj : id ∈ ren
      · obtain ⟨new, h3, h4⟩ := hownIn hj ho h
        exact haf.inv.frame _ _ b i h3 h4 j (by rw [hfr1]; exact .inl hf)
      · rw [hrest hj] at ho
        exact hi.frame id o b i ho ((owns_at (hmu' hj) o b i).1 h) j hf
    · exact Nat.lt_of_lt_of_le (hi.frLt b i hf) haf.goes.kept.size
    · have hlt := hi.frLt q i hf
      rw [haf.goes.kept.blk q hlt fun k hm => by
        obtain ⟨a, p, ha, hp, h1⟩ := hmine q k hm
        exact hi.frame a p q k hp h1 i hf] at hm
      exact hi.frMap q es clock i hm hf
  cases hcl2 : call f (V.renL (posIn ren) args) (renSt σ ren 0 ren) with
  | none => rw [hcl2] at h; cases h
  | some p =>
    obtain ⟨out, σ'⟩ := p
    rw [hcl2] at h
    obtain ⟨hfn, hσ', hout, hrun⟩ := hcall f _ _ out σ' hcl2 w (innerMu σ μ ren) vs hinv hcanon hargs' hfull hvs
    rw [hlen] at hσ' hout
    cases out with
    | ret v =>
      obtain ⟨δ, h1, h2, h3⟩ := backOb_ok ren 0 h
      obtain ⟨u, h4, h5⟩ := castOut_ok h1
      refine ⟨.val u, δ, ren, h4, hfn, hrun.mono ?_⟩
      intro e w' ⟨μ1, haf, hv⟩
      obtain ⟨g1, g2⟩ := fin _ σ' δ hcl2 h2 h3 hσ' w' μ1 haf
      refine ⟨outerMu μ μ1 ren, g1, ?_⟩
      cases e with
      | returned x => exact h5 _ _ _ _ (g2 x v hout hv)
      | _ => exact hv.elim
    | pan v =>
      obtain ⟨δ, h1, h2, h3⟩ := backOb_ok ren 0 h
      refine ⟨.pan (v.ren (atIn ren)), δ, ren, h1, hfn, hrun.mono ?_⟩
      intro e w' ⟨μ1, haf, hv⟩
      obtain ⟨g1, g2⟩ := fin _ σ' δ hcl2 h2 h3 hσ' w' μ1 haf
      refine ⟨outerMu μ μ1 ren, g1, ?_⟩
      cases e with
      | panicked chain => obtain ⟨x, hx, hr⟩ := hv; exact ⟨x, hx, g2 x v hout hr⟩
      | _ => exact hv.elim

end
end Go.Vai
end

section
namespace Go.Vai

section
variable {R : Type} {cx : Cx} {w : World} {σ : St} {μ : Mu}

theorem run_v {s : Sem Value} {P : Program} {w w' : World} {v : Value} (h : s.run P w = .ok v w') : (do pure (Next.value (← s)) : Sem Next).run P w = .ok (.value v) w' := by
  rw [Sem.run_bind, h]; rfl

theorem run_u {s : Sem Unit} {P : Program} {w w' : World} (h : s.run P w = .ok () w') : (do s; pure Next.skip : Sem Next).run P w = .ok .skip w' := by
  rw [Sem.run_bind, h]; rfl

theorem dataOf_run {x : V} {K : Nat → List D → Option R} {r : R} (h : dataOf x K = some r) : ∃ sz l, dataOf x (fun a b => some (a, b)) = some (sz, l) ∧ K sz l = some r := by
  unfold dataOf at h ⊢
  split at h <;> first
    | exact ⟨_, _, rfl, h⟩
    | cases h

theorem freshAll_one {id : Nat} {o : Ob} (h : freshAll σ [(id, o)] = true) : getA σ id = none := by
  unfold freshAll at h
  cases hg : getA σ id with
  | none => rfl
  | some q => rw [hg] at h; simp at h

/-- The names of functions that are no functions. -/
def noRoutines (P : Program) : Prop := ∀ (f : Nat) (fn : Func), P.funcs[f]? = some fn → fn.name ≠ "runtime.NumGoroutine"

theorem run_callFunc (hn : noRoutines cx.P) {f : Nat} {fn : Func} {args : Array Value} (hf : cx.P.funcs[f]? = some fn) (hb : fn.body.isNone = false) :
    (callFunc f args).run cx.P w = .ok (.enter f args) w := by
  have h1 : (fn.name == "runtime.NumGoroutine") = false := by simpa using hn f fn hf
  unfold callFunc
  rw [Sem.run_bind, run_program, Result.andThen_ok]
  simp only [hf, h1, hb, Bool.false_eq_true, if_false]
  rfl

theorem handed_ok {v : V} {v' : Value} (h : RV w σ μ v' v) : RV w σ μ v' v.handed := by
  cases h with
  | sl v sz l id n h ht hn he => exact .d _ _ h
  | d v x h => exact .d _ _ h
  | ptr id off b hi hb => exact .ptr id off b hi hb
  | eptr x b o off xs hc h => exact .eptr x b o off xs hc h
  | gptr g off => exact .gptr g off
  | agg cs l hl ho h => exact .agg cs l hl ho h
  | slo id off n cap b l hi hb hn hcap => exact .slo id off n cap b l hi hb hn hcap
  | func f cs l hl h => exact .func f cs l hl h
  | map id b ks vs hi hb => exact .map id b ks vs hi hb
  | iface t v u h => exact .iface t v u h
  | tup cs l hl h => exact .tup cs l hl h

theorem handArgs_ok {keep : Bool} {vs : List Value} {l : List V} (h : RVs w σ μ vs l) : RVs w σ μ vs (handArgs keep l) := by
  unfold handArgs
  cases keep
  · refine ⟨by simp [h.1], fun i x y hx hy => ?_⟩
    simp only [cond_false, List.getElem?_map, Option.map_eq_some_iff] at hy
    obtain ⟨z, hz, rfl⟩ := hy
    exact handed_ok (h.2 i x z hx hz)
  · exact h

theorem RVs.append' {vs ws : List Value} {l k : List V} (h : RVs w σ μ vs l) (h' : RVs w σ μ ws k) : RVs w σ μ (vs ++ ws) (l ++ k) := by
  refine ⟨by simp [h.1, h'.1], fun i x y hx hy => ?_⟩
  by_cases hi : i < vs.length
  · rw [List.getElem?_append_left hi] at hx
    rw [List.getElem?_append_left (by rw [← h.1]; exact hi)] at hy
    exact h.2 i x y hx hy
  · rw [List.getElem?_append_right (by omega)] at hx
    rw [List.getElem?_append_right (by rw [← h.1]; omega)] at hy
    rw [← h.1] at hy
    exact h'.2 _ x y hx hy

theorem optE_opd {a : Act} {fr : Fr} (hf : FR w σ μ a.tmps fr) {x : Option Operand} {K : Option V → Option R} {r : R}
    (h : opdO fr x K = some r) : ∃ v, K v = some r ∧ optRV w σ μ v (x.map a.eval) := by
  cases x with
  | none => exact ⟨none, h, trivial⟩
  | some x => obtain ⟨v, hv, h⟩ := optK_some h; exact ⟨some v, h, opd_ok hf hv⟩

theorem evOp_ok {m nt : Nat} {call : Nat → List V → St → Option (Out × St)} (hcall : CallOk cx call) (hn : noRoutines cx.P) (hi : Inv cx w σ μ) {a : Act} {fr : Fr} (hf : FR w σ μ a.tmps fr) {o : Oper}
    {K : Oc → De → List Nat → Option R} {r : R} (h : evOp cx m nt call o fr σ K = some r) : ∃ oc δ fp, K oc δ fp = some r ∧ OpOk cx w σ μ a o oc δ := by
  obtain ⟨dst, op, type, pos, after, guard⟩ := o
  have hval : ∀ {v : V} {v' : Value} {fp}, K (.val v) [] fp = some r → True → RV w σ μ v' v → ((execOp a.eval ⟨dst, op, type, pos, after, guard⟩).run cx.P w = .ok (.value v') w) →
      ∃ oc δ fp, K oc δ fp = some r ∧ OpOk cx w σ μ a ⟨dst, op, type, pos, after, guard⟩ oc δ := fun hK _ hv hr => ⟨_, _, _, hK, OpOk.value hi _ hr hv⟩
  have hmove : ∀ {x : Operand}, (execOp a.eval ⟨dst, op, type, pos, after, guard⟩ = pure (.value (a.eval x))) →
      (match x with
     | .const (.slice none 0 0) =>
       (match cx.P.underlying type with
        | some (.slice e) => (match getA σ (m + dst.getD 0) with
          | none => K (.val (.sl (cx.P.cellsOf e) [] (m + dst.getD 0))) [(m + dst.getD 0, .tok 0)] [m + dst.getD 0]
          | some _ => K (.val (.d (.sl (cx.P.cellsOf e) []))) [] [m + dst.getD 0])
        | _ => none)
     | x => optK (opd fr x) fun v => K (.val v) [] []) = some r → ∃ oc δ fp, K oc δ fp = some r ∧ OpOk cx w σ μ a ⟨dst, op, type, pos, after, guard⟩ oc δ := by
    intro x he h
    split at h
    · split at h
      · split at h
        · rename_i hg
          obtain ⟨h1, h2⟩ := bare_ok (w := w) (μ := μ) (sz := cx.P.cellsOf _) (base := none) hg rfl
          exact ⟨_, _, _, h, OpOk.of_upd hi _ (by rw [he]; rfl) (bareUpd hg) h1 h2⟩
        · exact hval h trivial (.d _ _ (.sl0 none 0 _)) (by rw [he]; rfl)
      · cases h
    · obtain ⟨v, hv, h⟩ := optK_some h
      exact hval h trivial (opd_ok hf hv) (by rw [he]; rfl)
  cases op
  case makeFunc fn first caps =>
    cases fn <;> simp only [evOp] at h <;> first | (cases h; done) | skip
    obtain ⟨hc, h'⟩ := must_some h
    clear h
    obtain ⟨l, hl, h⟩ := optK_some h'
    have hfe : first = #[] := by simpa using hc
    subst hfe
    obtain ⟨h1, h2⟩ := argsOf_ok hf _ _ _ hl
    exact hval h trivial (.func _ (caps.map a.eval) l (by rw [← h1]; simp) fun i x y hx hy => h2 i x y (by simpa using hx) hy) (run_v (by simp [Instr.makeFunc]))
  case makeMap t rr =>
    cases rr <;> simp only [evOp] at h <;> first | (cases h; done) | skip
    obtain ⟨hc, h⟩ := must_some h
    obtain ⟨w', h1, h2, h3, h4⟩ := makeMap_ok (cx := cx) (w := w) (μ := μ) (t := t) (freshAll_one hc)
    exact ⟨_, _, _, h, OpOk.of_upd hi _ (run_v h1) h2 h3 h4⟩
  all_goals simp only [evOp] at h
  all_goals first | (cases h; done) | skip
  case move x => exact hmove rfl h
  case assign x => exact hmove rfl h
  case pick c x y =>
    obtain ⟨c', hc, h⟩ := optK_some h
    obtain ⟨b, rfl, h⟩ := asB_some h
    have hcb : a.eval c = .bool b := by
      have hr := opd_ok hf hc
      generalize a.eval c = q at hr
      cases hr with | d _ _ hd => cases hd; rfl
    cases b
    · obtain ⟨v, hv, h⟩ := optK_some h
      exact hval h trivial (opd_ok hf hv) (by simp [execOp, hcb, Go.asBool])
    · obtain ⟨v, hv, h⟩ := optK_some h
      exact hval h trivial (opd_ok hf hv) (by simp [execOp, hcb, Go.asBool])
  case alloc e =>
    obtain ⟨z, hz, h⟩ := optK_some h
    obtain ⟨hc, h⟩ := must_some h
    rw [Bool.and_eq_true] at hc
    obtain ⟨w', μ', h1, h2, h3, h4⟩ := alloc_ok (w := w) (μ := μ) hz _ rfl hc.1 (by
      have := hc.2
      cases ha : aggTy cx.P e
      · right; simpa [ha] using this
      · exact .inl rfl)
    exact ⟨_, _, _, h, OpOk.of_upd hi _ (run_v h1) h2 h3 h4⟩
  case box e x =>
    obtain ⟨v, hv, h⟩ := optK_some h
    obtain ⟨hc, h⟩ := must_some h
    simp only [Bool.and_eq_true, Bool.not_eq_true'] at hc
    obtain ⟨w', h1, h2, h3, h4⟩ := box_ok (e := e) hi (opdT_ok hf hv) hc.1.1 (Nat.eq_of_beq_eq_true hc.1.2) (freshAll_one hc.2)
    exact ⟨_, _, _, h, OpOk.of_upd hi _ (run_v h1) h2 h3 h4⟩
  case build t ps =>
    obtain ⟨z, hz, h⟩ := optK_some h
    obtain ⟨l, hl, h⟩ := optK_some h
    obtain ⟨cs, hcs, h⟩ := optK_some h
    obtain ⟨hk, h⟩ := must_some h
    obtain ⟨v', h1, h2⟩ := build_ok (w := w) hf hz hl hcs hk
    exact hval h trivial h2 (run_v h1)
  case buildSlice t n ps =>
    split at h
    · rename_i e hu
      obtain ⟨z, hz, h⟩ := optK_some h
      obtain ⟨l, hl, h⟩ := optK_some h
      obtain ⟨xs, hx, h⟩ := optK_some h
      obtain ⟨hc, h⟩ := must_some h
      simp only [Bool.and_eq_true, Bool.not_eq_true'] at hc
      obtain ⟨w', lo, h1, h2, h3, h4⟩ := buildSlice_ok hi hf hu hz hl hx (freshAll_one hc.1.1.1) (Nat.le_of_ble_eq_true hc.1.1.2) (Nat.le_of_ble_eq_true hc.1.2)
        (fun e => by simp [e] at hc)
      exact ⟨_, _, _, h, OpOk.of_upd hi _ (run_v h1) h2 h3 h4⟩
    · cases h
  case load t p =>
    obtain ⟨p', hp, h⟩ := optK_some h
    obtain ⟨v, fp, h, v', h1, h2⟩ := loadV_ok hi (opd_ok hf hp) h
    exact hval h trivial h2 (run_v h1)
  case store t p x =>
    obtain ⟨p', hp, h⟩ := optK_some h
    obtain ⟨v, hv, h⟩ := optK_some h
    obtain ⟨hty, h⟩ := must_some h
    obtain ⟨δ, fp, h, w', id, h1, h2, h3⟩ := storeV_ok hi (opd_ok hf hp) (opdT_ok hf hv) h hty
    exact ⟨_, _, _, h, OpOk.of_skip hi (run_u h1) h2 h3⟩
  case nilCheck x =>
    obtain ⟨v, hv, h⟩ := optK_some h
    have hr := opd_ok hf hv
    split at h
    · refine hval h trivial hr ?_
      generalize hq : a.eval x = q at hr ⊢
      cases hr with | ptr id off b _ _ => simp [execOp, hq]
    · refine hval h trivial hr ?_
      generalize hq : a.eval x = q at hr ⊢
      cases hr with | eptr x b o off xs hc hh => simp [execOp, hq]
    · refine hval h trivial hr ?_
      generalize hq : a.eval x = q at hr ⊢
      cases hr with | gptr g off => simp [execOp, hq]
    · refine hval h trivial hr ?_
      generalize hq : a.eval x = q at hr ⊢
      cases hr with | func f cs l hl hh => simp [execOp, hq]
    · cases h
  case binOp op t x y u =>
    obtain ⟨v1, hv1, h⟩ := optK_some h
    obtain ⟨v2, hv2, h⟩ := optK_some h
    obtain ⟨v, h, v', h1, h2⟩ := binV_ok (w := w) (opdT_ok hf hv1) (opdT_ok hf hv2) h
    exact hval h trivial h2 (run_v h1)
  case unOp op t x =>
    obtain ⟨v1, hv1, h⟩ := optK_some h
    obtain ⟨v, h, v', h1, h2⟩ := unV_ok (P := cx.P) (w := w) (opd_ok hf hv1) h
    exact hval h trivial h2 (run_v h1)
  case convert s t x =>
    obtain ⟨v1, hv1, h⟩ := optK_some h
    split at h
    · rename_i e' e sz l id hu1 hu2
      split at h
      · rename_i n hu3 hg
        obtain ⟨hc, h'⟩ := must_some h
        clear h
        simp only [Bool.and_eq_true, Bool.not_eq_true', decide_eq_true_eq] at hc
        obtain e3 := Nat.eq_of_beq_eq_true hc.1.1
        subst e3
        have h := h'
        rw [hu1] at hu2; cases hu2
        obtain ⟨w', h1, h2, h3, h4⟩ := freeze_ok hi (opdT_ok hf hv1) (by have := hc.1.2; intro e; simp [e] at this) hg hc.2 hu1 hu3
        exact ⟨_, _, _, h, OpOk.of_upd hi _ (run_v h1) h2 h3 h4⟩
      · cases h
    · obtain ⟨v, h, v', h1, h2⟩ := convV_ok (w := w) (opdT_ok hf hv1) h
      exact hval h trivial h2 (run_v h1)
  case makeInterface t x =>
    split at h
    · cases h
    · cases h
    · rename_i hu1 hu2
      obtain ⟨v, hv, h⟩ := optK_some h
      have hr := opdT_ok hf hv
      have hrun : (Instr.makeInterface t (a.eval x)).run cx.P w = .ok (.iface t (a.eval x)) w := by
        unfold Instr.makeInterface
        cases hu : cx.P.underlying t with
        | none => exact absurd hu hu2
        | some u =>
          rw [Sem.run_bind, run_underlying hu, Result.andThen_ok]
          cases u <;> first | rfl | exact absurd hu (hu1 _)
      split at h
      · rename_i y hy
        exact hval h trivial (.d _ _ (.iface t _ _ (elemD_ok hr hy))) (run_v hrun)
      · exact hval h trivial (.iface t _ _ hr) (run_v hrun)
  case slice t x lo hii mx =>
    obtain ⟨v1, hv1, h⟩ := optK_some h
    obtain ⟨l, h, hl⟩ := optE_opd hf h
    obtain ⟨hh, h, hhh⟩ := optE_opd hf h
    obtain ⟨mm, h, hm⟩ := optE_opd hf h
    obtain ⟨v, δ, fp, h, v', μ', ids, h1, h2, h3, h4⟩ := sliceV_ok (opdT_ok hf hv1) hl hhh hm h
    exact ⟨_, _, _, h, OpOk.of_upd hi _ (run_v h1) h2 h3 h4⟩
  case fieldAddr s x f =>
    obtain ⟨v1, hv1, h⟩ := optK_some h
    obtain ⟨v, h, v', h1, h2⟩ := fieldAddrV_ok (w := w) (opd_ok hf hv1) h
    exact hval h trivial h2 (run_v h1)
  case field t x f =>
    obtain ⟨v1, hv1, h⟩ := optK_some h
    obtain ⟨p, hp, h⟩ := optK_some h
    obtain ⟨v, h, v', h1, h2⟩ := field_ok (w := w) (opd_ok hf hv1) hp h
    exact hval h trivial h2 (run_v h1)
  case indexAddr t x i =>
    obtain ⟨v1, hv1, h⟩ := optK_some h
    obtain ⟨v2, hv2, h⟩ := optK_some h
    obtain ⟨v, h, v', h1, h2⟩ := indexAddrV_ok (w := w) (opd_ok hf hv1) (opd_ok hf hv2) h
    exact hval h trivial h2 (run_v h1)
  case index t x i =>
    obtain ⟨v1, hv1, h⟩ := optK_some h
    obtain ⟨v2, hv2, h⟩ := optK_some h
    obtain ⟨v, h, v', h1, h2⟩ := indexV_ok (w := w) (opd_ok hf hv1) (opd_ok hf hv2) h
    exact hval h trivial h2 (run_v h1)
  case extract t i =>
    obtain ⟨v1, hv1, h⟩ := optK_some h
    obtain ⟨l, rfl, h⟩ := asTup_some h
    obtain ⟨v, hv, h⟩ := nthV_some h
    have hr := opd_ok hf hv1
    generalize hq : a.eval t = q at hr
    cases hr with | tup cs _ hl hh => ?_
    have hlt : i < cs.size := by rw [hl]; exact (List.getElem?_eq_some_iff.1 hv).1
    exact hval h trivial (hh i cs[i] v (by simp) hv) (run_v (by simp [Instr.extract, hq, hlt]))
  case panic x => 
    obtain ⟨v1, hv1, h⟩ := optK_some h
    split at h <;> first | (cases h; done) | skip
    rename_i t y
    have hr := opd_ok hf hv1
    refine ⟨_, _, _, h, fun next Q hk => ?_⟩
    have hk := hk _ w μ (After.refl hi) hr
    generalize hq : a.eval x = q at hr hk
    cases hr with | d v' _ hd => ?_
    cases hd with | iface _ v0 _ h0 => ?_
    unfold Oper.wp
    have : (execOp a.eval ⟨dst, .panic x, type, pos, after, guard⟩).run cx.P w = .halt (.panic (.iface t v0)) w := by
      simp [execOp, hq, Instr.panic]
    rw [this]
    exact hk
  case call c =>
    obtain ⟨callee, cargs, ctypes⟩ := c
    split at h
    · rename_i f hcl
      simp only at hcl
      subst hcl
      obtain ⟨fv, hfv, h⟩ := optK_some h
      split at h <;> first | (cases h; done) | skip
      rename_i g cap
      obtain ⟨l, hl, h⟩ := optK_some h
      have hr := opd_ok hf hfv
      generalize hq : a.eval f = q at hr
      cases hr with | func _ cs _ hcl hch => ?_
      have hargs : RVs w σ μ (cargs.toList.map a.eval ++ cs.toList) (handArgs (cx.keep g) l ++ cap) :=
        RVs.append' (handArgs_ok (argsOf_ok hf _ _ _ hl)) ⟨by simpa using hcl, fun i x y hx hy => hch i x y (by simpa using hx) hy⟩
      obtain ⟨oc, δ, fp, hK, ⟨fn, hfn, hbody⟩, hcalls⟩ := callV_ok hcall hi hargs h
      refine ⟨oc, δ, fp, hK, fun next Q hk => ?_⟩
      unfold Oper.wp
      have hrun : (execOp a.eval ⟨dst, .call ⟨.value f, cargs, ctypes⟩, type, pos, after, guard⟩).run cx.P w = .ok (.enter g (cargs.toList.map a.eval ++ cs.toList).toArray) w := by
        simp only [execOp, resolve, hq, Deferred.ofValue]
        rw [Sem.run_bind]
        simp only [Sem.run_pure, Result.andThen_ok, invoke]
        rw [show (#[] ++ Array.map a.eval cargs ++ cs) = (cargs.toList.map a.eval ++ cs.toList).toArray by
          apply Array.ext'; simp]
        exact run_callFunc hn hfn hbody
      rw [hrun, Oper.upon_enter]
      refine hcalls.mono fun e w' ⟨μ', haf, he⟩ => ?_
      cases oc with
      | val v => cases e <;> first | exact hk _ _ _ haf he | exact he.elim
      | pan v => cases e <;> first | exact he.elim | (obtain ⟨x, rfl, hx⟩ := he; exact hk _ _ _ haf hx)
    · rename_i hcl
      simp only at hcl
      subst hcl
      split at h
      · rename_i x t hx ht
        obtain ⟨v1, hv1, h⟩ := optK_some h
        obtain ⟨v, fp, h, v', h1, h2⟩ := lenV_ok (ty := type) hi (opdT_ok hf hv1) h
        have e1 : cargs = #[x] := by apply Array.ext'; simpa using hx
        have e2 : ctypes = #[t] := by apply Array.ext'; simpa using ht
        subst e1 e2
        exact hval h trivial h2 (by
          simp only [execOp, resolve]
          rw [Sem.run_bind]
          simp only [Sem.run_pure, Result.andThen_ok, invoke, builtin]
          exact run_v (by simpa using h1))
      · cases h
    · rename_i hcl
      simp only at hcl
      subst hcl
      split at h
      · rename_i s x t t' hx ht
        obtain ⟨v1, hv1, h⟩ := optK_some h
        obtain ⟨v2, hv2, h⟩ := optK_some h
        obtain ⟨ht', h⟩ := must_some h
        have e1 : cargs = #[s, x] := by apply Array.ext'; simpa using hx
        have e2 : ctypes = #[t, t'] := by apply Array.ext'; simpa using ht
        subst e1 e2
        have hexec : ∀ {v' w'}, (Builtin.append_ #[t, t'] type #[a.eval s, a.eval x]).run cx.P w = .ok v' w' →
            (execOp a.eval ⟨dst, .call ⟨.builtin .append, #[s, x], #[t, t']⟩, type, pos, after, guard⟩).run cx.P w = .ok (.value v') w' := by
          intro v' w' h1
          simp only [execOp, resolve]
          rw [Sem.run_bind]
          simp only [Sem.run_pure, Result.andThen_ok, invoke, builtin]
          exact run_v (by simpa using h1)
        unfold appendV at h
        split at h
        · rename_i e hu
          obtain ⟨sz', ys, hd, h⟩ := dataOf_run h
          obtain ⟨hc, h⟩ := must_some h
          simp only [Bool.and_eq_true, Bool.or_eq_true, Nat.beq_eq] at hc
          obtain ⟨z, hz⟩ := Option.isSome_iff_exists.1 hc.2
          have hsz' : sz' = cx.P.cellsOf e ∨ ys = [] := hc.1.1.imp id fun h => by simpa using h
          have hby := Nat.le_of_ble_eq_true hc.1.2
          cases hnil : nilConst s
          · rw [hnil, cond_false] at h
            split at h
            · rename_i sz l id
              split at h
              · rename_i n hg
                obtain ⟨hc2, h⟩ := must_some h
                simp only [Bool.and_eq_true, decide_eq_true_eq] at hc2
                obtain ⟨⟨hc3, hc4⟩, hc5⟩ := hc2
                obtain ⟨v', w', lo, h1, h2, h3, h4⟩ := append_ok (ty := type) hi (opdT_ok hf hv1) (opdT_ok hf hv2) hd hu hz ht' hsz' (Nat.eq_of_beq_eq_true hc3) hby (hc4 ▸ hg) hc5
                exact ⟨_, _, _, h, OpOk.of_upd hi _ (hexec h1) h2 h3 h4⟩
              · cases h
            · cases h
          · rw [hnil, cond_true] at h
            obtain ⟨hc2, h⟩ := must_some h
            simp only [Bool.and_eq_true, decide_eq_true_eq] at hc2
            have hs : a.eval s = .slice none 0 0 := by
              unfold nilConst at hnil
              split at hnil
              · rfl
              · cases hnil
            obtain ⟨v', w', lo, h1, h2, h3, h4⟩ := append_nil_ok (ty := type) hi (opdT_ok hf hv2) hd hu hz ht' hsz' hby (freshAll_one hc2.1) hc2.2
            rw [← hs] at h1
            exact ⟨_, _, _, h, OpOk.of_upd hi _ (hexec h1) h2 h3 h4⟩
        · cases h
      · cases h
    · cases h

end
end Go.Vai
end

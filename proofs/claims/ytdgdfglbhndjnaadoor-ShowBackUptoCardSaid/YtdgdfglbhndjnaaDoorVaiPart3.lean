/-
  Each operation of the interpreter is the machine's: stores, maps.
  Each operation of the interpreter is the machine's: what is appended.
  A place is made behind a slice's end, and then filled.
  Each operation of the interpreter is the machine's: the first append, pieces of slices and texts, conversions.
  A call sees what its arguments lead to, and nothing else: names of objects inside and outside.
  A call from the caller's side.
-/
import Derived.Test.YtdgdfglbhndjnaaDoorVaiPart2
import Derived.Laws.CopyRow
import Derived.Laws.Tables

set_option linter.all false
set_option linter.unusedSimpArgs false
set_option linter.unusedVariables false

section
namespace Go.Vai

section
variable {R : Type} {cx : Cx} {w w' : World} {σ : St} {μ μ' : Mu}

theorem setRow_other (g b : Nat) (cs : Array Value) (h : b ≠ g) : (w.setRow g cs).heap[b]? = w.heap[b]? := by
  unfold World.setRow
  rw [Array.getElem?_modify]
  simp [Ne.symm h]

theorem setRow_size (g : Nat) (cs : Array Value) : (w.setRow g cs).heap.size = w.heap.size := by simp [World.setRow]

/-- One object is changed, in its block alone. -/
theorem oneUpd {id b : Nat} {o o' : Ob} (ho : getA σ id = some o) (hb : (μ id).blk = some b) (hown : ∀ b' i, owns μ id o b' i ↔ b' = b) (hown' : ∀ b' i, owns μ id o' b' i ↔ b' = b)
    (hos : w'.os = w.os) (hout : w'.output = w.output) (hsize : w'.heap.size = w.heap.size) (hheap : ∀ b', b' ≠ b → w'.heap[b']? = w.heap[b']?) (hst : stillOb μ id o μ (some o')) :
    Upd cx w σ μ w' (applyDe σ [(id, o')]) μ [id] where
  os := hos
  output := hout
  size := by omega
  blk := fun b' _ hn => hheap b' fun e => hn id (by simp) o ho 0 ((hown b' 0).2 e)
  cell := fun b' i x hn hc => by
    have hne : b' ≠ b := fun e => hn id (by simp) o ho ((hown b' i).2 e)
    unfold World.cell? at hc ⊢
    simp only at hc ⊢
    rw [hheap b' hne]
    exact hc
  fr := rfl
  same := fun j hj => by
    have : id ≠ j := fun e => hj (by simp [e])
    exact ⟨by simp [applyDe, getA_putA, this], rfl⟩
  own := fun j hj q hq b' i hown2 hlt => by
    simp at hj; subst hj
    simp only [applyDe, getA_putA, if_pos] at hq
    cases hq
    exact ⟨o, ho, (hown b' i).2 ((hown' b' i).1 hown2)⟩
  still := fun j hj q hq => by
    simp at hj; subst hj
    rw [ho] at hq; cases hq
    simpa [applyDe, getA_putA] using hst
  apart := fun j hj j' hj' _ _ _ _ _ _ _ _ _ => by simp at hj hj'; rw [hj, hj']

theorem owns_val {id b : Nat} (hb : (μ id).blk = some b) (n : Nat) (v : V) (b' i : Nat) : owns μ id (.val n v) b' i ↔ b' = b := by
  simp [owns, hb, eq_comm]
theorem owns_row {id b : Nat} (hb : (μ id).blk = some b) (l : List D) (b' i : Nat) : owns μ id (.row l) b' i ↔ b' = b := by
  simp [owns, hb, eq_comm]
theorem owns_map {id b : Nat} (hb : (μ id).blk = some b) (ks vs : List D) (b' i : Nat) : owns μ id (.map ks vs) b' i ↔ b' = b := by
  simp [owns, hb, eq_comm]

theorem run_storeAt {P : Program} {t b o : Nat} {el : TypeId} {cs : Array Value} {v : Value} {d : TypeDesc} (hd : P.underlying t = some d) (hn : v.cells.size = P.cellsOf t)
    (hh : w.heap[b]? = some (.cells cs el (0, 0))) (hle : o + v.cells.size ≤ cs.size) (h1 : ∀ x ∈ v.cells.toList, x.oneCell' = true) :
    (Instr.storeAt t (.pointer (some ⟨b, o, none⟩)) v).run P w = .ok () (w.setRow b (cs.toList.take o ++ v.cells.toList ++ cs.toList.drop (o + v.cells.size)).toArray) := by
  unfold Instr.storeAt Instr.sureAddr storeVar
  have := run_storeCells_at P b o el v.cells.toList 0 cs w hh (by simpa using hle) h1
  simp [run_sizeOf hd, hn]
  simpa [hn] using this

theorem storeV_ok {t : Nat} {p v : V} {p' v' : Value} {K : De → List Nat → Option R} {r : R} (hi : Inv cx w σ μ) (hp : RV w σ μ p' p) (hv : RV w σ μ v' v) (h : storeV cx σ t p v K = some r) (hty : hasTy cx.P t = true) :
    ∃ δ fp, K δ fp = some r ∧ ∃ w' id, (Instr.storeAt t p' v').run cx.P w = .ok () w' ∧ Upd cx w σ μ w' (applyDe σ δ) μ [id] ∧
      ∀ j ∈ [id], ∀ o', getA (applyDe σ δ) j = some o' → ObOk w' (applyDe σ δ) μ j o' := by
  obtain ⟨d, hd⟩ := hasTy_some hty
  unfold storeV at h
  cases p with
  | ptr id off =>
    cases hp with | ptr _ _ b hc hb => ?_
    simp only at h
    have hvc := V.cells_ok hv
    have hlen : v'.cells.size = v.cells.length := by simpa using hvc.1
    split at h
    · rename_i n u ho
      obtain ⟨b', cs, el, hb', hh, hn, htup, h1, hr, htag⟩ := hi.ob id _ ho
      obtain rfl : b = b' := by rw [hb] at hb'; exact Option.some.inj hb'
      cases hw : Nat.beq off 0 && Nat.beq (szN n) (cx.P.cellsOf t)
      · rw [hw, cond_false] at h
        obtain ⟨hg, hK⟩ := must_some h
        simp only [Bool.and_eq_true] at hg
        obtain ⟨⟨⟨g1, g2⟩, g3⟩, g4⟩ := hg
        have g1 : v.tupV = false := by simpa using g1
        have g2 : v.cells.length = cx.P.cellsOf t := Nat.eq_of_beq_eq_true g2
        have g3 : off + cx.P.cellsOf t ≤ szN n := Nat.le_of_ble_eq_true g3
        have g4 : u.cells.length = szN n := Nat.eq_of_beq_eq_true g4
        have hone := V.cells_one hv g1
        refine ⟨_, _, hK, _, id, run_storeAt hd (by omega) hh (by omega) hone, ?_, ?_⟩
        · exact oneUpd ho hb (owns_val hb _ _) (owns_val hb _ _) rfl rfl (setRow_size _ _) (fun b' hb' => setRow_other _ _ _ hb') (by simp [stillOb])
        · intro j hj o' ho'
          simp at hj; subst hj
          simp only [applyDe, getA_putA, if_pos] at ho'
          cases ho'
          have hup : Upd cx w σ μ (w.setRow b (cs.toList.take off ++ v'.cells.toList ++ cs.toList.drop (off + v'.cells.size)).toArray) (applyDe σ [(j, Ob.val n (mkAgg (u.cells.take off ++ v.cells ++ u.cells.drop (off + cx.P.cellsOf t))))]) μ [j] :=
            oneUpd ho hb (owns_val hb _ _) (owns_val hb _ _) rfl rfl (setRow_size _ _) (fun b' hb' => setRow_other _ _ _ hb') (by simp [stillOb])
          have e : off + v'.cells.size = off + cx.P.cellsOf t := by omega
          rw [e] at hup ⊢
          have hs := hup.goes.stays' hi
          refine ⟨b, _, el, hb, setRow_heap w b cs _ el (0, 0) hh, ?_, mkAgg_tup _, fun x hx => ?_, ?_, htag⟩
          · simp; omega
          · simp only [List.mem_append] at hx
            rcases hx with (hx | hx) | hx
            · exact h1 x (List.mem_of_mem_take hx)
            · exact hone x hx
            · exact h1 x (List.mem_of_mem_drop hx)
          · rw [mkAgg_cells]
            exact (((hr.take off).append hvc).append (hr.drop (off + cx.P.cellsOf t))).map fun x y _ hxy => hxy.stays hs fun k _ o ho => hup.stillAll k o ho
      · rw [hw, cond_true] at h
        rw [Bool.and_eq_true] at hw
        obtain rfl : off = 0 := Nat.eq_of_beq_eq_true hw.1
        have hnn : szN n = cx.P.cellsOf t := Nat.eq_of_beq_eq_true hw.2
        obtain ⟨hg, hK⟩ := must_some h
        rw [Bool.and_eq_true] at hg
        have g1 : v.tupV = false := by simpa using hg.1
        have g2 : v.cells.length = szN n := Nat.eq_of_beq_eq_true hg.2
        have hone := V.cells_one hv g1
        refine ⟨_, _, hK, _, id, run_storeAt hd (by omega) hh (by omega) hone, ?_, ?_⟩
        · exact oneUpd ho hb (owns_val hb _ _) (owns_val hb _ _) rfl rfl (setRow_size _ _) (fun b' hb' => setRow_other _ _ _ hb') (by simp [stillOb])
        · intro j hj o' ho'
          simp at hj; subst hj
          simp only [applyDe, getA_putA, if_pos] at ho'
          cases ho'
          have hup : Upd cx w σ μ (w.setRow b (cs.toList.take 0 ++ v'.cells.toList ++ cs.toList.drop (0 + v'.cells.size)).toArray) (applyDe σ [(j, Ob.val n v)]) μ [j] :=
            oneUpd ho hb (owns_val hb _ _) (owns_val hb _ _) rfl rfl (setRow_size _ _) (fun b' hb' => setRow_other _ _ _ hb') (by simp [stillOb])
          have e : cs.toList.take 0 ++ v'.cells.toList ++ cs.toList.drop (0 + v'.cells.size) = v'.cells.toList := by
            rw [List.drop_eq_nil_of_le (by simp; omega)]; simp
          rw [e] at hup ⊢
          have hs := hup.goes.stays' hi
          refine ⟨b, _, el, hb, setRow_heap w b cs _ el (0, 0) hh, ?_, g1, fun x hx => ?_, ?_, htag⟩
          · simp; omega
          · exact hone x hx
          · exact hvc.map fun x y _ hxy => hxy.stays hs fun k _ o ho => hup.stillAll k o ho
    · rename_i l ho
      obtain ⟨b', cs, el, hb', hh, h1, hr⟩ := hi.ob id _ ho
      obtain rfl : b = b' := by rw [hb] at hb'; exact Option.some.inj hb'
      split at h
      · cases h
      · rename_i x hx
        obtain ⟨hg, hK⟩ := must_some h
        rw [Bool.and_eq_true] at hg
        have g1 : cx.P.cellsOf t = 1 := Nat.eq_of_beq_eq_true hg.1
        have g2 : off < l.length := by simpa using hg.2
        have hxc : x.cells = [x] := by cases x <;> first | rfl | exact absurd rfl (hx _)
        have hxv : (V.d x).cells = [V.d x] := by cases x <;> first | rfl | exact absurd rfl (hx _)
        rw [hxv] at hvc hlen
        have hone := V.cells_one hv rfl
        have hcl : cs.size = l.length := by simpa using hr.1
        obtain ⟨c, hcv⟩ : ∃ c, v'.cells.toList = [c] := List.length_eq_one_iff.1 (by simpa using hvc.1)
        have hcr : RD w (OwnOf σ μ) c x := by
          have := hvc.2 0 c (.d x) (by rw [hcv]; rfl) rfl
          cases this with | d _ _ h => exact h
        refine ⟨_, _, hK, _, id, run_storeAt hd (by simp at hlen; omega) hh (by simp at hlen; omega) hone, ?_, ?_⟩
        · exact oneUpd ho hb (owns_row hb _) (owns_row hb _) rfl rfl (setRow_size _ _) (fun b' hb' => setRow_other _ _ _ hb') (by simp [stillOb])
        · intro j hj o' ho'
          simp at hj; subst hj
          simp only [applyDe, getA_putA, if_pos] at ho'
          cases ho'
          have hup : Upd cx w σ μ (w.setRow b (cs.toList.take off ++ v'.cells.toList ++ cs.toList.drop (off + v'.cells.size)).toArray) (applyDe σ [(j, Ob.row (l.set off x))]) μ [j] :=
            oneUpd ho hb (owns_row hb _) (owns_row hb _) rfl rfl (setRow_size _ _) (fun b' hb' => setRow_other _ _ _ hb') (by simp [stillOb])
          have hs := hup.goes.stays' hi
          have hsz : v'.cells.size = 1 := by simpa using hlen
          have e : l.set off x = l.take off ++ [x] ++ l.drop (off + 1) := by
            rw [List.set_eq_take_append_cons_drop, if_pos g2]; simp
          refine ⟨b, _, el, hb, setRow_heap w b cs _ el (0, 0) hh, fun y hy => ?_, ?_⟩
          · simp only [List.mem_append] at hy
            rcases hy with (hy | hy) | hy
            · exact h1 y (List.mem_of_mem_take hy)
            · exact hone y hy
            · exact h1 y (List.mem_of_mem_drop hy)
          · have a1 : RVs w σ μ (cs.toList.take off ++ v'.cells.toList ++ cs.toList.drop (off + v'.cells.size)) ((l.take off ++ [x] ++ l.drop (off + 1)).map .d) := by
              rw [hsz, hcv]
              have := ((hr.rv.take off).append (show RVs w σ μ [c] [V.d x] from ⟨rfl, fun i p q hp hq => by cases i <;> simp at hp hq; subst hp; subst hq; exact .d _ _ hcr⟩)).append (hr.rv.drop (off + 1))
              simpa [List.map_append, List.map_take, List.map_drop] using this
            rw [← e] at a1
            exact a1.rd.stays hs
      · cases h
    · cases h
  | _ => cases h

theorem makeMap_ok {t id : Nat} (hf : getA σ id = none) :
    ∃ w', (Instr.makeMap t none).run cx.P w = .ok (.map (some w.heap.size)) w' ∧ Upd cx w σ μ w' (applyDe σ [(id, .map [] [])]) (setMu μ id ⟨some w.heap.size, 0, 0, 0⟩) [id] ∧
      (∀ j ∈ [id], ∀ o', getA (applyDe σ [(id, .map [] [])]) j = some o' → ObOk w' (applyDe σ [(id, .map [] [])]) (setMu μ id ⟨some w.heap.size, 0, 0, 0⟩) j o') ∧
      RV w' (applyDe σ [(id, .map [] [])]) (setMu μ id ⟨some w.heap.size, 0, 0, 0⟩) (.map (some w.heap.size)) (.map id) := by
  refine ⟨w.alloc (.map #[] 0), by simp [Instr.makeMap], allocUpd hf, fun j hj o' ho' => ?_, ?_⟩
  · simp at hj; subst hj
    simp only [applyDe, getA_putA, if_pos] at ho'
    cases ho'
    exact ⟨w.heap.size, #[], 0, by simp [setMu], alloc_new, ⟨rfl, by simp⟩, ⟨rfl, by simp⟩⟩
  · exact .map id w.heap.size [] [] (by simp [applyDe, getA_putA]) (by simp [setMu])

end
end Go.Vai
end

section
namespace Go.Vai

section
variable {R : Type} {P : Program} {cx : Cx} {w w' : World} {σ : St} {μ μ' : Mu}

theorem run_storeCells_fr (g o : Nat) (t : TypeId) (fr : Nat × Nat) : ∀ (vs : List Value) (i : Nat) (cur : Array Value) (w : World), w.heap[g]? = some (.cells cur t fr) → o + i + vs.length ≤ cur.size →
    (fr = (0, 0) ∨ cur.size ≤ fr.1) → (∀ v ∈ vs, v.oneCell' = true) →
    (storeCells ⟨g, o, none⟩ vs i).run P w = .ok () (w.setRow g (cur.toList.take (o + i) ++ vs ++ cur.toList.drop (o + i + vs.length)).toArray)
  | [], i, cur, w, hg, _, _, _ => by
    simp only [storeCells, List.append_nil, List.length_nil, Nat.add_zero, List.take_append_drop, Array.toArray_toList]
    rw [setRow_self w g cur t fr hg]
    rfl
  | v :: rest, i, cur, w, hg, hl, hfr, h1 => by
    have hi : o + i < cur.size := by simp at hl; omega
    have hadd : (⟨g, o, none⟩ : Addr).add i = ⟨g, o + i, none⟩ := addr_add g o i
    have hcell : w.cell? ⟨g, o + i, none⟩ = some cur[o + i] := by simp [World.cell?, hg, hi]
    have hfro : w.frozen? ⟨g, o + i, none⟩ = false := by
      rcases hfr with rfl | hfr
      · simp [World.frozen?, hg]
      · obtain ⟨a, b⟩ := fr
        simp only [World.frozen?, hg] at hfr ⊢
        have : ¬ a ≤ o + i := by omega
        simp [this]
    have hst : (store ((⟨g, o, none⟩ : Addr).add i) v).run P w = .ok () (w.setRow g (cur.setIfInBounds (o + i) v)) := by
      rw [hadd, run_store P w _ v _ (h1 v (by simp)), hcell]
      simp [hfro, setCell_eq_setRow w g (o + i) cur t fr v hg]
    have ih := run_storeCells_fr g o t fr rest (i + 1) (cur.setIfInBounds (o + i) v) (w.setRow g (cur.setIfInBounds (o + i) v)) (setRow_heap w g cur _ t _ hg) (by simp at hl ⊢; omega) (by simpa using hfr) (fun x hx => h1 x (by simp [hx]))
    simp only [storeCells, Sem.run_bind, hst, Result.andThen_ok, ih, setRow_setRow]
    congr 3
    have e := list_seg_step cur.toList (o + i) v rest (by simp at hl ⊢; omega)
    simpa [Array.toList_setIfInBounds, Nat.add_assoc] using e

theorem flatD_bytes (s : List UInt8) : flatD (s.map fun b => (D.int .u8 b.toNat)) = s.map fun b => (D.int .u8 b.toNat) := by
  unfold flatD
  induction s with
  | nil => rfl
  | cons a s ih => simp only [List.map_cons, List.flatMap_cons, ih]; rfl

/-- What is to be appended: its length and its cells. -/
theorem dataOf_row {v : V} {v' : Value} {K : Nat → List D → Option R} {r : R} (hv : RV w σ μ v' v) (h : dataOf v K = some r) :
    ∃ sz ys, K sz ys = some r ∧ (Builtin.lenOf v').run P w = .ok ys.length w ∧ ∀ size, (sz = size ∨ ys = []) →
      (∀ y ∈ ys, y.cells.length = size) ∧ ∃ xs : List Value, (∀ w', Stays w (OwnOf σ μ) w' (OwnOf σ μ) → (Builtin.firstCells size ys.length v').run P w' = .ok xs.toArray w') ∧ RDs w (OwnOf σ μ) xs (flatD ys) ∧ (∀ x ∈ xs, x.oneCell' = true) := by
  have slc : ∀ {sz : Nat} {l : List D}, RD w (OwnOf σ μ) v' (.sl sz l) → K sz l = some r → ∃ sz ys, K sz ys = some r ∧ (Builtin.lenOf v').run P w = .ok ys.length w ∧ ∀ size, (sz = size ∨ ys = []) →
      (∀ y ∈ ys, y.cells.length = size) ∧ ∃ xs : List Value, (∀ w', Stays w (OwnOf σ μ) w' (OwnOf σ μ) → (Builtin.firstCells size ys.length v').run P w' = .ok xs.toArray w') ∧ RDs w (OwnOf σ μ) xs (flatD ys) ∧ (∀ x ∈ xs, x.oneCell' = true) := by
    intro sz l hd hK
    refine ⟨sz, l, hK, ?_, fun size hs => ?_⟩
    · obtain ⟨base, cap, rfl⟩ := hd.slice_inv; rfl
    · have hd := hd.sl_sz hs
      obtain ⟨base, cap, rfl, _, hsz, xs, hxl, h1, hr, hc⟩ := hd.toRow
      by_cases he : l = []
      · subst he
        refine ⟨by simp, [], fun w' _ => ?_, ⟨rfl, by simp [flatD]⟩, by simp⟩
        cases base with
        | none => rfl
        | some a =>
          simp only [Builtin.firstCells, List.length_nil, Nat.zero_mul]
          rfl
      · refine ⟨hsz he, xs, fun w' hst => ?_, hr, h1⟩
        obtain ⟨b, o, rfl, hcc⟩ := hc he
        simp only [Builtin.firstCells]
        have := run_loadCells_list (P := P) w' ⟨b, o, none⟩ xs (fun j x hx => by rw [addr_add]; exact (hst.cell _ _ _ (hcc j x hx).2 (hcc j x hx).1).1)
        rw [hxl] at this
        exact this
  unfold dataOf at h
  split at h
  · cases hv with | d _ _ hd => exact slc hd h
  · exact slc hv.slD h
  · rename_i s
    obtain rfl := hv.str_inv
    refine ⟨1, _, h, ?_, fun size hs => ?_⟩
    · simp [Builtin.lenOf, strB_size]
    · have hfl := flatD_bytes s
      refine ⟨fun y hy => ?_, s.map fun b => .int .u8 b.toNat, fun w' _ => ?_, ?_, ?_⟩
      · rcases hs with rfl | hs
        · simp only [List.mem_map] at hy; obtain ⟨b, _, rfl⟩ := hy; rfl
        · rw [hs] at hy; cases hy
      · simp only [Builtin.firstCells, List.length_map]
        have e : (strB s).extract 0 s.length = strB s := by
          have := strB_extract s 0 s.length
          simpa using this
        rw [e]
        simp [strB]
      · rw [hfl]
        exact ⟨by simp, fun i x y hx hy => by
          simp only [List.getElem?_map, Option.map_eq_some_iff] at hx hy
          obtain ⟨b, hb, rfl⟩ := hx
          obtain ⟨b', hb', rfl⟩ := hy
          rw [hb] at hb'; cases hb'
          exact .int _ _⟩
      · intro x hx
        simp only [List.mem_map] at hx
        obtain ⟨b, _, rfl⟩ := hx
        rfl
  · cases h

theorem growBy_le (need : Nat) : ∀ (n c : Nat), c ≤ need + (need + 768) / 4 → Builtin.growBy need n c ≤ need + (need + 768) / 4
  | 0, c, h => h
  | n + 1, c, h => by
    unfold Builtin.growBy
    split
    · exact h
    · exact growBy_le need n _ (by omega)

theorem nextcap_le (need cap : Nat) (h : cap < need) : Builtin.nextslicecap need cap ≤ 2 * need + 192 := by
  unfold Builtin.nextslicecap
  split
  · omega
  · split
    · omega
    · have := growBy_le need 4 cap (by omega)
      omega


theorem flatD_append (l l' : List D) : flatD (l ++ l') = flatD l ++ flatD l' := by simp [flatD]

/-- The world behind a draw. -/
theorem drew_stays : Stays w (OwnOf σ μ) w.drew (OwnOf σ μ) := ⟨fun _ _ _ h hc => ⟨hc, h⟩, fun _ _ _ h hm => ⟨hm, h⟩⟩

theorem zeroCells_length (z : Array Value) (n : Nat) : (Builtin.zeroCells z n).size = n * z.size := by simp [Builtin.zeroCells]


theorem not_int {t' : Nat} (ht' : (match P.underlying t' with | some (.int _) => false | some _ => true | none => false) = true) : ∃ d, P.underlying t' = some d ∧ ∀ k, d ≠ .int k := by
  cases hu : P.underlying t' with
  | none => rw [hu] at ht'; cases ht'
  | some d =>
    refine ⟨d, rfl, fun k hk => ?_⟩
    subst hk
    rw [hu] at ht'
    cases ht'

/-- An append that has room. -/
theorem run_append_in {t t' e ty ln n cap : Nat} {base : Option Addr} {x' : Value} {d' : TypeDesc} {xs : List Value} (hu : P.underlying t = some (.slice e)) (hty : hasTy P e = true) (hu' : P.underlying t' = some d') (hd' : ∀ k, d' ≠ .int k)
    (hl : (Builtin.lenOf x').run P w = .ok n w) (hx : (Builtin.firstCells (P.cellsOf e) n x').run P w = .ok xs.toArray w) (hc : ln + n ≤ cap) {w' : World}
    (hst : (match base with | some a => storeCells (a.add (ln * P.cellsOf e)) xs | none => pure () : Sem Unit).run P w = .ok () w') :
    (Builtin.append_ #[t, t'] ty #[.slice base ln cap, x']).run P w = .ok (.slice base (ln + n) cap) w' := by
  unfold Builtin.append_
  simp only [List.getElem?_toArray, List.getElem?_cons_zero, List.getElem?_cons_succ, Sem.run_bind, run_underlying hu, run_underlying hu', Result.andThen_ok, run_sizeTy hty, Sem.run_pure, hl, Bool.false_eq_true, if_false, if_pos hc,
    Bool.not_false, if_true, hx]
  cases base with
  | none => simp only [Sem.run_pure] at hst ⊢; cases hst; rfl
  | some a => simp only [Sem.run_bind, hst, Result.andThen_ok, Sem.run_pure]

/-- An append that must grow. -/
theorem run_append_grow {t t' e ty ln n cap : Nat} {base : Option Addr} {x' : Value} {d' : TypeDesc} {xs ys : List Value} {i : TypeInfo} {z : Value} (hu : P.underlying t = some (.slice e)) (hi : P.info? e = some i) (hz : i.zero = some z) (hty : hasTy P e = true)
    (hu' : P.underlying t' = some d') (hd' : ∀ k, d' ≠ .int k) (hl : (Builtin.lenOf x').run P w = .ok n w) (hc : cap < ln + n) (hle : ln + n ≤ 4294967296) (hby : P.bytesOf e ≤ 4096)
    (hy : (Builtin.firstCells (P.cellsOf e) ln (.slice base ln cap)).run P w.drew = .ok ys.toArray w.drew)
    (hx : (Builtin.firstCells (P.cellsOf e) n x').run P w.drew = .ok xs.toArray w.drew) :
    ∃ c, ln + n ≤ c ∧ (Builtin.append_ #[t, t'] ty #[.slice base ln cap, x']).run P w =
      .ok (.slice (some ⟨w.heap.size, 0, none⟩) (ln + n) c) (w.drew.alloc (.cells (ys.toArray ++ xs.toArray ++ Builtin.zeroCells z.cells (c - (ln + n))) e)) := by
  have hb : i.bytes = P.bytesOf e := by simp [Program.bytesOf, hi]
  have hnc : ¬ Builtin.nextslicecap (ln + n) cap * i.bytes > 2 ^ 48 := by
    have h1 := nextcap_le (ln + n) cap hc
    have h2 : Builtin.nextslicecap (ln + n) cap * i.bytes ≤ (2 * 4294967296 + 192) * 4096 := Nat.mul_le_mul (by omega) (by omega)
    omega
  have hbig : ¬ ((ln + n : Nat) : Int) > IntKind.i64.max := by
    have : IntKind.i64.max = 9223372036854775807 := by decide
    rw [this]; omega
  refine ⟨(Question.appendCap (ln + n) cap e).cut (w.tape w.drawn (.appendCap (ln + n) cap e)), Nat.le_add_right _ _, ?_⟩
  unfold Builtin.append_
  simp only [List.getElem?_toArray, List.getElem?_cons_zero, List.getElem?_cons_succ, Sem.run_bind, run_underlying hu, run_underlying hu', Result.andThen_ok, run_sizeTy hty, Sem.run_pure, hl, Bool.false_eq_true, if_false, if_neg (Nat.not_le.2 hc),
    typeInfo, run_program, hi, hbig, false_and, Bool.not_false, if_true]
  rw [if_neg hnc]
  simp only [Sem.run_bind, Sem.run_pure, run_program, Result.andThen_ok, hi, run_choose, Question.forced, run_askRoom, World.drew_eq, hy, hx, hz, newRow, run_newObj, World.alloc_eq, World.size_drew, Bool.false_eq_true, if_false, zeroValue, typeInfo]

/-- Of a block of which a slice's tail is owned nobody else owns anything. -/
theorem Inv.tailOwn (hi : Inv cx w σ μ) {id n b : Nat} (ho : getA σ id = some (.tok n)) (hb : (μ id).blk = some b) {j : Nat} {o : Ob} {k : Nat} (hj : getA σ j = some o) (hown : owns μ j o b k) : j = id := by
  have key : ∃ i, owns μ j o b i ∧ owns μ id (.tok n) b i := by
    refine ⟨max k (max (μ id).f (μ j).f), ?_, ?_⟩
    · cases o <;> simp only [owns] at hown ⊢ <;> first | exact hown | exact ⟨hown.1, by omega⟩
    · exact ⟨hb, by omega⟩
  obtain ⟨i, h1, h2⟩ := key
  exact hi.apart j id o _ b i hj ho h1 h2

/-- What is appended. -/
theorem append_ok {t t' e ty id : Nat} {sz sz' : Nat} {l ys : List D} {s' x' : Value} {x : V} {z : List D} (hi : Inv cx w σ μ) (hs : RV w σ μ s' (.sl sz l id)) (hx : RV w σ μ x' x)
    (hd : dataOf x (fun a b => some (a, b)) = some (sz', ys))
    (hu : cx.P.underlying t = some (.slice e)) (hz : zeroOf cx.P e = some z) (ht' : (match cx.P.underlying t' with | some (.int _) => false | some _ => true | none => false) = true)
    (hsz' : sz' = cx.P.cellsOf e ∨ ys = []) (hsz : szN sz = cx.P.cellsOf e) (hT : tagOk sz e) (hby : cx.P.bytesOf e ≤ 4096) (ho : getA σ id = some (.tok l.length)) (hle : l.length + ys.length ≤ 4294967296) :
    ∃ v' w' lo, (Builtin.append_ #[t, t'] ty #[s', x']).run cx.P w = .ok v' w' ∧ Upd cx w σ μ w' (applyDe σ [(id, .tok (l.length + ys.length))]) (setMu μ id lo) [id] ∧
      (∀ j ∈ [id], ∀ o', getA (applyDe σ [(id, .tok (l.length + ys.length))]) j = some o' → ObOk w' (applyDe σ [(id, .tok (l.length + ys.length))]) (setMu μ id lo) j o') ∧
      RV w' (applyDe σ [(id, .tok (l.length + ys.length))]) (setMu μ id lo) v' (.sl sz (l ++ ys) id) := by
  obtain ⟨sz0, ys0, h0, hlen, hcells⟩ := dataOf_row (P := cx.P) hx hd
  cases h0
  obtain ⟨hysz, xs, hfx, hxr, hx1⟩ := hcells _ hsz'
  obtain ⟨i, zv, hti, hzv, hty, ha, hzr, hzone, hzlen, hzfit⟩ := zeroOf_some (w := w) hz
  obtain ⟨d', hu', hd'⟩ := not_int ht'
  have hzc : zv.cells.size = cx.P.cellsOf e := by have := (hzr (OwnOf σ μ)).1; simp at this; omega
  have hxl : xs.length = ys.length * cx.P.cellsOf e := by rw [hxr.1, flatD_length ys hysz]
  have hnew : getA (applyDe σ [(id, Ob.tok (l.length + ys.length))]) id = some (.tok (l.length + ys.length)) := by simp [applyDe, getA_putA]
  have hother : ∀ j, j ≠ id → getA (applyDe σ [(id, Ob.tok (l.length + ys.length))]) j = getA σ j := fun j hj => by simp [applyDe, getA_putA, Ne.symm hj]
  cases hs with
  | sl _ _ _ _ n hrd ht hn htail => ?_
  rw [ho] at ht; cases ht
  have htail := htail rfl
  rw [hsz] at hrd
  obtain ⟨base, cap, rfl, hcap, hlsz, zs, hzl, hz1, hzsr, hzcell⟩ := hrd.toRow
  have hcap : l.length ≤ cap := by
    by_cases he : l = []
    · subst he; simp
    · exact hcap he
  have hlsz' : ∀ y ∈ l, y.cells.length = cx.P.cellsOf e := fun y hy => hlsz (List.ne_nil_of_mem hy) y hy
  have hall : ∀ y ∈ l ++ ys, y.cells.length = cx.P.cellsOf e := fun y hy => by
    rcases List.mem_append.1 hy with h | h
    · exact hlsz' y h
    · exact hysz y h
  by_cases hroom : l.length + ys.length ≤ cap
  · -- in place
    by_cases hys : ys = []
    · -- nothing is appended
      subst hys
      have hxs : xs = [] := by simpa using hxl
      subst hxs
      have hup : Upd cx w σ μ w (applyDe σ [(id, Ob.tok (l.length + 0))]) (setMu μ id (μ id)) [id] := by
        have hmu := setMu_self μ id
        rw [hmu]
        exact {
          os := rfl, output := rfl, size := Nat.le_refl _, blk := fun _ _ _ => rfl, cell := fun _ _ _ _ h => h,
          fr := rfl, same := fun j hj => ⟨hother j (by simpa using hj), rfl⟩,
          own := fun j hj q hq b i hown _ => by
            simp at hj; subst hj
            rw [show getA (applyDe σ [(j, Ob.tok (l.length + 0))]) j = some (.tok (l.length + 0)) from hnew] at hq
            cases hq
            exact ⟨_, ho, hown⟩,
          still := fun j hj q hq => by
            simp at hj; subst hj
            rw [ho] at hq; cases hq
            rw [show getA (applyDe σ [(j, Ob.tok (l.length + 0))]) j = some (.tok (l.length + 0)) from hnew]
            exact ⟨by omega, fun _ => rfl⟩,
          apart := fun j hj j' hj' _ _ _ _ _ _ _ _ _ => by simp at hj hj'; rw [hj, hj'] }
      have hmu := setMu_self μ id
      refine ⟨.slice base (l.length + 0) cap, w, μ id, ?_, hup, fun j hj o' ho' => ?_, ?_⟩
      · refine run_append_in hu hty hu' hd' hlen (hfx w (Stays.refl _ _)) (by simpa using hroom) ?_
        cases base <;> rfl
      · simp at hj; subst hj
        rw [hnew] at ho'
        cases ho'
        rw [hmu]
        exact hi.ob j _ ho
      · rw [List.append_nil]
        refine .slm hsz ?_ hnew (by simp) fun _ => by rw [hmu]; exact htail
        exact hrd.stays (hup.goes.stays' hi)
    · -- behind the slice's end
      have hpos : 0 < ys.length := List.length_pos_iff.2 hys
      rcases tail_inv hsz htail with ⟨h1, _, _, _⟩ | ⟨b, o, hbase, hb, hf, hend, hnc, hTe⟩
      · omega
      obtain rfl := hbase
      obtain ⟨cs, el, fr, hh, hel, hcs, hfr⟩ := hi.ob id _ ho b hb
      have hmul : (l.length + ys.length) * cx.P.cellsOf e ≤ cap * cx.P.cellsOf e := Nat.mul_le_mul_right _ hroom
      rw [Nat.add_mul] at hmul
      have hfit : o + l.length * cx.P.cellsOf e + 0 + xs.length ≤ cs.size := by rw [hcs, hxl]; omega
      have hst := run_storeCells_fr (P := cx.P) b (o + l.length * cx.P.cellsOf e) el fr xs 0 cs w hh hfit hfr hx1
      simp only [Nat.add_zero] at hst
      generalize hncs : (cs.toList.take (o + l.length * cx.P.cellsOf e) ++ xs ++ cs.toList.drop (o + l.length * cx.P.cellsOf e + xs.length)).toArray = ncs at hst
      have hncsz : ncs.size = cs.size := by rw [← hncs]; simp; omega
      have hlow : ∀ k, k < (μ id).f → ncs[k]? = cs[k]? := fun k hk => by
        rw [← hncs]
        have : k < o + l.length * cx.P.cellsOf e := by omega
        simp only [List.getElem?_toArray, List.append_assoc]
        rw [List.getElem?_append_left (by simp; omega), List.getElem?_take, if_pos this]
        simp
      have hmid : ∀ (k : Nat) v, xs[k]? = some v → ncs[o + l.length * cx.P.cellsOf e + k]? = some v := fun k v hk => by
        rw [← hncs]
        have hkl := (List.getElem?_eq_some_iff.1 hk).1
        have hmin : min (o + l.length * cx.P.cellsOf e) cs.size = o + l.length * cx.P.cellsOf e := by omega
        simp only [List.getElem?_toArray, List.append_assoc]
        rw [List.getElem?_append_right (by simp; omega)]
        rw [List.getElem?_append_left (by simp [hmin]; omega)]
        rw [← hk]
        congr 1
        simp [hmin]
      have hnh : (w.setRow b ncs).heap[b]? = some (.cells ncs el fr) := setRow_heap w b cs ncs el fr hh
      let lo : Lo := ⟨some b, (μ id).f + xs.length, (μ id).e, (μ id).el⟩
      have hup : Upd cx w σ μ (w.setRow b ncs) (applyDe σ [(id, Ob.tok (l.length + ys.length))]) (setMu μ id lo) [id] := {
        os := rfl, output := rfl, size := by rw [setRow_size]; exact Nat.le_refl _,
        blk := fun b' _ hn => by
          have hne : b' ≠ b := fun h => hn id (by simp) _ ho (μ id).f (by rw [h]; exact ⟨hb, Nat.le_refl _⟩)
          exact setRow_other _ _ _ hne,
        cell := fun b' k v hn hc => by
          by_cases hbb : b' = b
          · subst hbb
            have hk : k < (μ id).f := Nat.lt_of_not_le fun h => hn id (by simp) _ ho ⟨hb, h⟩
            rw [cell_of_heap hnh, hlow k hk, ← cell_of_heap (i := k) hh]
            exact hc
          · unfold World.cell? at hc ⊢
            simp only at hc ⊢
            rw [setRow_other _ _ _ hbb]
            exact hc,
        fr := rfl, same := fun j hj => by
          have hj : j ≠ id := by simpa using hj
          exact ⟨hother j hj, by simp [setMu, hj]⟩,
        own := fun j hj q hq b' k hown _ => by
          simp at hj; subst hj
          rw [hnew] at hq; cases hq
          refine ⟨_, ho, ?_⟩
          have h1 : some b = some b' := by simpa [setMu, lo] using hown.1
          have h2 : (μ j).f + xs.length ≤ k := by simpa [setMu, lo] using hown.2
          exact ⟨hb.trans h1, by omega⟩,
        still := fun j hj q hq => by
          simp at hj; subst hj
          rw [ho] at hq; cases hq
          rw [hnew]
          exact ⟨by omega, fun h => by omega⟩,
        apart := fun j hj j' hj' _ _ _ _ _ _ _ _ _ => by simp at hj hj'; rw [hj, hj'] }
      have hs := hup.goes.stays' hi
      refine ⟨.slice (some ⟨b, o, none⟩) (l.length + ys.length) cap, w.setRow b ncs, lo, ?_, hup, fun j hj o' ho' => ?_, ?_⟩
      · refine run_append_in hu hty hu' hd' hlen (hfx w (Stays.refl _ _)) hroom ?_
        simp only [addr_add]
        exact hst
      · simp at hj; subst hj
        rw [hnew] at ho'; cases ho'
        intro b' hb'
        have hbb : b = b' := by simpa [setMu, lo] using hb'
        subst hbb
        exact ⟨ncs, el, fr, hnh, by simp [setMu, lo, hel], by simp [setMu, lo, hncsz, hcs], by rw [hncsz]; exact hfr⟩
      · refine .slm hsz ?_ hnew (by simp) fun _ => tail_mk hsz (by simp [setMu, lo]) ?_ (by simpa [setMu, lo] using hend) hroom (by simpa [setMu, lo] using hTe.more (Nat.le_add_right _ ys.length))
        · refine RD.ofRow hnh (by simp) hroom hall (fun k c hk => ?_) fun k hk hown => ?_
          · rw [flatD_append] at hk
            have hfl := flatD_length l hlsz'
            by_cases hkl : k < (flatD l).length
            · rw [List.getElem?_append_left hkl] at hk
              obtain ⟨v, hv⟩ := getSome (l := zs) (i := k) (by rw [hzsr.1]; exact hkl)
              have hne : l ≠ [] := by intro h; subst h; simp [flatD] at hkl
              obtain ⟨b1, o1, hb1, hc1⟩ := hzcell hne
              cases hb1
              have hc2 := (hc1 k v hv).1
              rw [cell_of_heap hh] at hc2
              refine ⟨v, ?_, (hzsr.2 k v c hv hk).stays hs, hz1 v (List.mem_of_getElem? hv)⟩
              rw [hlow _ (by omega)]
              exact hc2
            · rw [List.getElem?_append_right (by omega)] at hk
              obtain ⟨v, hv⟩ := getSome (l := xs) (i := k - (flatD l).length) (by rw [hxr.1]; exact (List.getElem?_eq_some_iff.1 hk).1)
              refine ⟨v, ?_, (hxr.2 _ v c hv hk).stays hs, hx1 v (List.mem_of_getElem? hv)⟩
              have := hmid _ v hv
              rw [hfl] at this hkl
              rw [show o + k = o + l.length * cx.P.cellsOf e + (k - l.length * cx.P.cellsOf e) by omega]
              exact this
          · rcases hown with hfr | ⟨j, q, hj, hq⟩
            · exact hi.frame id _ b _ ho ⟨hb, Nat.le_refl _⟩ _ hfr
            by_cases hjid : j = id
            · subst hjid
              rw [hnew] at hj; cases hj
              have h2 : (μ j).f + xs.length ≤ o + k := by simpa [setMu, lo] using hq.2
              rw [Nat.add_mul] at hk
              omega
            · rw [hother j hjid] at hj
              exact hjid (hi.tailOwn ho hb hj ((owns_congr (by simp [setMu, hjid]) q _ _).1 hq))
        · simp only [setMu, lo, if_true]
          rw [Nat.add_mul, hxl]; omega
  · -- a new array
    have hgrow : cap < l.length + ys.length := by omega
    have hpos : 0 < ys.length := by omega
    have hfz : (Builtin.firstCells (cx.P.cellsOf e) l.length (.slice base l.length cap)).run cx.P w.drew = .ok zs.toArray w.drew := by
      by_cases he : l = []
      · subst he
        have : zs = [] := by simpa using hzl
        subst this
        cases base with
        | none => rfl
        | some a => simp only [Builtin.firstCells, List.length_nil, Nat.zero_mul]; rfl
      · obtain ⟨b, o, rfl, hc⟩ := hzcell he
        simp only [Builtin.firstCells]
        have := run_loadCells_list (P := cx.P) w.drew ⟨b, o, none⟩ zs (fun j x hx => by rw [addr_add]; exact (hc j x hx).1)
        rw [hzl] at this
        exact this
    obtain ⟨c, hc, hrun⟩ := run_append_grow (ty := ty) hu hti hzv hty hu' hd' hlen hgrow hle hby hfz (hfx w.drew drew_stays)
    generalize hncs : zs.toArray ++ xs.toArray ++ Builtin.zeroCells zv.cells (c - (l.length + ys.length)) = ncs at hrun
    let lo : Lo := ⟨some w.heap.size, (l.length + ys.length) * cx.P.cellsOf e, c * cx.P.cellsOf e, e⟩
    have hsize : ncs.size = c * cx.P.cellsOf e := by
      rw [← hncs]
      simp only [Array.size_append, List.size_toArray, zeroCells_length, hzl, hxl, hzc]
      have : c = l.length + ys.length + (c - (l.length + ys.length)) := by omega
      rw [this]
      simp only [Nat.add_mul, Nat.add_sub_cancel_left]
    have hnh : (w.drew.alloc (.cells ncs e)).heap[w.heap.size]? = some (.cells ncs e (0, 0)) := alloc_new (w := w.drew)
    have hold : ∀ b, b < w.heap.size → (w.drew.alloc (.cells ncs e)).heap[b]? = w.heap[b]? := fun b hb => alloc_old (w := w.drew) b hb
    have hup : Upd cx w σ μ (w.drew.alloc (.cells ncs e)) (applyDe σ [(id, Ob.tok (l.length + ys.length))]) (setMu μ id lo) [id] := {
      os := rfl, output := rfl, size := by simp,
      blk := fun b' hb' _ => hold b' hb',
      cell := fun b' k v _ hc => by
        have := hold b' (lt_of_cell hc)
        unfold World.cell? at hc ⊢
        simp only at hc ⊢
        rw [this]
        exact hc,
      fr := rfl, same := fun j hj => by
        have hj : j ≠ id := by simpa using hj
        exact ⟨hother j hj, by simp [setMu, hj]⟩,
      own := fun j hj q hq b' k hown hlt => by
        simp at hj; subst hj
        rw [hnew] at hq; cases hq
        have h1 : w.heap.size = b' := by simpa [setMu, lo] using hown.1
        omega,
      still := fun j hj q hq => by
        simp at hj; subst hj
        rw [ho] at hq; cases hq
        rw [hnew]
        exact ⟨by omega, fun h => by omega⟩,
      apart := fun j hj j' hj' _ _ _ _ _ _ _ _ _ => by simp at hj hj'; rw [hj, hj'] }
    have hs := hup.goes.stays' hi
    refine ⟨_, _, lo, hrun, hup, fun j hj o' ho' => ?_, ?_⟩
    · simp at hj; subst hj
      rw [hnew] at ho'; cases ho'
      intro b' hb'
      have hbb : w.heap.size = b' := by simpa [setMu, lo] using hb'
      subst hbb
      exact ⟨ncs, e, (0, 0), hnh, by simp [setMu, lo], by simp [setMu, lo, hsize], .inl rfl⟩
    · refine .slm hsz ?_ hnew (by simp) fun _ => tail_mk hsz (by simp [setMu, lo]) (by simp [setMu, lo]) (by simp [setMu, lo]) hc (by simpa [setMu, lo] using hT.o (show 0 < l.length + ys.length by omega))
      refine RD.ofRow hnh (by simp) hc hall (fun k c' hk => ?_) fun k hk hown => ?_
      · rw [flatD_append] at hk
        rw [Nat.zero_add]
        by_cases hkl : k < (flatD l).length
        · rw [List.getElem?_append_left hkl] at hk
          obtain ⟨v, hv⟩ := getSome (l := zs) (i := k) (by rw [hzsr.1]; exact hkl)
          refine ⟨v, ?_, (hzsr.2 k v c' hv hk).stays hs, hz1 v (List.mem_of_getElem? hv)⟩
          have hkz := (List.getElem?_eq_some_iff.1 hv).1
          rw [← hncs, Array.getElem?_append_left (by simp; omega), Array.getElem?_append_left (by simpa using hkz)]
          simpa using hv
        · rw [List.getElem?_append_right (by omega)] at hk
          obtain ⟨v, hv⟩ := getSome (l := xs) (i := k - (flatD l).length) (by rw [hxr.1]; exact (List.getElem?_eq_some_iff.1 hk).1)
          refine ⟨v, ?_, (hxr.2 _ v c' hv hk).stays hs, hx1 v (List.mem_of_getElem? hv)⟩
          have hkx := (List.getElem?_eq_some_iff.1 hv).1
          have hzf := hzsr.1
          rw [← hncs, Array.getElem?_append_left (by simp; omega), Array.getElem?_append_right (by simp; omega)]
          simp only [List.size_toArray, hzf]
          simpa using hv
      · rcases hown with hfr | ⟨j, q, hj, hq⟩
        · exact absurd (hi.frLt _ _ hfr) (by omega)
        by_cases hjid : j = id
        · subst hjid
          rw [hnew] at hj; cases hj
          have h2 : (l.length + ys.length) * cx.P.cellsOf e ≤ 0 + k := by simpa [setMu, lo] using hq.2
          omega
        · rw [hother j hjid] at hj
          have := owns_lt hi hj ((owns_congr (by simp [setMu, hjid]) q _ _).1 hq)
          omega

end
end Go.Vai
end

section
namespace Go.Vai

section
variable {R : Type} {P : Program} {cx : Cx} {w w' : World} {σ : St} {μ μ' : Mu}

/-- A place is made behind a slice's end, and filled. -/
theorem fill_ok {t t' e ty id : Nat} {sz sz' : Nat} {l ps : List D} {y : D} {s' x' : Value} {x : V} {z : List D} {vs : List Value} (hi : Inv cx w σ μ) (hs : RV w σ μ s' (.sl sz l id)) (hx : RV w σ μ x' x)
    (hd : dataOf x (fun a b => some (a, b)) = some (sz', ps)) (hps : ps.length = 1) (hvr : RDs w (OwnOf σ μ) vs y.cells) (hv1 : ∀ x ∈ vs, x.oneCell' = true) (hyc : y.cells.length = cx.P.cellsOf e)
    (hu : cx.P.underlying t = some (.slice e)) (hz : zeroOf cx.P e = some z) (ht' : (match cx.P.underlying t' with | some (.int _) => false | some _ => true | none => false) = true)
    (hsz' : sz' = cx.P.cellsOf e ∨ ps = []) (hsz : szN sz = cx.P.cellsOf e) (hT : tagOk sz e) (hby : cx.P.bytesOf e ≤ 4096) (ho : getA σ id = some (.tok l.length)) (hle : l.length + 1 ≤ 4294967296) :
    ∃ b o cap w1 w' lo, (Builtin.append_ #[t, t'] ty #[s', x']).run cx.P w = .ok (.slice (some ⟨b, o, none⟩) (l.length + 1) cap) w1 ∧
      (storeCells ⟨b, o + l.length * cx.P.cellsOf e, none⟩ vs).run cx.P w1 = .ok () w' ∧ Upd cx w σ μ w' (applyDe σ [(id, .tok (l.length + 1))]) (setMu μ id lo) [id] ∧
      (∀ j ∈ [id], ∀ o', getA (applyDe σ [(id, .tok (l.length + 1))]) j = some o' → ObOk w' (applyDe σ [(id, .tok (l.length + 1))]) (setMu μ id lo) j o') ∧
      RV w' (applyDe σ [(id, .tok (l.length + 1))]) (setMu μ id lo) (.slice (some ⟨b, o, none⟩) (l.length + 1) cap) (.sl sz (l ++ [y]) id) ∧ lo.blk = some b ∧
      ∃ ncs, w' = w1.setRow b ncs ∧ ∀ w2 : World, w2.heap[b]? = w1.heap[b]? → (storeCells ⟨b, o + l.length * cx.P.cellsOf e, none⟩ vs).run cx.P w2 = .ok () (w2.setRow b ncs) := by
  obtain ⟨sz0, ys0, h0, hlen, hcells⟩ := dataOf_row (P := cx.P) hx hd
  cases h0
  obtain ⟨hpsz, xs0, hfx0, hxr0, hx01⟩ := hcells _ hsz'
  rw [hps] at hlen hfx0
  have hysz : ∀ q ∈ [y], q.cells.length = cx.P.cellsOf e := fun q hq => by simp at hq; subst hq; exact hyc
  obtain ⟨i, zv, hti, hzv, hty, ha, hzr, hzone, hzlen, hzfit⟩ := zeroOf_some (w := w) hz
  obtain ⟨d', hu', hd'⟩ := not_int ht'
  have hzc : zv.cells.size = cx.P.cellsOf e := by have := (hzr (OwnOf σ μ)).1; simp at this; omega
  have hfy : flatD [y] = y.cells := by simp [flatD]
  have hxl0 : xs0.length = 1 * cx.P.cellsOf e := by rw [hxr0.1, flatD_length ps hpsz, hps]
  have hxl : vs.length = 1 * cx.P.cellsOf e := by rw [hvr.1, hyc, Nat.one_mul]
  have hxr : RDs w (OwnOf σ μ) vs (flatD [y]) := by rw [hfy]; exact hvr
  have hnew : getA (applyDe σ [(id, Ob.tok (l.length + 1))]) id = some (.tok (l.length + 1)) := by simp [applyDe, getA_putA]
  have hother : ∀ j, j ≠ id → getA (applyDe σ [(id, Ob.tok (l.length + 1))]) j = getA σ j := fun j hj => by simp [applyDe, getA_putA, Ne.symm hj]
  cases hs with
  | sl _ _ _ _ n hrd ht hn htail => ?_
  rw [ho] at ht; cases ht
  have htail := htail rfl
  rw [hsz] at hrd
  obtain ⟨base, cap, rfl, hcap, hlsz, zs, hzl, hz1, hzsr, hzcell⟩ := hrd.toRow
  have hcap : l.length ≤ cap := by
    by_cases he : l = []
    · subst he; simp
    · exact hcap he
  have hlsz' : ∀ y ∈ l, y.cells.length = cx.P.cellsOf e := fun y hy => hlsz (List.ne_nil_of_mem hy) y hy
  have hall : ∀ q ∈ l ++ [y], q.cells.length = cx.P.cellsOf e := fun q hq => by
    rcases List.mem_append.1 hq with h | h
    · exact hlsz' q h
    · exact hysz q h
  by_cases hroom : l.length + 1 ≤ cap
  · -- in place
    · -- behind the slice's end
      rcases tail_inv hsz htail with ⟨h1, _, _, _⟩ | ⟨b, o, hbase, hb, hf, hend, hnc, hTe⟩
      · omega
      obtain rfl := hbase
      obtain ⟨cs, el, fr, hh, hel, hcs, hfr⟩ := hi.ob id _ ho b hb
      have hmul : (l.length + 1) * cx.P.cellsOf e ≤ cap * cx.P.cellsOf e := Nat.mul_le_mul_right _ hroom
      rw [Nat.add_mul] at hmul
      have hfit : o + l.length * cx.P.cellsOf e + 0 + vs.length ≤ cs.size := by rw [hcs, hxl]; omega
      have hst0 := run_storeCells_fr (P := cx.P) b (o + l.length * cx.P.cellsOf e) el fr xs0 0 cs w hh (by rw [hxl0]; rw [hxl] at hfit; exact hfit) hfr hx01
      simp only [Nat.add_zero] at hst0
      generalize hncs0 : (cs.toList.take (o + l.length * cx.P.cellsOf e) ++ xs0 ++ cs.toList.drop (o + l.length * cx.P.cellsOf e + xs0.length)).toArray = ncs0 at hst0
      have hn0 : ncs0.size = cs.size := by rw [← hncs0]; simp; omega
      have hst := run_storeCells_fr (P := cx.P) b (o + l.length * cx.P.cellsOf e) el fr vs 0 ncs0 (w.setRow b ncs0) (setRow_heap w b cs ncs0 el fr hh) (by rw [hn0]; exact hfit) (by rw [hn0]; exact hfr) hv1
      simp only [Nat.add_zero] at hst
      have hsame : (ncs0.toList.take (o + l.length * cx.P.cellsOf e) ++ vs ++ ncs0.toList.drop (o + l.length * cx.P.cellsOf e + vs.length)) = (cs.toList.take (o + l.length * cx.P.cellsOf e) ++ vs ++ cs.toList.drop (o + l.length * cx.P.cellsOf e + vs.length)) := by
        have hmin : min (o + l.length * cx.P.cellsOf e) cs.size = o + l.length * cx.P.cellsOf e := by omega
        rw [← hncs0]
        simp only
        congr 1
        · congr 1
          rw [List.append_assoc, List.take_append_of_le_length (by simp [hmin]), List.take_take, Nat.min_self]
        · rw [List.drop_append, List.drop_eq_nil_of_le (by simp [hmin]; omega), List.nil_append, List.drop_drop]
          congr 1
          simp [hmin]; omega
      rw [hsame, setRow_setRow] at hst
      generalize hncs : (cs.toList.take (o + l.length * cx.P.cellsOf e) ++ vs ++ cs.toList.drop (o + l.length * cx.P.cellsOf e + vs.length)).toArray = ncs at hst
      have hncsz : ncs.size = cs.size := by rw [← hncs]; simp; omega
      have hlow : ∀ k, k < (μ id).f → ncs[k]? = cs[k]? := fun k hk => by
        rw [← hncs]
        have : k < o + l.length * cx.P.cellsOf e := by omega
        simp only [List.getElem?_toArray, List.append_assoc]
        rw [List.getElem?_append_left (by simp; omega), List.getElem?_take, if_pos this]
        simp
      have hmid : ∀ (k : Nat) v, vs[k]? = some v → ncs[o + l.length * cx.P.cellsOf e + k]? = some v := fun k v hk => by
        rw [← hncs]
        have hkl := (List.getElem?_eq_some_iff.1 hk).1
        have hmin : min (o + l.length * cx.P.cellsOf e) cs.size = o + l.length * cx.P.cellsOf e := by omega
        simp only [List.getElem?_toArray, List.append_assoc]
        rw [List.getElem?_append_right (by simp; omega)]
        rw [List.getElem?_append_left (by simp [hmin]; omega)]
        rw [← hk]
        congr 1
        simp [hmin]
      have hnh : (w.setRow b ncs).heap[b]? = some (.cells ncs el fr) := setRow_heap w b cs ncs el fr hh
      let lo : Lo := ⟨some b, (μ id).f + vs.length, (μ id).e, (μ id).el⟩
      have hup : Upd cx w σ μ (w.setRow b ncs) (applyDe σ [(id, Ob.tok (l.length + 1))]) (setMu μ id lo) [id] := {
        os := rfl, output := rfl, size := by rw [setRow_size]; exact Nat.le_refl _,
        blk := fun b' _ hn => by
          have hne : b' ≠ b := fun h => hn id (by simp) _ ho (μ id).f (by rw [h]; exact ⟨hb, Nat.le_refl _⟩)
          exact setRow_other _ _ _ hne,
        cell := fun b' k v hn hc => by
          by_cases hbb : b' = b
          · subst hbb
            have hk : k < (μ id).f := Nat.lt_of_not_le fun h => hn id (by simp) _ ho ⟨hb, h⟩
            rw [cell_of_heap hnh, hlow k hk, ← cell_of_heap (i := k) hh]
            exact hc
          · unfold World.cell? at hc ⊢
            simp only at hc ⊢
            rw [setRow_other _ _ _ hbb]
            exact hc,
        fr := rfl, same := fun j hj => by
          have hj : j ≠ id := by simpa using hj
          exact ⟨hother j hj, by simp [setMu, hj]⟩,
        own := fun j hj q hq b' k hown _ => by
          simp at hj; subst hj
          rw [hnew] at hq; cases hq
          refine ⟨_, ho, ?_⟩
          have h1 : some b = some b' := by simpa [setMu, lo] using hown.1
          have h2 : (μ j).f + vs.length ≤ k := by simpa [setMu, lo] using hown.2
          exact ⟨hb.trans h1, by omega⟩,
        still := fun j hj q hq => by
          simp at hj; subst hj
          rw [ho] at hq; cases hq
          rw [hnew]
          exact ⟨by omega, fun h => by omega⟩,
        apart := fun j hj j' hj' _ _ _ _ _ _ _ _ _ => by simp at hj hj'; rw [hj, hj'] }
      have hs := hup.goes.stays' hi
      have hall2 : ∀ w2 : World, w2.heap[b]? = (w.setRow b ncs0).heap[b]? → (storeCells ⟨b, o + l.length * cx.P.cellsOf e, none⟩ vs).run cx.P w2 = .ok () (w2.setRow b ncs) := by
        intro w2 h2
        have h3 : w2.heap[b]? = some (.cells ncs0 el fr) := h2.trans (setRow_heap w b cs ncs0 el fr hh)
        have := run_storeCells_fr (P := cx.P) b (o + l.length * cx.P.cellsOf e) el fr vs 0 ncs0 w2 h3 (by rw [hn0]; exact hfit) (by rw [hn0]; exact hfr) hv1
        simp only [Nat.add_zero] at this
        rw [hsame, hncs] at this
        exact this
      refine ⟨b, o, cap, w.setRow b ncs0, w.setRow b ncs, lo, ?_, hst, hup, fun j hj o' ho' => ?_, ?_, rfl, ncs, (setRow_setRow ..).symm, hall2⟩
      · refine run_append_in hu hty hu' hd' hlen (hfx0 w (Stays.refl _ _)) hroom ?_
        simp only [addr_add]
        exact hst0
      · simp at hj; subst hj
        rw [hnew] at ho'; cases ho'
        intro b' hb'
        have hbb : b = b' := by simpa [setMu, lo] using hb'
        subst hbb
        exact ⟨ncs, el, fr, hnh, by simp [setMu, lo, hel], by simp [setMu, lo, hncsz, hcs], by rw [hncsz]; exact hfr⟩
      · refine .slm hsz ?_ hnew (by simp) fun _ => tail_mk hsz (by simp [setMu, lo]) ?_ (by simpa [setMu, lo] using hend) hroom (by simpa [setMu, lo] using hTe.more (Nat.le_succ _))
        · refine RD.ofRow hnh (by simp) hroom hall (fun k c hk => ?_) fun k hk hown => ?_
          · rw [flatD_append] at hk
            have hfl := flatD_length l hlsz'
            by_cases hkl : k < (flatD l).length
            · rw [List.getElem?_append_left hkl] at hk
              obtain ⟨v, hv⟩ := getSome (l := zs) (i := k) (by rw [hzsr.1]; exact hkl)
              have hne : l ≠ [] := by intro h; subst h; simp [flatD] at hkl
              obtain ⟨b1, o1, hb1, hc1⟩ := hzcell hne
              cases hb1
              have hc2 := (hc1 k v hv).1
              rw [cell_of_heap hh] at hc2
              refine ⟨v, ?_, (hzsr.2 k v c hv hk).stays hs, hz1 v (List.mem_of_getElem? hv)⟩
              rw [hlow _ (by omega)]
              exact hc2
            · rw [List.getElem?_append_right (by omega)] at hk
              obtain ⟨v, hv⟩ := getSome (l := vs) (i := k - (flatD l).length) (by rw [hxr.1]; exact (List.getElem?_eq_some_iff.1 hk).1)
              refine ⟨v, ?_, (hxr.2 _ v c hv hk).stays hs, hv1 v (List.mem_of_getElem? hv)⟩
              have := hmid _ v hv
              rw [hfl] at this hkl
              rw [show o + k = o + l.length * cx.P.cellsOf e + (k - l.length * cx.P.cellsOf e) by omega]
              exact this
          · rcases hown with hfr | ⟨j, q, hj, hq⟩
            · exact hi.frame id _ b _ ho ⟨hb, Nat.le_refl _⟩ _ hfr
            by_cases hjid : j = id
            · subst hjid
              rw [hnew] at hj; cases hj
              have h2 : (μ j).f + vs.length ≤ o + k := by simpa [setMu, lo] using hq.2
              rw [Nat.add_mul] at hk
              omega
            · rw [hother j hjid] at hj
              exact hjid (hi.tailOwn ho hb hj ((owns_congr (by simp [setMu, hjid]) q _ _).1 hq))
        · simp only [setMu, lo, if_true]
          rw [Nat.add_mul, hxl]; omega
  · -- a new array
    have hgrow : cap < l.length + 1 := by omega
    have hfz : (Builtin.firstCells (cx.P.cellsOf e) l.length (.slice base l.length cap)).run cx.P w.drew = .ok zs.toArray w.drew := by
      by_cases he : l = []
      · subst he
        have : zs = [] := by simpa using hzl
        subst this
        cases base with
        | none => rfl
        | some a => simp only [Builtin.firstCells, List.length_nil, Nat.zero_mul]; rfl
      · obtain ⟨b, o, rfl, hc⟩ := hzcell he
        simp only [Builtin.firstCells]
        have := run_loadCells_list (P := cx.P) w.drew ⟨b, o, none⟩ zs (fun j x hx => by rw [addr_add]; exact (hc j x hx).1)
        rw [hzl] at this
        exact this
    obtain ⟨c, hc, hrun⟩ := run_append_grow (ty := ty) hu hti hzv hty hu' hd' hlen hgrow hle hby hfz (hfx0 w.drew drew_stays)
    generalize hncs0 : zs.toArray ++ xs0.toArray ++ Builtin.zeroCells zv.cells (c - (l.length + 1)) = ncs0 at hrun
    generalize hncs : zs.toArray ++ vs.toArray ++ Builtin.zeroCells zv.cells (c - (l.length + 1)) = ncs
    let lo : Lo := ⟨some w.heap.size, (l.length + 1) * cx.P.cellsOf e, c * cx.P.cellsOf e, e⟩
    have hsize : ncs.size = c * cx.P.cellsOf e := by
      rw [← hncs]
      simp only [Array.size_append, List.size_toArray, zeroCells_length, hzl, hxl, hzc]
      have : c = l.length + 1 + (c - (l.length + 1)) := by omega
      rw [this]
      simp only [Nat.add_mul, Nat.add_sub_cancel_left]
    have hsize0 : ncs0.size = c * cx.P.cellsOf e := by
      rw [← hncs0]
      simp only [Array.size_append, List.size_toArray, zeroCells_length, hzl, hxl0, hzc]
      have : c = l.length + 1 + (c - (l.length + 1)) := by omega
      rw [this]
      simp only [Nat.add_mul, Nat.add_sub_cancel_left]
    have hcmul : (l.length + 1) * cx.P.cellsOf e ≤ c * cx.P.cellsOf e := Nat.mul_le_mul_right _ hc
    rw [Nat.add_mul] at hcmul
    have hst := run_storeCells_fr (P := cx.P) w.heap.size (0 + l.length * cx.P.cellsOf e) e (0, 0) vs 0 ncs0 (w.drew.alloc (.cells ncs0 e)) (alloc_new (w := w.drew)) (by rw [hsize0, hxl]; omega) (.inl rfl) hv1
    simp only [Nat.add_zero, Nat.zero_add] at hst
    have hsame : (ncs0.toList.take (l.length * cx.P.cellsOf e) ++ vs ++ ncs0.toList.drop (l.length * cx.P.cellsOf e + vs.length)).toArray = ncs := by
      rw [← hncs0, ← hncs]
      apply Array.ext'
      simp only [Array.toList_append]
      congr 1
      · congr 1
        rw [List.append_assoc, List.take_append_of_le_length (by omega), List.take_of_length_le (by omega)]
      · rw [List.drop_append, List.drop_eq_nil_of_le (by simp; omega), List.nil_append]
        have : l.length * cx.P.cellsOf e + vs.length - (zs ++ xs0).length = 0 := by simp; omega
        rw [this, List.drop_zero]
    rw [hsame] at hst
    have hws : (w.drew.alloc (.cells ncs0 e)).setRow w.heap.size ncs = w.drew.alloc (.cells ncs e) := by
      unfold World.setRow World.alloc
      congr 1
      apply Array.ext_getElem?
      intro k
      simp only [Array.getElem?_modify, Array.getElem?_push]
      have hsd : w.drew.heap.size = w.heap.size := rfl
      by_cases hk : k = w.heap.size
      · subst hk; simp [hsd]
      · simp [hsd, hk, Ne.symm hk]
    rw [hws] at hst
    have hnh : (w.drew.alloc (.cells ncs e)).heap[w.heap.size]? = some (.cells ncs e (0, 0)) := alloc_new (w := w.drew)
    have hold : ∀ b, b < w.heap.size → (w.drew.alloc (.cells ncs e)).heap[b]? = w.heap[b]? := fun b hb => alloc_old (w := w.drew) b hb
    have hup : Upd cx w σ μ (w.drew.alloc (.cells ncs e)) (applyDe σ [(id, Ob.tok (l.length + 1))]) (setMu μ id lo) [id] := {
      os := rfl, output := rfl, size := by simp,
      blk := fun b' hb' _ => hold b' hb',
      cell := fun b' k v _ hc => by
        have := hold b' (lt_of_cell hc)
        unfold World.cell? at hc ⊢
        simp only at hc ⊢
        rw [this]
        exact hc,
      fr := rfl, same := fun j hj => by
        have hj : j ≠ id := by simpa using hj
        exact ⟨hother j hj, by simp [setMu, hj]⟩,
      own := fun j hj q hq b' k hown hlt => by
        simp at hj; subst hj
        rw [hnew] at hq; cases hq
        have h1 : w.heap.size = b' := by simpa [setMu, lo] using hown.1
        omega,
      still := fun j hj q hq => by
        simp at hj; subst hj
        rw [ho] at hq; cases hq
        rw [hnew]
        exact ⟨by omega, fun h => by omega⟩,
      apart := fun j hj j' hj' _ _ _ _ _ _ _ _ _ => by simp at hj hj'; rw [hj, hj'] }
    have hs := hup.goes.stays' hi
    have hall2 : ∀ w2 : World, w2.heap[w.heap.size]? = (w.drew.alloc (.cells ncs0 e)).heap[w.heap.size]? → (storeCells ⟨w.heap.size, 0 + l.length * cx.P.cellsOf e, none⟩ vs).run cx.P w2 = .ok () (w2.setRow w.heap.size ncs) := by
      intro w2 h2
      have h3 : w2.heap[w.heap.size]? = some (.cells ncs0 e (0, 0)) := h2.trans (alloc_new (w := w.drew))
      have := run_storeCells_fr (P := cx.P) w.heap.size (0 + l.length * cx.P.cellsOf e) e (0, 0) vs 0 ncs0 w2 h3 (by rw [hsize0, hxl]; omega) (.inl rfl) hv1
      simp only [Nat.add_zero, Nat.zero_add] at this
      rw [hsame] at this
      rw [Nat.zero_add]
      exact this
    refine ⟨w.heap.size, 0, c, _, _, lo, hrun, by rw [Nat.zero_add]; exact hst, hup, fun j hj o' ho' => ?_, ?_, rfl, ncs, hws.symm, hall2⟩
    · simp at hj; subst hj
      rw [hnew] at ho'; cases ho'
      intro b' hb'
      have hbb : w.heap.size = b' := by simpa [setMu, lo] using hb'
      subst hbb
      exact ⟨ncs, e, (0, 0), hnh, by simp [setMu, lo], by simp [setMu, lo, hsize], .inl rfl⟩
    · refine .slm hsz ?_ hnew (by simp) fun _ => tail_mk hsz (by simp [setMu, lo]) (by simp [setMu, lo]) (by simp [setMu, lo]) hc (by simpa [setMu, lo] using hT.o (Nat.succ_pos l.length))
      refine RD.ofRow hnh (by simp) hc hall (fun k c' hk => ?_) fun k hk hown => ?_
      · rw [flatD_append] at hk
        rw [Nat.zero_add]
        by_cases hkl : k < (flatD l).length
        · rw [List.getElem?_append_left hkl] at hk
          obtain ⟨v, hv⟩ := getSome (l := zs) (i := k) (by rw [hzsr.1]; exact hkl)
          refine ⟨v, ?_, (hzsr.2 k v c' hv hk).stays hs, hz1 v (List.mem_of_getElem? hv)⟩
          have hkz := (List.getElem?_eq_some_iff.1 hv).1
          rw [← hncs, Array.getElem?_append_left (by simp; omega), Array.getElem?_append_left (by simpa using hkz)]
          simpa using hv
        · rw [List.getElem?_append_right (by omega)] at hk
          obtain ⟨v, hv⟩ := getSome (l := vs) (i := k - (flatD l).length) (by rw [hxr.1]; exact (List.getElem?_eq_some_iff.1 hk).1)
          refine ⟨v, ?_, (hxr.2 _ v c' hv hk).stays hs, hv1 v (List.mem_of_getElem? hv)⟩
          have hkx := (List.getElem?_eq_some_iff.1 hv).1
          have hzf := hzsr.1
          rw [← hncs, Array.getElem?_append_left (by simp; omega), Array.getElem?_append_right (by simp; omega)]
          simp only [List.size_toArray, hzf]
          simpa using hv
      · rcases hown with hfr | ⟨j, q, hj, hq⟩
        · exact absurd (hi.frLt _ _ hfr) (by omega)
        by_cases hjid : j = id
        · subst hjid
          rw [hnew] at hj; cases hj
          have h2 : (l.length + 1) * cx.P.cellsOf e ≤ 0 + k := by simpa [setMu, lo] using hq.2
          omega
        · rw [hother j hjid] at hj
          have := owns_lt hi hj ((owns_congr (by simp [setMu, hjid]) q _ _).1 hq)
          omega


end
end Go.Vai
end

section
namespace Go.Vai

section
variable {R : Type} {P : Program} {cx : Cx} {w w' : World} {σ : St} {μ μ' : Mu}

/-- A slice that may be appended to, without memory of its own. -/
theorem bareUpd {id : Nat} {ob : Ob} (hf : getA σ id = none) : Upd cx w σ μ w (applyDe σ [(id, ob)]) (setMu μ id ⟨none, 0, 0, 0⟩) [id] :=
  newUpd (δ := [(id, ob)]) rfl rfl (Nat.le_refl _) (fun _ _ => rfl) (by simp [freshAll, hf]) rfl (fun j hj => by simp at hj; simp [setMu, hj])
    (fun j hj b hb => by simp at hj; subst hj; simp [setMu] at hb) (fun j hj j' hj' b _ _ => by simp at hj hj'; rw [hj, hj'])

theorem bare_ok {id sz cap : Nat} {base : Option Addr} (hf : getA σ id = none) (hc : cap = 0) (hb : sz < 1048576 ∨ base = none) :
    (∀ j ∈ [id], ∀ o', getA (applyDe σ [(id, .tok 0)]) j = some o' → ObOk w (applyDe σ [(id, .tok 0)]) (setMu μ id ⟨none, 0, 0, 0⟩) j o') ∧
      RV w (applyDe σ [(id, .tok 0)]) (setMu μ id ⟨none, 0, 0, 0⟩) (.slice base 0 cap) (.sl sz [] id) := by
  refine ⟨fun j hj o' ho' => ?_, ?_⟩
  · simp at hj; subst hj
    simp only [applyDe, getA_putA, if_pos] at ho'
    cases ho'
    intro b hb
    simp [setMu] at hb
  · exact .sl _ _ _ id 0 (.sl0 _ _ _) (by simp [applyDe, getA_putA]) (Nat.le_refl _) fun _ => .inl ⟨hc, rfl, by simp [setMu], hb⟩

/-- What is appended to nil. -/
theorem append_nil_ok {t t' e ty id : Nat} {sz' : Nat} {ys : List D} {x' : Value} {x : V} {z : List D} (hi : Inv cx w σ μ) (hx : RV w σ μ x' x)
    (hd : dataOf x (fun a b => some (a, b)) = some (sz', ys))
    (hu : cx.P.underlying t = some (.slice e)) (hz : zeroOf cx.P e = some z) (ht' : (match cx.P.underlying t' with | some (.int _) => false | some _ => true | none => false) = true)
    (hsz' : sz' = cx.P.cellsOf e ∨ ys = []) (hby : cx.P.bytesOf e ≤ 4096) (hf : getA σ id = none) (hle : ys.length ≤ 4294967296) (hsm : cx.P.cellsOf e < 1048576) :
    ∃ v' w' lo, (Builtin.append_ #[t, t'] ty #[.slice none 0 0, x']).run cx.P w = .ok v' w' ∧ Upd cx w σ μ w' (applyDe σ [(id, .tok ys.length)]) (setMu μ id lo) [id] ∧
      (∀ j ∈ [id], ∀ o', getA (applyDe σ [(id, .tok ys.length)]) j = some o' → ObOk w' (applyDe σ [(id, .tok ys.length)]) (setMu μ id lo) j o') ∧
      RV w' (applyDe σ [(id, .tok ys.length)]) (setMu μ id lo) v' (.sl (cx.P.cellsOf e) ys id) := by
  obtain ⟨sz0, ys0, h0, hlen, hcells⟩ := dataOf_row (P := cx.P) hx hd
  cases h0
  obtain ⟨hysz, xs, hfx, hxr, hx1⟩ := hcells _ hsz'
  obtain ⟨i, zv, hti, hzv, hty, ha, hzr, hzone, hzlen, hzfit⟩ := zeroOf_some (w := w) hz
  obtain ⟨d', hu', hd'⟩ := not_int ht'
  have hzc : zv.cells.size = cx.P.cellsOf e := by have := (hzr (OwnOf σ μ)).1; simp at this; omega
  have hxl : xs.length = ys.length * cx.P.cellsOf e := by rw [hxr.1, flatD_length ys hysz]
  by_cases hys : ys = []
  · subst hys
    have hxs : xs = [] := by simpa using hxl
    subst hxs
    obtain ⟨g1, g2⟩ := bare_ok (w := w) (μ := μ) (sz := cx.P.cellsOf e) (base := none) (cap := 0) hf rfl (.inr rfl)
    refine ⟨.slice none (0 + 0) 0, w, ⟨none, 0, 0, 0⟩, ?_, bareUpd hf, g1, g2⟩
    exact run_append_in hu hty hu' hd' hlen (hfx w (Stays.refl _ _)) (by simp) rfl
  · have hpos : 0 < ys.length := List.length_pos_iff.2 hys
    obtain ⟨c, hc, hrun⟩ := run_append_grow (ty := ty) (ln := 0) (cap := 0) (base := none) (ys := []) hu hti hzv hty hu' hd' hlen (by omega) (by omega) hby rfl (hfx w.drew drew_stays)
    simp only [Nat.zero_add] at hc hrun
    generalize hncs : (List.toArray [] : Array Value) ++ xs.toArray ++ Builtin.zeroCells zv.cells (c - ys.length) = ncs at hrun
    let lo : Lo := ⟨some w.heap.size, ys.length * cx.P.cellsOf e, c * cx.P.cellsOf e, e⟩
    have hsize : ncs.size = c * cx.P.cellsOf e := by
      rw [← hncs]
      simp only [Array.size_append, List.size_toArray, zeroCells_length, hxl, hzc, List.length_nil, Nat.zero_add]
      have : c = ys.length + (c - ys.length) := by omega
      rw [this]
      simp only [Nat.add_mul, Nat.add_sub_cancel_left]
    have hnh : (w.drew.alloc (.cells ncs e)).heap[w.heap.size]? = some (.cells ncs e (0, 0)) := alloc_new (w := w.drew)
    have hup : Upd cx w σ μ (w.drew.alloc (.cells ncs e)) (applyDe σ [(id, .tok ys.length)]) (setMu μ id lo) [id] :=
      newUpd (δ := [(id, .tok ys.length)]) rfl rfl (by simp) (fun b hb => alloc_old (w := w.drew) b hb) (by simp [freshAll, hf]) rfl (fun j hj => by simp at hj; simp [setMu, hj])
        (fun j hj b hb => by simp at hj; subst hj; simp [setMu, lo] at hb; omega) (fun j hj j' hj' b _ _ => by simp at hj hj'; rw [hj, hj'])
    have hs := hup.goes.stays' hi
    have hnew : getA (applyDe σ [(id, Ob.tok ys.length)]) id = some (.tok ys.length) := by simp [applyDe, getA_putA]
    refine ⟨_, _, lo, hrun, hup, fun j hj o' ho' => ?_, ?_⟩
    · simp at hj; subst hj
      rw [hnew] at ho'; cases ho'
      intro b' hb'
      have hbb : w.heap.size = b' := by simpa [setMu, lo] using hb'
      subst hbb
      exact ⟨ncs, e, (0, 0), hnh, by simp [setMu, lo], by simp [setMu, lo, hsize], .inl rfl⟩
    · refine .slm (szN_lt hsm) ?_ hnew (Nat.le_refl _) fun _ => tail_mk (szN_lt hsm) (by simp [setMu, lo]) (by simp [setMu, lo]) (by simp [setMu, lo]) hc (.inl hsm)
      refine RD.ofRow hnh rfl hc hysz (fun k c' hk => ?_) fun k hk hown => ?_
      · obtain ⟨v, hv⟩ := getSome (l := xs) (i := k) (by rw [hxr.1]; exact (List.getElem?_eq_some_iff.1 hk).1)
        refine ⟨v, ?_, (hxr.2 _ v c' hv hk).stays hs, hx1 v (List.mem_of_getElem? hv)⟩
        have hkx := (List.getElem?_eq_some_iff.1 hv).1
        rw [Nat.zero_add, ← hncs, Array.getElem?_append_left (by simpa using hkx)]
        simpa using hv
      · rcases hown with hfr | ⟨j, q, hj, hq⟩
        · exact absurd (hi.frLt _ _ hfr) (by omega)
        by_cases hjid : j = id
        · subst hjid
          rw [hnew] at hj; cases hj
          have h2 : ys.length * cx.P.cellsOf e ≤ 0 + k := by simpa [setMu, lo] using hq.2
          omega
        · have hj' : getA σ j = some q := by simpa [applyDe, getA_putA, Ne.symm hjid] using hj
          have := owns_lt hi hj' ((owns_congr (by simp [setMu, hjid]) q _ _).1 hq)
          omega

theorem run_sliceAt_str {t : Nat} {s : List UInt8} {lo hi : Option Value} {l h : Nat} (hu : P.underlying t = some .string) (hr : (Instr.sliceBounds false s.length s.length lo hi none).run P w = .ok (l, h, s.length) w) :
    (Instr.sliceAt t (.string (strB s)) lo hi none).run P w = .ok (.string ((strB s).extract l h)) w := by
  unfold Instr.sliceAt Instr.slice
  simp [run_underlying hu, strB_size, hr]

theorem run_sliceAt_sl {t e : Nat} {base : Option Addr} {n cap : Nat} {lo hi mx : Option Value} {l h m : Nat} (hu : P.underlying t = some (.slice e)) (hty : hasTy P e = true)
    (hr : (Instr.sliceBounds true n cap lo hi mx).run P w = .ok (l, h, m) w) :
    (Instr.sliceAt t (.slice base n cap) lo hi mx).run P w = .ok (.slice (if m = l then base else base.map (·.add (l * P.cellsOf e))) (h - l) (m - l)) w := by
  unfold Instr.sliceAt Instr.slice
  simp [run_underlying hu, hr, run_sizeTy hty]

/-- A piece of a slice or a text. -/
theorem sliceV_ok {site t : Nat} {x : V} {x' : Value} {lo hi mx : Option V} {lo' hi' mx' : Option Value} {K : V → De → List Nat → Option R} {r : R} (hx : RV w σ μ x' x)
    (hlo : optRV w σ μ lo lo') (hhi : optRV w σ μ hi hi') (hmx : optRV w σ μ mx mx') (h : sliceV cx σ site t x lo hi mx K = some r) :
    ∃ v δ fp, K v δ fp = some r ∧ ∃ v' μ' ids, (Instr.sliceAt t x' lo' hi' mx').run cx.P w = .ok v' w ∧ Upd cx w σ μ w (applyDe σ δ) μ' ids ∧
      (∀ j ∈ ids, ∀ o', getA (applyDe σ δ) j = some o' → ObOk w (applyDe σ δ) μ' j o') ∧ RV w (applyDe σ δ) μ' v' v := by
  have plain : ∀ {v : V} {v' : Value}, K v [] [] = some r → (Instr.sliceAt t x' lo' hi' mx').run cx.P w = .ok v' w → RV w σ μ v' v →
      ∃ v δ fp, K v δ fp = some r ∧ ∃ v' μ' ids, (Instr.sliceAt t x' lo' hi' mx').run cx.P w = .ok v' w ∧ Upd cx w σ μ w (applyDe σ δ) μ' ids ∧
      (∀ j ∈ ids, ∀ o', getA (applyDe σ δ) j = some o' → ObOk w (applyDe σ δ) μ' j o') ∧ RV w (applyDe σ δ) μ' v' v := by
    intro v v' hK hr hv
    refine ⟨v, [], [], hK, v', μ, [], hr, ?_, by simp, hv⟩
    exact { os := rfl, output := rfl, size := Nat.le_refl _, blk := fun _ _ _ => rfl, cell := fun _ _ _ _ h => h, fr := rfl, same := fun _ _ => ⟨rfl, rfl⟩, own := by simp, still := by simp, apart := by simp }
  unfold sliceV at h
  split at h
  · rename_i hu
    split at h
    · rename_i s
      cases mx' with
      | some a => exact hmx.elim
      | none =>
        obtain rfl := hx.str_inv
        obtain ⟨a, b, h1, h2, hK, hr⟩ := bounds_run (P := cx.P) (b := false) hlo hhi (Nat.le_refl _) h
        refine plain hK (run_sliceAt_str hu hr) ?_
        rw [strB_extract]
        exact .str' _
    · cases h
  · rename_i e hu
    have hty := (must_some h).1
    replace h := (must_some h).2
    obtain ⟨sz, xs, hrd, h1⟩ := dataS_some hx h
    have hsz := (must_some h1).1
    replace h1 := (must_some h1).2
    have hsz : sz = cx.P.cellsOf e ∨ xs = [] := by
      rw [Bool.or_eq_true] at hsz
      rcases hsz with g | g
      · exact .inl (Nat.eq_of_beq_eq_true g)
      · exact .inr (by simpa using g)
    have hrd := hrd.sl_sz hsz
    have hcap : ∃ base cap, x' = .slice base xs.length cap ∧ xs.length ≤ cap := by
      obtain ⟨base, n, cap, rfl, hn, hc, _⟩ := hrd.piece (Nat.le_refl xs.length) (Nat.le_refl _)
      subst hn
      exact ⟨base, cap, rfl, hc⟩
    obtain ⟨base, cap, rfl, hcap⟩ := hcap
    split at h1
    · cases mx' with
      | some a => exact hmx.elim
      | none =>
        obtain ⟨a, b, g1, g2, hK, hr⟩ := bounds_run (P := cx.P) (b := true) hlo hhi hcap h1
        refine plain hK (run_sliceAt_sl hu hty hr) ?_
        obtain ⟨base', n, cap', heq, hn, hc, hp⟩ := hrd.piece g1 g2
        cases heq
        exact .d _ _ (hp cap hc)
    · rename_i m
      have hhs := (must_some h1).1
      replace h1 := (must_some h1).2
      cases mx' with
      | none => exact hmx.elim
      | some mv =>
        rcases opt_bound (v' := some mv) hmx h1 with ⟨hn, _, _⟩ | ⟨k, i, hmv, m0, m1, h2⟩
        · cases hn
        cases hmv
        cases hi with
        | none => cases hhs
        | some hiv =>
          cases hi' with
          | none => exact hhi.elim
          | some hv =>
            rcases opt_bound (v' := some hv) hhi h2 with ⟨hn, _, _⟩ | ⟨k2, i2, hhv, q0, q1, h3⟩
            · cases hn
            cases hhv
            have hb : ∃ a, a ≤ i2.toNat ∧ (bif Nat.beq i.toNat a then must (freshAll σ [(site, .tok 0)] && Nat.blt (cx.P.cellsOf e) 1048576) (K (.sl (cx.P.cellsOf e) [] site) [(site, .tok 0)] [site])
                else K (.d (.sl (cx.P.cellsOf e) ((xs.take i2.toNat).drop a))) [] []) = some r ∧ (Instr.sliceBounds true xs.length cap lo' (some (.int k2 i2)) (some (.int k i))).run cx.P w = .ok (a, i2.toNat, i.toNat) w := by
              have c1 : (Instr.sliceBound (.int k i) cap .slice3Acap).run cx.P w = .ok i.toNat w := run_sliceBound m0 (by omega)
              have c2 : (Instr.sliceBound (.int k2 i2) i.toNat .slice3B).run cx.P w = .ok i2.toNat w := run_sliceBound q0 q1
              rcases opt_bound hlo h3 with ⟨rfl, _, h4⟩ | ⟨k3, i3, rfl, r0, r1, h4⟩
              · exact ⟨0, Nat.zero_le _, h4, by simp [Instr.sliceBounds, c1, c2]⟩
              · exact ⟨i3.toNat, by omega, h4, by simp [Instr.sliceBounds, c1, c2, run_sliceBound r0 r1]⟩
            obtain ⟨a, ha, h4, hr⟩ := hb
            have hle : i2.toNat ≤ xs.length := by omega
            obtain ⟨base', n, cap', heq, hn, hc, hp⟩ := hrd.piece ha hle
            cases heq
            cases hw : Nat.beq i.toNat a
            · rw [hw, cond_false] at h4
              exact plain h4 (run_sliceAt_sl hu hty hr) (.d _ _ (hp i.toNat (by omega)))
            · rw [hw, cond_true] at h4
              have hia := Nat.eq_of_beq_eq_true hw
              obtain ⟨hf, hK⟩ := must_some h4
              rw [Bool.and_eq_true] at hf
              obtain ⟨hf, hsm⟩ := hf
              have h0 : i2.toNat - a = 0 := by omega
              obtain ⟨g1, g2⟩ := bare_ok (w := w) (μ := μ) (sz := cx.P.cellsOf e) (base := if i.toNat = a then base else base.map (·.add (a * cx.P.cellsOf e))) (cap := i.toNat - a) (fresh_none hf) (by omega) (.inl (Nat.le_of_ble_eq_true hsm))
              have hr' := run_sliceAt_sl (base := base) hu hty hr
              rw [h0] at hr'
              exact ⟨_, _, _, hK, _, _, [site], hr', bareUpd (fresh_none hf), g1, g2⟩
  · cases h


/-- A slice of bytes, read as one that a text may share. -/
theorem freeze_ok {t e id n : Nat} {sz : Nat} {l : List D} {x' : Value} (hi : Inv cx w σ μ) (hx : RV w σ μ x' (.sl sz l id)) (hl : l ≠ []) (ho : getA σ id = some (.tok n)) (hn : l.length = n)
    (hu : cx.P.underlying t = some (.slice e)) (he : cx.P.underlying e = some (.int .u8)) :
    ∃ w', (convert t t x').run cx.P w = .ok x' w' ∧ Upd cx w σ μ w' (applyDe σ [(id, .tok n)]) μ [id] ∧
      (∀ j ∈ [id], ∀ o', getA (applyDe σ [(id, .tok n)]) j = some o' → ObOk w' (applyDe σ [(id, .tok n)]) μ j o') ∧ RV w' (applyDe σ [(id, .tok n)]) μ x' (.sl sz l id) := by
  have hx0 := hx
  cases hx with | sl _ _ _ _ n' hrd ht hn' htail => ?_
  rw [ho] at ht; cases ht
  have htail := htail hn
  obtain ⟨base, cap, rfl⟩ := hrd.slice_inv
  have hne : l.length ≠ 0 := fun h => hl (List.eq_nil_of_length_eq_zero h)
  rcases htail with ⟨_, h0, _, _⟩ | ⟨b, o, hbase, hb, hf, hend, hnc, _⟩
  · exact absurd h0 hne
  obtain rfl := hbase
  obtain ⟨cs, el, fr, hh, hel, hcs, hfr⟩ := hi.ob id _ ho b hb
  have hlt := lt_of_heap hh
  let w' := w.freeze ⟨b, cs.size, none⟩ 1
  have hhb : ∃ fr', w'.heap[b]? = some (.cells cs el fr') ∧ cs.size ≤ fr'.1 := by
    simp only [w', World.freeze]
    rw [if_neg (by omega)]
    simp only [Array.getElem?_modify, if_true, hh, Option.map_some]
    obtain ⟨lo, hi'⟩ := fr
    refine ⟨_, rfl, ?_⟩
    split
    · exact Nat.le_refl _
    · rename_i hne'
      rcases hfr with h | h
      · cases h; simp at hne'
      · simp only at h ⊢; omega
  have hho : ∀ b', b' ≠ b → w'.heap[b']? = w.heap[b']? := fun b' hb' => by
    simp only [w', World.freeze]
    rw [if_neg (by omega)]
    simp [Array.getElem?_modify, Ne.symm hb']
  have hsz : w'.heap.size = w.heap.size := by
    simp only [w', World.freeze]
    rw [if_neg (by omega)]
    simp
  have hcell : ∀ b' k, w'.cell? ⟨b', k, none⟩ = w.cell? ⟨b', k, none⟩ := fun b' k => by
    by_cases hbb : b' = b
    · subst hbb
      obtain ⟨fr', h1, _⟩ := hhb
      rw [cell_of_heap h1, cell_of_heap hh]
    · unfold World.cell?
      simp only
      rw [hho b' hbb]
  have hnew : getA (applyDe σ [(id, Ob.tok n)]) id = some (.tok n) := by simp [applyDe, getA_putA]
  have hup : Upd cx w σ μ w' (applyDe σ [(id, .tok n)]) μ [id] := {
    os := by simp only [w', World.freeze]; split <;> rfl
    output := by simp only [w', World.freeze]; split <;> rfl
    size := by omega
    blk := fun b' _ h => hho b' fun e => h id (by simp) _ ho (μ id).f (by rw [e]; exact ⟨hb, Nat.le_refl _⟩)
    cell := fun b' k v _ h => (hcell b' k).trans h
    fr := rfl
    same := fun j hj => by
      have : id ≠ j := fun e => hj (by simp [e])
      exact ⟨by simp [applyDe, getA_putA, this], rfl⟩
    own := fun j hj q hq b' k hown _ => by
      simp at hj; subst hj
      rw [hnew] at hq; cases hq
      exact ⟨_, ho, hown⟩
    still := fun j hj q hq => by
      simp at hj; subst hj
      rw [ho] at hq; cases hq
      rw [hnew]
      exact ⟨Nat.le_refl _, fun _ => rfl⟩
    apart := fun j hj j' hj' _ _ _ _ _ _ _ _ _ => by simp at hj hj'; rw [hj, hj'] }
  refine ⟨w', ?_, hup, fun j hj o' ho' => ?_, ?_⟩
  · unfold convert
    simp only [Sem.run_bind, run_underlying hu, Result.andThen_ok, run_underlying he, beq_self_eq_true]
    unfold markStringish
    simp [World.shape?, hh, w']
  · simp at hj; subst hj
    rw [hnew] at ho'; cases ho'
    intro b' hb'
    rw [hb] at hb'; cases hb'
    obtain ⟨fr', h1, h2⟩ := hhb
    exact ⟨cs, el, fr', h1, hel, hcs, .inr h2⟩
  · exact hx0.stays (hup.goes.stays' hi) fun j hj o ho => hup.stillAll j o ho

end
end Go.Vai
end

section
namespace Go.Vai

theorem posIn_atIn : ∀ {ren : List Nat} {i : Nat}, i ∈ ren → atIn ren (posIn ren i) = i ∧ posIn ren i < ren.length
  | j :: r, i, h => by
    by_cases e : j = i
    · subst e; simp [posIn, atIn]
    · have : i ∈ r := by cases h with | head => exact absurd rfl e | tail _ h => exact h
      obtain ⟨h1, h2⟩ := posIn_atIn this
      simp only [posIn, beqF e, cond_false, atIn, List.length_cons]
      exact ⟨h1, by omega⟩

theorem nodupB_spec : ∀ {l : List Nat}, nodupB l = true → l.Nodup
  | [], _ => by simp
  | i :: r, h => by
    simp only [nodupB, Bool.and_eq_true] at h
    have h1 : ¬ i ∈ r := by simpa using h.1
    exact List.nodup_cons.2 ⟨h1, nodupB_spec h.2⟩

theorem atIn_mem : ∀ {ren : List Nat} {k : Nat}, k < ren.length → ren[k]? = some (atIn ren k)
  | j :: r, 0, _ => rfl
  | j :: r, k + 1, h => by simpa [atIn] using atIn_mem (ren := r) (k := k) (by simpa using h)

theorem posIn_of_get : ∀ {ren : List Nat} {k i : Nat}, ren.Nodup → ren[k]? = some i → posIn ren i = k
  | j :: r, 0, i, hn, h => by simp at h; subst h; simp [posIn]
  | j :: r, k + 1, i, hn, h => by
    have hn' := List.nodup_cons.1 hn
    have hr : r[k]? = some i := by simpa using h
    have hne : ¬ j = i := fun e => hn'.1 (e ▸ List.mem_of_getElem? hr)
    simp [posIn, beqF hne, posIn_of_get hn'.2 hr]

mutual
theorem V.ren_ids (f : Nat → Nat) : ∀ (v : V), (v.ren f).ids = v.ids.map f
  | .d x => rfl
  | .eptr x o => rfl
  | .gptr g o => rfl
  | .ptr id o => rfl
  | .sl s l id => rfl
  | .slo id o n => rfl
  | .map id => rfl
  | .agg l => by simp only [V.ren, V.ids]; exact V.renL_ids f l
  | .func g l => by simp only [V.ren, V.ids]; exact V.renL_ids f l
  | .tup l => by simp only [V.ren, V.ids]; exact V.renL_ids f l
  | .iface t v => by simp only [V.ren, V.ids]; exact V.ren_ids f v
theorem V.renL_ids (f : Nat → Nat) : ∀ (l : List V), V.idsL (V.renL f l) = (V.idsL l).map f
  | [] => rfl
  | v :: r => by simp only [V.renL, V.idsL, List.map_append, V.ren_ids f v, V.renL_ids f r]
end

theorem V.renL_map (f : Nat → Nat) : ∀ (l : List V), V.renL f l = l.map (V.ren f)
  | [] => rfl
  | v :: r => by simp [V.renL, V.renL_map f r]

theorem V.ren_cells (f : Nat → Nat) (v : V) : (v.ren f).cells = v.cells.map (V.ren f) := by
  cases v with
  | d x => cases x <;> simp [V.ren, V.cells]
  | agg l => simp [V.ren, V.cells, V.renL_map]
  | _ => simp [V.ren, V.cells]

theorem V.cells_ids {v c : V} (h : c ∈ v.cells) {i : Nat} (hi : i ∈ c.ids) : i ∈ v.ids := by
  cases v with
  | d x => cases x <;> simp [V.cells] at h <;> first | (subst h; exact hi) | (obtain ⟨y, _, rfl⟩ := h; exact hi)
  | agg l => exact V.idsL_mem h hi
  | _ => simp [V.cells] at h; subst h; exact hi

theorem V.ren_tup (f : Nat → Nat) (v : V) : (v.ren f).tupV = v.tupV := by cases v <;> rfl

section
variable {cx : Cx} {w w' : World} {σ τ : St} {μ ν : Mu}

/-- Of the same kind, and as long. -/
def compatOb : Option Ob → Option Ob → Prop
  | some (.val ..), some (.val ..) => True
  | some (.row l), some (.row l') => l'.length = l.length
  | some (.tok n), some (.tok n') => n' = n
  | some (.map ..), some (.map ..) => True
  | none, _ => True
  | _, _ => False

theorem compatOb.ren (f : Nat → Nat) (o : Option Ob) : compatOb o (o.map (Ob.ren f)) := by
  cases o with
  | none => trivial
  | some o => cases o <;> simp [compatOb, Ob.ren]

/-- The same under other names. -/
theorem RV.rename (f : Nat → Nat) (hs : Stays w (OwnOf σ μ) w (OwnOf τ ν)) {v : Value} {x : V} (h : RV w σ μ v x) (hg : ∀ id ∈ x.ids, compatOb (getA σ id) (getA τ (f id)) ∧ ν (f id) = μ id) :
    RV w τ ν v (x.ren f) := by
  induction h with
  | d v x h => exact .d v x (h.stays hs)
  | ptr id off b hc hb =>
    obtain ⟨h1, h2⟩ := hg id (by simp [V.ids])
    refine .ptr _ off b ?_ (by rw [h2]; exact hb)
    cases ho : getA σ id with
    | none => rw [ho] at hc; exact hc.elim
    | some o =>
      rw [ho] at hc h1
      cases o <;> first
        | exact hc.elim
        | (cases ho' : getA τ (f id) with
           | none => rw [ho'] at h1; exact h1.elim
           | some o' => rw [ho'] at h1; cases o' <;> first | exact h1.elim | trivial)
  | eptr x b o off xs hc h => exact .eptr x b o off xs (fun j hj => ⟨(hs.cell _ _ _ (hc j hj).2.1 (hc j hj).1).1, (hs.cell _ _ _ (hc j hj).2.1 (hc j hj).1).2, (hc j hj).2.2⟩) (fun j c hj => (h j c hj).stays hs)
  | gptr g off => exact .gptr g off
  | agg cs l hl ho _ ih =>
    simp only [V.ren, V.renL_map]
    refine .agg cs _ (by simpa using hl) ho fun i x y hx hy => ?_
    rw [List.getElem?_map, Option.map_eq_some_iff] at hy
    obtain ⟨z, hz, rfl⟩ := hy
    exact ih i x z hx hz fun id hid => hg id (V.idsL_mem (List.mem_of_getElem? hz) hid)
  | sl v sz l id n h ht hn he =>
    obtain ⟨h1, h2⟩ := hg id (by simp [V.ids])
    rw [ht] at h1
    have h1' : getA τ (f id) = some (.tok n) := by
      cases ho' : getA τ (f id) with
      | none => rw [ho'] at h1; exact h1.elim
      | some o' => rw [ho'] at h1; cases o' <;> first | exact h1.elim | (have h1 : _ = n := h1; rw [h1])
    refine .sl v sz l _ n (h.stays hs) h1' hn fun e => ?_
    have := he e
    unfold tail at this ⊢
    rw [h2]
    exact this
  | slo id off n cap b l hi hb hn hcap =>
    obtain ⟨h1, h2⟩ := hg id (by simp [V.ids])
    rw [hi] at h1
    cases ho' : getA τ (f id) with
    | none => rw [ho'] at h1; exact h1.elim
    | some o' =>
      rw [ho'] at h1
      cases o' <;> first | exact h1.elim | skip
      rename_i l'
      have h1 : l'.length = l.length := h1
      exact .slo _ off n cap b l' ho' (by rw [h2]; exact hb) (by omega) hcap
  | func g cs l hl _ ih =>
    simp only [V.ren, V.renL_map]
    refine .func g cs _ (by simpa using hl) fun i x y hx hy => ?_
    rw [List.getElem?_map, Option.map_eq_some_iff] at hy
    obtain ⟨z, hz, rfl⟩ := hy
    exact ih i x z hx hz fun id hid => hg id (V.idsL_mem (List.mem_of_getElem? hz) hid)
  | map id b ks vs hi hb =>
    obtain ⟨h1, h2⟩ := hg id (by simp [V.ids])
    rw [hi] at h1
    cases ho' : getA τ (f id) with
    | none => rw [ho'] at h1; exact h1.elim
    | some o' =>
      rw [ho'] at h1
      cases o' <;> first | exact h1.elim | exact .map _ b _ _ ho' (by rw [h2]; exact hb)
  | iface t v u _ ih => exact .iface t v _ (ih hg)
  | tup cs l hl _ ih =>
    simp only [V.ren, V.renL_map]
    refine .tup cs _ (by simpa using hl) fun i x y hx hy => ?_
    rw [List.getElem?_map, Option.map_eq_some_iff] at hy
    obtain ⟨z, hz, rfl⟩ := hy
    exact ih i x z hx hz fun id hid => hg id (V.idsL_mem (List.mem_of_getElem? hz) hid)

theorem RVs.rename (f : Nat → Nat) (hs : Stays w (OwnOf σ μ) w (OwnOf τ ν)) {vs : List Value} {l : List V} (h : RVs w σ μ vs l)
    (hg : ∀ id ∈ V.idsL l, compatOb (getA σ id) (getA τ (f id)) ∧ ν (f id) = μ id) : RVs w τ ν vs (V.renL f l) := by
  rw [V.renL_map]
  refine ⟨by simpa using h.1, fun i x y hx hy => ?_⟩
  rw [List.getElem?_map, Option.map_eq_some_iff] at hy
  obtain ⟨z, hz, rfl⟩ := hy
  exact (h.2 i x z hx hz).rename f hs fun id hid => hg id (V.idsL_mem (List.mem_of_getElem? hz) hid)

theorem owns_ren (f : Nat → Nat) (id : Nat) (o : Ob) (b i : Nat) : owns μ id (o.ren f) b i ↔ owns μ id o b i := by cases o <;> exact Iff.rfl

/-- An object under other names. -/
theorem ObOk.rename (f : Nat → Nat) (hs : Stays w (OwnOf σ μ) w (OwnOf τ ν)) {id : Nat} {o : Ob} (h : ObOk w σ μ id o) (hid : ν (f id) = μ id)
    (hg : ∀ j ∈ o.ids, compatOb (getA σ j) (getA τ (f j)) ∧ ν (f j) = μ j) : ObOk w τ ν (f id) (o.ren f) := by
  cases o with
  | val n v =>
    obtain ⟨b, cs, el, hb, hh, hn, ht, h1, hr, htag⟩ := h
    refine ⟨b, cs, el, by rw [hid]; exact hb, hh, hn, by rw [V.ren_tup]; exact ht, h1, ?_, htag⟩
    rw [V.ren_cells]
    refine ⟨by simpa using hr.1, fun i x y hx hy => ?_⟩
    rw [List.getElem?_map, Option.map_eq_some_iff] at hy
    obtain ⟨z, hz, rfl⟩ := hy
    exact (hr.2 i x z hx hz).rename f hs fun j hj => hg j (V.cells_ids (List.mem_of_getElem? hz) hj)
  | row l =>
    obtain ⟨b, cs, el, hb, hh, h1, hr⟩ := h
    exact ⟨b, cs, el, by rw [hid]; exact hb, hh, h1, hr.stays hs⟩
  | tok n =>
    intro b hb
    rw [hid] at hb ⊢
    exact h b hb
  | map ks vs =>
    obtain ⟨b, es, clock, hb, hh, hk, hv⟩ := h
    exact ⟨b, es, clock, by rw [hid]; exact hb, hh, hk.stays hs, hv.stays hs⟩

theorem getA_renSt (σ : St) (full : List Nat) : ∀ (ren : List Nat) (k j : Nat), (∀ i ∈ ren, ∃ o, getA σ i = some o) →
    getA (renSt σ full k ren) j = if k ≤ j then (ren[j - k]?).bind fun i => (getA σ i).map (Ob.ren (posIn full)) else none
  | [], k, j, _ => by simp [renSt, getA]
  | i :: r, k, j, h => by
    obtain ⟨o, ho⟩ := h i List.mem_cons_self
    have ih := getA_renSt σ full r (k + 1) j fun i hi => h i (List.mem_cons_of_mem _ hi)
    simp only [renSt, ho, getA]
    by_cases e : k = j
    · subst e; simp [ho]
    · simp only [beqF e, cond_false, ih]
      by_cases hlt : k + 1 ≤ j
      · have h2 : k ≤ j := by omega
        have h3 : j - k = (j - (k + 1)) + 1 := by omega
        simp [hlt, h2, h3]
      · have h2 : ¬ k ≤ j := by omega
        simp [hlt, h2]

theorem renSt_length (σ : St) (full : List Nat) : ∀ (ren : List Nat) (k : Nat), (∀ i ∈ ren, ∃ o, getA σ i = some o) → (renSt σ full k ren).length = ren.length
  | [], k, _ => rfl
  | i :: r, k, h => by
    obtain ⟨o, ho⟩ := h i List.mem_cons_self
    simp [renSt, ho, renSt_length σ full r (k + 1) fun i hi => h i (List.mem_cons_of_mem _ hi)]

/-- The objects are 0, 1, .. -/
def Canon (σ : St) : Prop := ∀ k o, getA σ k = some o → k < σ.length ∧ ∀ i ∈ o.ids, i < σ.length

/-- What a function's runs are good for. -/
def CallOk (cx : Cx) (call : Nat → List V → St → Option (Out × St)) : Prop :=
  ∀ f args σ out σ', call f args σ = some (out, σ') → ∀ w μ vs, Inv cx w σ μ → Canon σ → (∀ i ∈ V.idsL args, i < σ.length) → (∀ k, k < σ.length → ∃ o, getA σ k = some o) → RVs w σ μ vs args →
    (∃ fn, cx.P.funcs[f]? = some fn ∧ fn.body.isNone = false) ∧ (∀ k o, getA σ' k = some o → k < σ.length ∧ ∀ i ∈ o.ids, i < σ.length) ∧ (∀ i ∈ (match out with | .ret v => v.ids | .pan v => v.ids), i < σ.length) ∧
    Calls cx.P f vs.toArray w fun e w' => ∃ μ', After cx w σ μ w' σ' μ' ∧
      match out, e with
      | .ret v, .returned x => RV w' σ' μ' x v
      | .pan v, .panicked chain => ∃ x, chain = [{ v := x, recovered := false }] ∧ RV w' σ' μ' x v
      | _, _ => False

end
end Go.Vai
end

section
namespace Go.Vai

section
variable {R : Type} {cx : Cx} {w w' : World} {σ τ : St} {μ ν : Mu}

/-- Two objects have no block in common. -/
theorem Inv.blockApart (hi : Inv cx w σ μ) {id id' : Nat} {o o' : Ob} {b i i' : Nat} (ho : getA σ id = some o) (ho' : getA σ id' = some o') (h : owns μ id o b i) (h' : owns μ id' o' b i') : id = id' := by
  have key : ∃ k, owns μ id o b k ∧ owns μ id' o' b k := by
    refine ⟨max (max i i') (max (μ id).f (μ id').f), ?_, ?_⟩
    · cases o <;> simp only [owns] at h ⊢ <;> first | exact h | exact ⟨h.1, by omega⟩
    · cases o' <;> simp only [owns] at h' ⊢ <;> first | exact h' | exact ⟨h'.1, by omega⟩
  obtain ⟨k, h1, h2⟩ := key
  exact hi.apart id id' o o' b k ho ho' h1 h2

/-- Of the same make, but for how an empty slice is told. -/
def likeOf (new u : V) : Prop := u = new ∨ ∃ s sz l, new = .d (.sl s l) ∧ u = .d (.sl sz l) ∧ (s = sz ∨ l = [])

theorem likeOf.rv {new u : V} (h : likeOf new u) {v : Value} (hv : RV w σ μ v new) : RV w σ μ v u := by
  rcases h with rfl | ⟨s, sz, l, rfl, rfl, he⟩
  · exact hv
  · cases hv with | d _ _ hd => exact .d _ _ (hd.sl_sz he)

theorem likeOf.ids {new u : V} (h : likeOf new u) : u.ids = new.ids := by
  rcases h with rfl | ⟨s, sz, l, rfl, rfl, he⟩ <;> rfl

theorem likeV_ok {old new : V} {K : V → Option R} {r : R} (h : likeV old new K = some r) : ∃ u, K u = some r ∧ likeOf new u := by
  unfold likeV at h
  split at h
  · obtain ⟨x, rfl, h⟩ := asD_some h; obtain ⟨n, rfl, h2⟩ := asInt_some h; exact ⟨_, h2, .inl rfl⟩
  · obtain ⟨x, rfl, h⟩ := asD_some h; obtain ⟨n, rfl, h2⟩ := asBool_some h; exact ⟨_, h2, .inl rfl⟩
  · obtain ⟨x, rfl, h⟩ := asD_some h; obtain ⟨n, rfl, h2⟩ := asStr_some h; exact ⟨_, h2, .inl rfl⟩
  · obtain ⟨x, rfl, h⟩ := asD_some h; obtain ⟨s, l, rfl, he, h2⟩ := asSl_some h; exact ⟨_, h2, .inr ⟨_, _, _, rfl, rfl, he⟩⟩
  · exact ⟨_, h, .inl rfl⟩
  · obtain ⟨x, rfl, h⟩ := asD_some h; exact ⟨_, h, .inl rfl⟩
  · rename_i sz l id
    split at h
    · rename_i sz' l' id'
      cases hc : (Nat.beq sz sz' && Nat.beq id id')
      · rw [hc] at h; cases h
      · rw [hc, cond_true] at h
        rw [Bool.and_eq_true] at hc
        obtain rfl := Nat.eq_of_beq_eq_true hc.1
        obtain rfl := Nat.eq_of_beq_eq_true hc.2
        exact ⟨_, h, .inl rfl⟩
    · cases h
  · exact ⟨_, h, .inl rfl⟩

theorem likeL_ok : ∀ {olds news : List V} {K : List V → Option R} {r : R}, likeL olds news K = some r → ∃ us, K us = some r ∧ us.length = news.length ∧ ∀ (i : Nat) x u, news[i]? = some x → us[i]? = some u → likeOf x u
  | [], news, K, r, h => by
    obtain ⟨rfl, h⟩ := unn_some h
    exact ⟨[], h, rfl, by simp⟩
  | o :: os, news, K, r, h => by
    obtain ⟨v, q, rfl, h1⟩ := unc_some h
    obtain ⟨u, h2, hu⟩ := likeV_ok h1
    obtain ⟨us, h3, hl, hus⟩ := likeL_ok h2
    refine ⟨u :: us, h3, by simp [hl], fun i x y hx hy => ?_⟩
    cases i with
    | zero => simp at hx hy; subst hx; subst hy; exact hu
    | succ i => exact hus i x y (by simpa using hx) (by simpa using hy)

/-- An object, of the same make. -/
structure LikeO (new o : Ob) : Prop where
  ok : ∀ (w : World) (σ : St) (μ : Mu) (id : Nat), ObOk w σ μ id new → ObOk w σ μ id o
  ids : o.ids = new.ids
  owns : ∀ (μ : Mu) (id b i : Nat), owns μ id o b i ↔ owns μ id new b i
  still : ∀ (μ μ' : Mu) (id : Nat) (p : Ob), stillOb μ id p μ' (some new) → stillOb μ id p μ' (some o)
  compat : compatOb (some new) (some o)

theorem LikeO.refl (o : Ob) : LikeO o o := ⟨fun _ _ _ _ h => h, rfl, fun _ _ _ _ => Iff.rfl, fun _ _ _ _ h => h, by cases o <;> simp [compatOb]⟩

theorem idsL_congr : ∀ {l l' : List V}, l.length = l'.length → (∀ (i : Nat) x y, l[i]? = some x → l'[i]? = some y → x.ids = y.ids) → V.idsL l = V.idsL l'
  | [], [], _, _ => rfl
  | x :: l, y :: l', h, hi => by
    simp only [V.idsL]
    rw [hi 0 x y rfl rfl, idsL_congr (by simpa using h) fun i a b ha hb => hi (i + 1) a b (by simpa using ha) (by simpa using hb)]

theorem likeOf.cells {new u : V} (h : likeOf new u) {vs : List Value} (hv : RVs w σ μ vs new.cells) : RVs w σ μ vs u.cells := by
  rcases h with rfl | ⟨s, sz, l, rfl, rfl, he⟩
  · exact hv
  · refine ⟨hv.1, fun i x y hx hy => ?_⟩
    cases i with
    | zero =>
      simp [V.cells] at hy; subst hy
      have := hv.2 0 x _ hx rfl
      cases this with | d _ _ hd => exact .d _ _ (hd.sl_sz he)
    | succ i => simp [V.cells] at hy

theorem likeOf.tup {new u : V} (h : likeOf new u) (ht : new.tupV = false) : u.tupV = false := by
  rcases h with rfl | ⟨s, sz, l, rfl, rfl, he⟩
  · exact ht
  · rfl

theorem likeO_val {n : Nat} {v u : V} (hr : ∀ (w : World) (σ : St) (μ : Mu) (vs : List Value), RVs w σ μ vs v.cells → RVs w σ μ vs u.cells) (ht : v.tupV = false → u.tupV = false) (hi : u.ids = v.ids) : LikeO (.val n v) (.val n u) where
  ok := fun w σ μ id h => by
    obtain ⟨b, cs, el, hb, hh, hn, htp, h1, hrr, htag⟩ := h
    exact ⟨b, cs, el, hb, hh, hn, ht htp, h1, hr w σ μ _ hrr, htag⟩
  ids := hi
  owns := fun _ _ _ _ => Iff.rfl
  still := fun μ μ' id p h => by cases p <;> exact h
  compat := trivial

theorem likeO_ok {old new : Ob} {K : Ob → Option R} {r : R} (h : likeO old new K = some r) : ∃ o, K o = some r ∧ LikeO new o := by
  unfold likeO at h
  split at h
  · rename_i n l n' v
    obtain ⟨hn, h1⟩ := must_some h
    clear h
    obtain rfl := Nat.eq_of_beq_eq_true hn
    split at h1
    · rename_i l'
      obtain ⟨us, hK, hl, hus⟩ := likeL_ok h1
      refine ⟨_, hK, likeO_val (fun w σ μ vs hv => ?_) (fun _ => rfl) ?_⟩
      · simp only [V.cells] at hv ⊢
        refine ⟨by rw [hl]; exact hv.1, fun i x y hx hy => ?_⟩
        obtain ⟨z, hz⟩ := getSome (l := l') (i := i) (by rw [← hl]; exact (List.getElem?_eq_some_iff.1 hy).1)
        exact (hus i z y hz hy).rv (hv.2 i x z hx hz)
      · simp only [V.ids]
        exact idsL_congr hl fun i x y hx hy => (hus i y x hy hx).ids
    · exact ⟨_, h1, LikeO.refl _⟩
  · rename_i n v n' v' hne
    obtain ⟨hn, h1⟩ := must_some h
    clear h
    obtain rfl := Nat.eq_of_beq_eq_true hn
    obtain ⟨u, hK, hu⟩ := likeV_ok h1
    exact ⟨_, hK, likeO_val (fun w σ μ vs hv => hu.cells hv) hu.tup hu.ids⟩
  · exact ⟨_, h, LikeO.refl _⟩

theorem backOb_ok {full : List Nat} {σ' : St} : ∀ (ren : List Nat) (k : Nat) {K : De → Option R} {r : R}, backOb full σ σ' k ren K = some r →
    ∃ δ, K δ = some r ∧ δ.map (·.1) = ren ∧ ∀ (j i : Nat), ren[j]? = some i → ∃ old new o, getA σ i = some old ∧ getA σ' (k + j) = some new ∧ δ[j]? = some (i, o) ∧ LikeO (new.ren (atIn full)) o
  | [], k, K, r, h => ⟨[], h, rfl, by simp⟩
  | i :: ren, k, K, r, h => by
    simp only [backOb] at h
    obtain ⟨old, ho, h⟩ := optK_some h
    obtain ⟨new, hn, h⟩ := optK_some h
    obtain ⟨o, h, hlike⟩ := likeO_ok h
    obtain ⟨δ, hK, hm, hδ⟩ := backOb_ok ren (k + 1) h
    refine ⟨(i, o) :: δ, hK, by simp [hm], fun j a hj => ?_⟩
    cases j with
    | zero => simp at hj; subst hj; exact ⟨old, new, o, ho, hn, rfl, hlike⟩
    | succ j =>
      obtain ⟨old', new', o', h1, h2, h3, h4⟩ := hδ j a (by simpa using hj)
      exact ⟨old', new', o', h1, by rw [show k + (j + 1) = k + 1 + j by omega]; exact h2, by simpa using h3, h4⟩

theorem castV_any {P : Program} {t : Nat} {v : V} {K : V → Option R} {r : R} (h : castV P t v K = some r) : ∃ u, K u = some r ∧ ∀ (w : World) (σ : St) (μ : Mu) (v' : Value), RV w σ μ v' v → RV w σ μ v' u := by
  cases v with
  | d x =>
    simp only [castV] at h
    unfold castD at h
    split at h
    · obtain ⟨n, rfl, h2⟩ := asInt_some h; exact ⟨_, h2, fun _ _ _ _ h => h⟩
    · obtain ⟨n, rfl, h2⟩ := asBool_some h; exact ⟨_, h2, fun _ _ _ _ h => h⟩
    · obtain ⟨n, rfl, h2⟩ := asStr_some h; exact ⟨_, h2, fun _ _ _ _ h => h⟩
    · obtain ⟨s, l, rfl, he, h2⟩ := asSl_some h; exact ⟨_, h2, fun _ _ _ _ h => by cases h with | d _ _ hd => exact .d _ _ (hd.sl_sz he)⟩
    · obtain ⟨l, _, _, h2⟩ := asAgg_some h; exact ⟨_, h2, fun _ _ _ _ h => h⟩
    · obtain ⟨l, _, _, h2⟩ := asAgg_some h; exact ⟨_, h2, fun _ _ _ _ h => h⟩
    · split at h
      · cases h
      · exact ⟨_, h, fun _ _ _ _ h => h⟩
    · cases h
  | _ => exact ⟨_, (must_some h).2, fun _ _ _ _ h => h⟩

theorem castTup_ok {P : Program} : ∀ {ts : List Nat} {vs : List V} {K : List V → Option R} {r : R}, castTup P ts vs K = some r → ∃ us, K us = some r ∧ us.length = vs.length ∧ ∀ (i : Nat) x u, vs[i]? = some x → us[i]? = some u → ∀ (w : World) (σ : St) (μ : Mu) v, RV w σ μ v x → RV w σ μ v u
  | [], vs, K, r, h => by
    obtain ⟨rfl, h⟩ := unn_some h
    exact ⟨[], h, rfl, by simp⟩
  | t :: ts, vs, K, r, h => by
    obtain ⟨v, q, rfl, h1⟩ := unc_some h
    obtain ⟨u, h2, hu⟩ := castV_any h1
    obtain ⟨us, hK, hl, hus⟩ := castTup_ok h2
    refine ⟨u :: us, hK, by simp [hl], fun i x y hx hy => ?_⟩
    cases i with
    | zero => simp at hx hy; subst hx; subst hy; exact hu
    | succ i => exact hus i x y (by simpa using hx) (by simpa using hy)

theorem castOut_ok {P : Program} {t : Nat} {v : V} {K : V → Option R} {r : R} (h : castOut P t v K = some r) : ∃ u, K u = some r ∧ ∀ (w : World) (σ : St) (μ : Mu) (v' : Value), RV w σ μ v' v → RV w σ μ v' u := by
  unfold castOut at h
  split at h
  · split at h
    · exact ⟨_, h, fun _ _ _ _ h => h⟩
    · obtain ⟨l, rfl, h1⟩ := asTup_some h
      obtain ⟨us, hK, hl, hus⟩ := castTup_ok h1
      refine ⟨_, hK, fun w σ μ v' hv => ?_⟩
      cases hv with | tup cs _ hcl hr => ?_
      refine .tup cs us (by rw [hl]; exact hcl) fun i x y hx hy => ?_
      obtain ⟨z, hz⟩ := getSome (l := l) (i := i) (by rw [← hl]; exact (List.getElem?_eq_some_iff.1 hy).1)
      exact hus i z y hz hy w σ μ x (hr i x z hx hz)
  · exact castV_any h

end
end Go.Vai
end

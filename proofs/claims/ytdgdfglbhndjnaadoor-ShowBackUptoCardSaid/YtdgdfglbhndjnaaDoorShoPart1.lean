/-
  DERIVED: THE SHELF's CONTRACTS AT THIS DUMP, IN PLAIN WORDS (tools/lay-plain.mjs out of 'TrydShl.lean', which tools/lay-shelf.mjs wrote): THE SAME DECLARATIONS UNDER THE SAME NAMES: 'import', 'namespace', 'open', 'def', 'theorem' AND NOTHING ELSE: no command of the shelf's: FOR A HAND-IN. Each laying: the table of numbers ('.._ren') and one theorem, a field a fact of the dump's own or the kernel's comparison; each contract: ONE APPLICATION.
  Show: the library's functions that are taken as one step: strings.Builder's String, and strings.Join: they do what is said of them.
  The seat's context for the interpreter: the program, what lives where, the listed variables.
  Lex: what the small functions answer.
  Lex: names, prefixes.
  Lex: what is let by.
  Lex: one token.
  Lex: bounds; texts; what a text's tokens are.
  Lex: the tokens of a text.
  Lex: is it a text?
  Lex: the library's DecodeRuneInString, behind its first byte.
  Lex: the library's decoder, whole.
  Lex: the library's DecodeRuneInString; lex.Scan.
  Lex: lex.Scan.
  Tree: what the tokens of a text are like (as for lex.Scan on the other seat).
  Tree: callers that see a reader; and what the reader's small functions answer.
-/
import Derived.Test.YtdgdfglbhndjnaaDoorVaiPart7
import Derived.Shelf.Strings.Builder1
import Derived.Shelf.Strings.Builder2
import Derived.Shelf.Strings.OnBuilder
import Derived.Shelf.Strings.BuilderF
import Derived.Shelf.Strings.BuilderK
import Derived.Shelf.Strings.Builder2Cap
import Derived.Shelf.Strings.Prefix
import Derived.Shelf.Unicode.Decode
import Derived.Shelf.Unicode.DecodeSlow
import Derived.Shelf.Unicode.DecodeAny
import Derived.Test.YtdgdfglbhndjnaaDoorProg
import Derived.Test.YtdgdfglbhndjnaaDoorCards
import Derived.Test.YtdgdfglbhndjnaaDoorTie
import Derived.KernelRfl
import Derived.IntWalk

set_option linter.all false
set_option linter.unusedSimpArgs false
set_option linter.unusedVariables false

section
namespace Go.Proofs
open Go.Shelf
def Tryd.lays169_ren : Go.Shelf.Ren := ⟨fun | 169 => 72 | n => n, fun | 70 => 67 | 9 => 9 | 0 => 0 | 72 => 70 | 37 => 68 | 127 => 118 | 3 => 3 | 5 => 5 | n => n, fun | n => n⟩
theorem Tryd.lays169 : Go.Proofs.Lays.n169 Tryd.prog Tryd.lays169_ren := {
  mixed := by kernel_rfl
  f169 := Tryd.func72.trans (congrArg some (by kernel_rfl))
  t0 := Tryd.underlying0
  a0 := Tryd.isAgg0
  z0 := Tryd.sizeOf0
  v0 := Tryd.zeroValue0
  t3 := Tryd.underlying3
  a3 := Tryd.isAgg3
  z3 := Tryd.sizeOf3
  v3 := Tryd.zeroValue3
  t9 := Tryd.underlying9
  a9 := Tryd.isAgg9
  z9 := Tryd.sizeOf9
  v9 := Tryd.zeroValue9
  t37 := Tryd.underlying68
  a37 := Tryd.isAgg68
  z37 := Tryd.sizeOf68
  v37 := Tryd.zeroValue68
  t70 := Tryd.underlying67
  a70 := Tryd.isAgg67
  z70 := Tryd.sizeOf67
  v70 := Tryd.zeroValue67
  t72 := Tryd.underlying70
  a72 := Tryd.isAgg70
  z72 := Tryd.sizeOf70
  v72 := Tryd.zeroValue70
  t127 := Tryd.underlying118
  a127 := Tryd.isAgg118
  z127 := Tryd.sizeOf118
  v127 := Tryd.zeroValue118 }
theorem Tryd.Builder_Extra_169 : Builder.Extra Tryd.prog Tryd.lays169_ren := {
  sizeBuilder := by kernel_rfl
  liesBuilder := by kernel_rfl
  t5 := Tryd.underlying5
  a5 := Tryd.isAgg5
  z5 := Tryd.sizeOf5
  v5 := Tryd.zeroValue5
  infoByte := by kernel_rfl
  cellsByte := by kernel_rfl
  sizeByte := by kernel_rfl
  neB5 := by decide }
def Tryd.lays156_ren : Go.Shelf.Ren := ⟨fun | 156 => 90 | 165 => 105 | 166 => 67 | 169 => 72 | 240 => 89 | 241 => 111 | 276 => 104 | 277 => 112 | n => n, fun | 31 => 24 | 9 => 9 | 3 => 3 | 4 => 4 | 0 => 0 | 20 => 20 | 72 => 70 | 76 => 97 | 70 => 67 | 37 => 68 | 75 => 96 | 127 => 118 | 164 => 120 | 5 => 5 | 80 => 90 | n => n, fun | n => n⟩
theorem Tryd.lays156 : Go.Proofs.Lays.n156 Tryd.prog Tryd.lays156_ren := {
  mixed := by kernel_rfl
  f156 := Tryd.func90.trans (congrArg some (by kernel_rfl))
  f165 := Tryd.func105.trans (congrArg some (by kernel_rfl))
  f166 := Tryd.func67.trans (congrArg some (by kernel_rfl))
  f169 := Tryd.func72.trans (congrArg some (by kernel_rfl))
  f240 := Tryd.func89.trans (congrArg some (by kernel_rfl))
  f241 := Tryd.func111.trans (congrArg some (by kernel_rfl))
  f276 := Tryd.func104.trans (congrArg some (by kernel_rfl))
  f277 := Tryd.func112.trans (congrArg some (by kernel_rfl))
  t0 := Tryd.underlying0
  a0 := Tryd.isAgg0
  z0 := Tryd.sizeOf0
  v0 := Tryd.zeroValue0
  t3 := Tryd.underlying3
  a3 := Tryd.isAgg3
  z3 := Tryd.sizeOf3
  v3 := Tryd.zeroValue3
  t4 := Tryd.underlying4
  a4 := Tryd.isAgg4
  z4 := Tryd.sizeOf4
  v4 := Tryd.zeroValue4
  t9 := Tryd.underlying9
  a9 := Tryd.isAgg9
  z9 := Tryd.sizeOf9
  v9 := Tryd.zeroValue9
  t20 := Tryd.underlying20
  a20 := Tryd.isAgg20
  z20 := Tryd.sizeOf20
  v20 := Tryd.zeroValue20
  t31 := Tryd.underlying24
  a31 := Tryd.isAgg24
  z31 := Tryd.sizeOf24
  v31 := Tryd.zeroValue24
  t37 := Tryd.underlying68
  a37 := Tryd.isAgg68
  z37 := Tryd.sizeOf68
  v37 := Tryd.zeroValue68
  t70 := Tryd.underlying67
  a70 := Tryd.isAgg67
  z70 := Tryd.sizeOf67
  v70 := Tryd.zeroValue67
  t72 := Tryd.underlying70
  a72 := Tryd.isAgg70
  z72 := Tryd.sizeOf70
  v72 := Tryd.zeroValue70
  t75 := Tryd.underlying96
  a75 := Tryd.isAgg96
  z75 := Tryd.sizeOf96
  v75 := Tryd.zeroValue96
  t76 := Tryd.underlying97
  a76 := Tryd.isAgg97
  z76 := Tryd.sizeOf97
  v76 := Tryd.zeroValue97
  t127 := Tryd.underlying118
  a127 := Tryd.isAgg118
  z127 := Tryd.sizeOf118
  v127 := Tryd.zeroValue118
  t164 := Tryd.underlying120
  a164 := Tryd.isAgg120
  z164 := Tryd.sizeOf120
  v164 := Tryd.zeroValue120 }
theorem Tryd.Builder_Extra_156 : Builder.Extra Tryd.prog Tryd.lays156_ren := {
  sizeBuilder := by kernel_rfl
  liesBuilder := by kernel_rfl
  t5 := Tryd.underlying5
  a5 := Tryd.isAgg5
  z5 := Tryd.sizeOf5
  v5 := Tryd.zeroValue5
  infoByte := by kernel_rfl
  cellsByte := by kernel_rfl
  sizeByte := by kernel_rfl
  neB5 := by decide }
open Go.RowKit in
/-- No element: the empty string; the world is as it was. (Whatever the slice's address and capacity: a nil slice too.) (LAID: no walk: one application.) -/
theorem Tryd.strings_Join_none (a : Option Addr) (c : Nat) (sep : ByteArray) (w : World) :
    Calls Tryd.prog 90 #[.slice a 0 c, .string sep] w fun e w' => e = .returned (.string ⟨#[]⟩) ∧ w' = w := Any.strings_Join_none Tryd.lays156 Tryd.Builder_Extra_156 a c sep w
open Go.RowKit in
/-- strings.Join: "Join concatenates the elements of its first argument to create a single string. The separator string sep is placed between elements in the resulting string.": HOWEVER MANY ELEMENTS. Below the heap's end the world is as it was. (LAID: no walk: one application.) -/
theorem Tryd.strings_Join (bk o c : Nat) (xs : List ByteArray) (sep : ByteArray) (w : World) (hcells : ∀ (j : Nat) x, xs[j]? = some x → w.cell? ⟨bk, o + j, none⟩ = some (.string x)) (hbk : bk < w.heap.size) (hN : xs.length ≤ 140737488355328) (hcap : xs.length ≤ c) (hlen : (Lib.join (xs.map (·.data.toList)) sep.data.toList).length ≤ 140737488355328) :
    Calls Tryd.prog 90 #[.slice (some ⟨bk, o, none⟩) xs.length c, .string sep] w fun e w' => e = .returned (.string ⟨(Lib.join (xs.map (·.data.toList)) sep.data.toList).toArray⟩) ∧ Below w.heap.size w w' := Any.strings_Join Tryd.lays156 Tryd.Builder_Extra_156 bk o c xs sep w hcells hbk hN hcap hlen
end Go.Proofs
end

section
set_option linter.unusedVariables false
namespace Go.Proofs
open Go.Shelf Go.RowKit
variable {P : Program} {ρ : Ren}

set_option maxHeartbeats 2000000 in
set_option maxRecDepth 100000 in
theorem Any.String_core (L : Lays.n169 P ρ) (X : Builder.Extra P ρ) (b : Nat) (w w2 : World) (ao p : Option Addr) (n cap : Nat) (s : ByteArray)
    (c1 : w.drew.cell? ⟨b, 1, none⟩ = some (.slice ao n cap))
    (hSD : (Builtin.unsafeSliceData_ #[(ρ.t 37)] (ρ.t 127) #[.slice ao n cap]).run P w.drew = .ok (.pointer p) w.drew)
    (hUS : (Builtin.unsafeString_ #[(ρ.t 127), (ρ.t 3)] (ρ.t 9) #[.pointer p, .int .i64 n]).run P w.drew = .ok (.string s) w2) :
    Calls P (ρ.f 169) #[.pointer (some ⟨b, 0, none⟩)] w fun e w' => e = .returned (.string s) ∧ w' = w2 := by
  have mixed := L.mixed
  have t72 := L.t72; have a72 := L.a72; have z72 := L.z72; have v72 := L.v72; have u72 := run_underlying L.t72
  have t70 := L.t70; have a70 := L.a70; have z70 := L.z70; have v70 := L.v70; have u70 := run_underlying L.t70
  have t37 := L.t37; have a37 := L.a37; have z37 := L.z37; have v37 := L.v37; have u37 := run_underlying L.t37
  have t127 := L.t127; have a127 := L.a127; have z127 := L.z127; have v127 := L.v127; have u127 := run_underlying L.t127
  have t3 := L.t3; have a3 := L.a3; have z3 := L.z3; have v3 := L.v3; have u3 := run_underlying L.t3
  have t9 := L.t9; have a9 := L.a9; have z9 := L.z9; have v9 := L.v9; have u9 := run_underlying L.t9
  have t5 := X.t5; have a5 := X.a5; have z5 := X.z5; have v5 := X.v5; have u5 := run_underlying X.t5
  go_enter L.f169, Body.n169_ntmps ρ
  go_wp2
  go_region_o
  all_goals (go_wp2; go_ret; exact ⟨rfl, rfl⟩)

/-- The builder's String at this program. -/
theorem Tryd.String_core (b : Nat) (w w2 : World) (ao p : Option Addr) (n cap : Nat) (s : ByteArray)
    (c1 : w.drew.cell? ⟨b, 1, none⟩ = some (.slice ao n cap))
    (hSD : (Builtin.unsafeSliceData_ #[68] 118 #[.slice ao n cap]).run Tryd.prog w.drew = .ok (.pointer p) w.drew)
    (hUS : (Builtin.unsafeString_ #[118, 3] 9 #[.pointer p, .int .i64 n]).run Tryd.prog w.drew = .ok (.string s) w2) :
    Calls Tryd.prog 72 #[.pointer (some ⟨b, 0, none⟩)] w fun e w' => e = .returned (.string s) ∧ w' = w2 :=
  Any.String_core Tryd.lays169 Tryd.Builder_Extra_169 b w w2 ao p n cap s c1 hSD hUS

end Go.Proofs

namespace Go.Vai
open Go.Proofs

/-- A byte's cell. -/
def byteD (b : UInt8) : D := .int .u8 b.toNat

/-- Bytes, each in its range. -/
def bytesX : List D → Option (List UInt8)
  | [] => some []
  | .int .u8 n :: r => bif decide (((UInt8.ofNat n.toNat).toNat : Int) = n) then (match bytesX r with | some l => some (UInt8.ofNat n.toNat :: l) | none => none) else none
  | _ => none

theorem bytesX_map (s : List UInt8) : bytesX (s.map byteD) = some s := by
  induction s with
  | nil => rfl
  | cons b r ih => simp [bytesX, byteD, ih]

theorem bytesX_inv : ∀ (l : List D) (s : List UInt8), bytesX l = some s → l = s.map byteD
  | [], s, h => by simp [bytesX] at h; subst h; rfl
  | x :: r, s, h => by
    unfold bytesX at h
    split at h
    · rename_i he; cases he
    · rename_i n q he
      cases he
      cases hd : decide (((UInt8.ofNat n.toNat).toNat : Int) = n) <;> rw [hd] at h
      · cases h
      · simp only [cond_true] at h
        split at h
        · rename_i l hl
          cases h
          have := of_decide_eq_true hd
          rw [bytesX_inv r l hl, List.map_cons, byteD, this]
        · cases h
    · cases h

def ptr0 : List V → Option Nat | [.ptr i 0] => some i | _ => none
def strOb : Option Ob → Option (Nat × List D × Nat) | some (.val _ (.agg (_ :: .sl sz l id :: _))) => some (sz, l, id) | _ => none
def tokOb : Option Ob → Option Nat | some (.tok k) => some k | _ => none

theorem ptr0_some {a : List V} {i : Nat} (h : ptr0 a = some i) : a = [.ptr i 0] := by
  unfold ptr0 at h
  split at h
  · cases h; rfl
  · cases h
theorem strOb_some {o : Option Ob} {q : Nat × List D × Nat} (h : strOb o = some q) : ∃ n p r, o = some (.val n (.agg (p :: .sl q.1 q.2.1 q.2.2 :: r))) := by
  unfold strOb at h
  split at h
  · cases h; exact ⟨_, _, _, rfl⟩
  · cases h
theorem tokOb_some {o : Option Ob} {k : Nat} (h : tokOb o = some k) : o = some (.tok k) := by
  unfold tokOb at h
  split at h
  · cases h; rfl
  · cases h

/-- strings.Builder's String, of a builder that lies at the head of an object. -/
def natStr (args : List V) (σ : St) : Option (Out × St) :=
  optK (ptr0 args) fun i => optK (strOb (getA σ i)) fun q => optK (tokOb (getA σ q.2.2)) fun k =>
    must (Nat.beq q.1 6291457 && decide (k = q.2.1.length) && decide (q.2.1.length ≤ 4294967296)) (optK (bytesX q.2.1) fun s => some (.ret (.d (.str s)), putA σ q.2.2 (.tok (k + 1))))

def strsX : List D → Option (List (List UInt8))
  | [] => some []
  | .str s :: r => (match strsX r with | some l => some (s :: l) | none => none)
  | _ => none

theorem strsX_map (l : List (List UInt8)) : strsX (l.map .str) = some l := by
  induction l with
  | nil => rfl
  | cons b r ih => simp [strsX, ih]

theorem strsX_inv : ∀ (l : List D) (s : List (List UInt8)), strsX l = some s → l = s.map .str
  | [], s, h => by simp [strsX] at h; subst h; rfl
  | x :: r, s, h => by
    unfold strsX at h
    split at h
    · rename_i he; cases he
    · rename_i n q he
      cases he
      split at h
      · rename_i l hl
        cases h
        rw [strsX_inv r l hl, List.map_cons]
      · cases h
    · cases h

/-- strings.Join. -/
def natJoin (args : List V) (σ : St) : Option (Out × St) :=
  match args with
  | [.d (.sl _ xs), .d (.str sep)] => optK (strsX xs) fun l => must (decide (l.length ≤ 140737488355328) && decide ((Lib.join l sep).length ≤ 140737488355328)) (some (.ret (.d (.str (Lib.join l sep))), σ))
  | _ => none

def nat (f : Nat) (args : List V) (σ : St) : Option (Out × St) := bif Nat.beq f 72 then natStr args σ else bif Nat.beq f 90 then natJoin args σ else none

section
variable {cx : Cx} {w w' : World} {σ : St} {μ : Mu}

theorem below_cell {w w' : World} (h : RowKit.Below w.heap.size w w') {b i : Nat} {x : Value} (hc : w.cell? ⟨b, i, none⟩ = some x) : w'.cell? ⟨b, i, none⟩ = some x := by
  have := h.block b (lt_of_cell hc)
  unfold World.cell? at hc ⊢
  simp only at hc ⊢
  rw [this]
  exact hc

theorem below_after (hi : Inv cx w σ μ) (h : RowKit.Below w.heap.size w w') : After cx w σ μ w' σ μ := by
  have hu : Upd cx w σ μ w' σ μ [] := ⟨h.os, h.output, h.size, fun b hb _ => h.block b hb, fun b i x _ hc => below_cell h hc, rfl, fun _ _ => ⟨rfl, rfl⟩, fun _ h => by simp at h, fun _ h => by simp at h, fun _ h => by simp at h⟩
  exact hu.after hi (fun _ h => by simp at h)

theorem freeze_heap (w : World) (g n : Nat) : ∀ b, b ≠ g → (w.freeze ⟨g, 0, none⟩ n).heap[b]? = w.heap[b]? := fun b hb => by
  unfold World.freeze
  split
  · rfl
  · simp [Array.getElem?_modify, Ne.symm hb]

theorem freeze_cell (w : World) (g n : Nat) (b k : Nat) : (w.freeze ⟨g, 0, none⟩ n).cell? ⟨b, k, none⟩ = w.cell? ⟨b, k, none⟩ := by
  by_cases hbg : b = g
  · subst hbg
    unfold World.freeze
    split
    · rfl
    · unfold World.cell?
      simp only [Array.getElem?_modify, if_true]
      cases h : w.heap[b]? with
      | none => rfl
      | some o => cases o <;> rfl
  · unfold World.cell?
    simp only
    rw [freeze_heap w g n b hbg]

/-- The right to append is given up. -/
theorem drop_upd {id k : Nat} (ho : getA σ id = some (.tok k)) (hos : w'.os = w.os) (hout : w'.output = w.output) (hsize : w.heap.size ≤ w'.heap.size)
    (hblk : ∀ b, b < w.heap.size → (μ id).blk ≠ some b → w'.heap[b]? = w.heap[b]?) (hcell : ∀ b i x, w.cell? ⟨b, i, none⟩ = some x → w'.cell? ⟨b, i, none⟩ = some x) :
    Upd cx w σ μ w' (putA σ id (.tok (k + 1))) (setMu μ id ⟨none, 0, 0, 0⟩) [id] where
  os := hos
  output := hout
  size := hsize
  blk := fun b hb h => hblk b hb fun e => h id (by simp) _ ho (μ id).f ⟨e, Nat.le_refl _⟩
  cell := fun b i x _ h => hcell b i x h
  fr := rfl
  same := fun j hj => by
    have : id ≠ j := fun e => hj (by simp [e])
    exact ⟨by simp [getA_putA, this], by simp [setMu, Ne.symm this]⟩
  own := fun j hj q hq b i hown _ => by
    simp at hj; subst hj
    simp only [getA_putA, if_true] at hq
    cases hq
    have := hown.1
    simp [setMu] at this
  still := fun j hj q hq => by
    simp at hj; subst hj
    rw [ho] at hq; cases hq
    simp only [getA_putA, if_true]
    exact ⟨by omega, fun h => by omega⟩
  apart := fun j hj j' hj' _ _ _ _ _ _ _ _ _ => by simp at hj hj'; rw [hj, hj']

theorem drop_after {id k : Nat} (hi : Inv cx w σ μ) (ho : getA σ id = some (.tok k)) (hos : w'.os = w.os) (hout : w'.output = w.output) (hsize : w.heap.size ≤ w'.heap.size)
    (hblk : ∀ b, b < w.heap.size → (μ id).blk ≠ some b → w'.heap[b]? = w.heap[b]?) (hcell : ∀ b i x, w.cell? ⟨b, i, none⟩ = some x → w'.cell? ⟨b, i, none⟩ = some x) :
    After cx w σ μ w' (putA σ id (.tok (k + 1))) (setMu μ id ⟨none, 0, 0, 0⟩) :=
  (drop_upd ho hos hout hsize hblk hcell).after hi fun j hj o' ho' => by
    simp at hj; subst hj
    simp only [getA_putA, if_true] at ho'
    cases ho'
    intro b hb
    simp [setMu] at hb

theorem szN_6291457 : szN 6291457 = 1 := by decide

theorem canon_put {id k : Nat} (hc : Canon σ) (ho : getA σ id = some (.tok k)) : ∀ j o, getA (putA σ id (.tok (k + 1))) j = some o → j < σ.length ∧ ∀ i ∈ o.ids, i < σ.length := by
  intro j o hj
  rw [getA_putA] at hj
  by_cases h : id = j
  · subst h
    rw [if_pos rfl] at hj
    cases hj
    exact ⟨(hc id _ ho).1, by simp [Ob.ids]⟩
  · rw [if_neg h] at hj
    exact hc j o hj

theorem natStr_ok (hP : cx.P = Tryd.prog) {args : List V} {out : Out} {σ' : St} (h : natStr args σ = some (out, σ')) {vs : List Value} (hi : Inv cx w σ μ) (hcan : Canon σ) (hv : RVs w σ μ vs args) :
    ∃ u, out = .ret u ∧ (∀ k o, getA σ' k = some o → k < σ.length ∧ ∀ i ∈ o.ids, i < σ.length) ∧ (∀ i ∈ u.ids, i < σ.length) ∧
    Calls cx.P 72 vs.toArray w fun e w' => ∃ μ' x, e = .returned x ∧ After cx w σ μ w' σ' μ' ∧ RV w' σ' μ' x u := by
  unfold natStr at h
  obtain ⟨i, hargs, h1⟩ := optK_some h
  clear h
  obtain rfl := ptr0_some hargs
  obtain ⟨⟨sz, l, id⟩, hq, h2⟩ := optK_some h1
  clear h1
  obtain ⟨n, p, r, ho⟩ := strOb_some hq
  obtain ⟨k, hk, h3⟩ := optK_some h2
  clear h2
  have ht := tokOb_some hk
  obtain ⟨hc, h4⟩ := must_some h3
  clear h3
  obtain ⟨s, hs, h⟩ := optK_some h4
  clear h4
  cases h
  clear hk hq hargs
  simp only at hs hc ht ho
  simp only [Bool.and_eq_true, decide_eq_true_eq] at hc
  obtain ⟨⟨hsz, hk⟩, hlen⟩ := hc
  have hsz := Nat.eq_of_beq_eq_true hsz
  subst hsz
  subst hk
  have hl := bytesX_inv l s hs
  refine ⟨_, rfl, canon_put hcan ht, by simp [V.ids], ?_⟩
  -- the argument
  obtain ⟨v, rfl⟩ : ∃ v, vs = [v] := List.length_eq_one_iff.1 (by simpa using hv.1)
  have hv0 := hv.2 0 v _ rfl rfl
  cases hv0 with | ptr _ _ b _ hb => ?_
  obtain ⟨b', cs, el, hb', hh, _, _, _, hrs, _⟩ := hi.ob i _ ho
  obtain rfl : b = b' := by rw [hb] at hb'; exact Option.some.inj hb'
  obtain ⟨v1, hv1⟩ : ∃ v1, cs.toList[1]? = some v1 := getSome (by rw [hrs.1]; simp [V.cells])
  have hr1 := hrs.2 1 v1 (.sl 6291457 l id) hv1 rfl
  cases hr1 with | sl _ _ _ _ n' hrd ht' hn' htail => ?_
  rw [ht] at ht'; cases ht'
  have htail := htail rfl
  rw [szN_6291457] at hrd
  obtain ⟨base, cap, rfl⟩ := hrd.slice_inv
  have c1 : w.drew.cell? ⟨b, 1, none⟩ = some (.slice base l.length cap) := by
    show w.cell? ⟨b, 1, none⟩ = _
    rw [cell_of_heap hh]
    simpa using hv1
  rw [hP]
  have fin : ∀ w', w'.os = w.os → w'.output = w.output → w.heap.size ≤ w'.heap.size → (∀ b, b < w.heap.size → (μ id).blk ≠ some b → w'.heap[b]? = w.heap[b]?) →
      (∀ b i x, w.cell? ⟨b, i, none⟩ = some x → w'.cell? ⟨b, i, none⟩ = some x) →
      ∃ μ' x, Ending.returned (.string ⟨s.toArray⟩) = .returned x ∧ After cx w σ μ w' (putA σ id (.tok (l.length + 1))) μ' ∧ RV w' (putA σ id (.tok (l.length + 1))) μ' x (.d (.str s)) :=
    fun w' h1 h2 h3 h4 h5 => ⟨_, _, rfl, drop_after hi ht h1 h2 h3 h4 h5, .d _ _ (.str s)⟩
  by_cases he : l = []
  · subst he
    have hs0 : s = [] := by cases s with | nil => rfl | cons a b => simp at hl
    subst hs0
    rcases htail with ⟨h1, _, _, h2⟩ | ⟨b2, o, _, _, _, _, _, h2⟩
    · subst h1
      obtain rfl : base = none := by rcases h2 with h2 | h2; · exact absurd h2 (by decide)
                                     · exact h2
      refine (Tryd.String_core b w w.drew none none 0 0 .empty c1 rfl (Lib.run_unsafeString_none w.drew 118 3 9 none)).mono ?_
      rintro e w' ⟨rfl, rfl⟩
      exact fin _ rfl rfl (Nat.le_refl _) (fun _ _ _ => rfl) (fun _ _ _ h => h)
    · rcases h2 with h2 | h2
      · exact absurd h2 (by decide)
      · exact absurd h2.2.2 (by simp)
  · have hpos : 0 < l.length := List.length_pos_iff.2 he
    rcases htail with ⟨_, h1, _⟩ | ⟨g, o, hbase, hg, hf, hend, hnc, h2⟩
    · omega
    rcases h2 with h2 | ⟨hel, ho0, _⟩
    · exact absurd h2 (by decide)
    subst hbase
    subst ho0
    obtain ⟨cs', el', fr', hh', hel', hcs', _⟩ := hi.ob id _ ht g hg
    have h6 : (6291457 : Nat) / 1048576 = 6 := by decide
    have hel5 : el' = 5 := by rw [hel']; rw [h6] at hel; exact (Nat.succ.inj hel).symm
    rw [szN_6291457] at hend
    subst hel5
    have hsl : s.length = l.length := by rw [hl]; simp
    have hs0 : s ≠ [] := fun e => by rw [e] at hsl; simp at hsl; omega
    have hcell : ∀ j x, s[j]? = some x → w.drew.cell? ((⟨g, 0, none⟩ : Addr).add j) = some (.int .u8 x.toNat) := by
      intro j x hx
      have hj := (List.getElem?_eq_some_iff.1 hx).1
      generalize hnl : l.length = nl at hrd
      cases hrd with
      | sl0 => exact absurd rfl he
      | sl _ _ _ _ _ _ xs hn hcap hszs hcells hels =>
        have hlx : l[j]? = some (byteD x) := by rw [hl, List.getElem?_map, hx]; rfl
        have h1 := hcells j (by omega)
        have h2 := hels j 0 (byteD x) (byteD x) hlx rfl
        simp only [Nat.mul_one, Nat.add_zero] at h2
        rw [show (⟨g, 0, none⟩ : Addr).add j = ⟨g, 0 + j, none⟩ from by by_cases hj0 : j = 0 <;> simp [Addr.add, hj0]]
        have h3 : w.cell? ⟨g, 0 + j, none⟩ = some (xs j) := h1.1
        generalize xs j = q at h2 h3
        unfold byteD at h2
        cases h2
        exact h3
    have hUS := Lib.run_unsafeString_row (P := Tryd.prog) w.drew 118 3 9 5 (by kernel_rfl) (by kernel_rfl) g cs'.size (by show w.shape? g = _; simp [World.shape?, hh']) s hs0 (by rw [hsl, hcs']; omega) (by omega) hcell
    rw [hsl] at hUS
    refine (Tryd.String_core b w _ (some ⟨g, 0, none⟩) (some ⟨g, 0, none⟩) l.length cap ⟨s.toArray⟩ c1 (Lib.run_unsafeSliceData_row w.drew _ _ _ _ _ (by omega)) hUS).mono ?_
    rintro e w' ⟨rfl, rfl⟩
    refine fin _ ?_ ?_ ?_ (fun b' _ hb' => ?_) (fun b' i' x hx => ?_)
    · unfold World.freeze; split <;> rfl
    · unfold World.freeze; split <;> rfl
    · unfold World.freeze; split
      · exact Nat.le_refl _
      · simp
    · rw [freeze_heap w.drew g _ b' (fun e => hb' (by rw [e]; exact hg))]
      rfl
    · rw [freeze_cell]
      exact hx

theorem natJoin_ok (hP : cx.P = Tryd.prog) {args : List V} {out : Out} {σ' : St} (h : natJoin args σ = some (out, σ')) {vs : List Value} (hi : Inv cx w σ μ) (hcan : Canon σ) (hv : RVs w σ μ vs args) :
    ∃ u, out = .ret u ∧ (∀ k o, getA σ' k = some o → k < σ.length ∧ ∀ i ∈ o.ids, i < σ.length) ∧ (∀ i ∈ u.ids, i < σ.length) ∧
    Calls cx.P 90 vs.toArray w fun e w' => ∃ μ' x, e = .returned x ∧ After cx w σ μ w' σ' μ' ∧ RV w' σ' μ' x u := by
  unfold natJoin at h
  split at h
  case h_2 => cases h
  rename_i sz xs sep
  obtain ⟨l, hl, h1⟩ := optK_some h
  clear h
  obtain ⟨hc, h⟩ := must_some h1
  clear h1
  cases h
  simp only [Bool.and_eq_true, decide_eq_true_eq] at hc
  refine ⟨_, rfl, hcan, by simp [V.ids], ?_⟩
  obtain ⟨v1, v2, rfl⟩ : ∃ v1 v2, vs = [v1, v2] := by
    have := hv.1
    match vs, this with
    | [a, b], _ => exact ⟨a, b, rfl⟩
  have h1 := hv.2 0 v1 _ rfl rfl
  have h2 := hv.2 1 v2 _ rfl rfl
  cases h2 with | d _ _ h2 => ?_
  cases h2
  cases h1 with | d _ _ h1 => ?_
  have hxs := strsX_inv xs l hl
  rw [hP]
  have fin : ∀ (q : ByteArray) (w' : World), q = strB (Lib.join l sep) → RowKit.Below w.heap.size w w' → ∃ μ' x, Ending.returned (.string q) = .returned x ∧ After cx w σ μ w' σ μ' ∧ RV w' σ μ' x (.d (.str (Lib.join l sep))) := by
    rintro q w' rfl hb
    exact ⟨μ, _, rfl, below_after hi hb, .d _ _ (.str _)⟩
  cases h1 with
  | sl0 base cap _ =>
    have hl0 : l = [] := by cases l with | nil => rfl | cons a b => simp at hxs
    subst hl0
    refine (Tryd.strings_Join_none base cap (strB sep) w).mono ?_
    rintro e w' ⟨rfl, rfl⟩
    exact fin _ _ (by simp [Lib.join, List.intercalate, strB]) (RowKit.Below.refl _ _)
  | sl b o n cap _ _ ys hn hcap hsz hcell hels =>
    subst hn
    by_cases h0 : l = []
    · subst h0
      have hx0 : xs = [] := by simpa using hxs
      subst hx0
      refine (Tryd.strings_Join_none (some ⟨b, o, none⟩) cap (strB sep) w).mono ?_
      rintro e w' ⟨rfl, rfl⟩
      exact fin _ _ (by simp [Lib.join, List.intercalate, strB]) (RowKit.Below.refl _ _)
    have hlen : xs.length = (l.map strB).length := by rw [hxs]; simp
    have hsz1 : sz = 1 := by
      have hne : xs ≠ [] := by rw [hxs]; simpa using h0
      obtain ⟨y, hy⟩ := List.exists_mem_of_ne_nil xs hne
      have := hsz y hy
      rw [hxs] at hy
      obtain ⟨q, _, rfl⟩ := List.mem_map.1 hy
      exact this.symm
    subst hsz1
    have hmap : (l.map strB).map (·.data.toList) = l := by
      rw [List.map_map]
      conv => rhs; rw [← List.map_id l]
      exact List.map_congr_left fun a _ => by simp [strB]
    have hsep : (strB sep).data.toList = sep := by simp [strB]
    have hj := Tryd.strings_Join b o cap (l.map strB) (strB sep) w (fun j x hx => ?_) ?_ (by rw [← hlen, hxs]; simpa using hc.1) (by rw [← hlen]; exact hcap) (by rw [hmap, hsep]; exact hc.2)
    · rw [hmap, hsep, ← hlen] at hj
      refine hj.mono ?_
      rintro e w' ⟨rfl, hb⟩
      exact fin _ _ rfl hb
    · rw [List.getElem?_map, Option.map_eq_some_iff] at hx
      obtain ⟨q, hq, rfl⟩ := hx
      have hjl : j < xs.length := by rw [hlen]; simpa using (List.getElem?_eq_some_iff.1 hq).1
      have g1 := (hcell j (by omega)).1
      have hlx : xs[j]? = some (.str q) := by rw [hxs, List.getElem?_map, hq]; rfl
      have g2 := hels j 0 (.str q) (.str q) hlx rfl
      simp only [Nat.mul_one, Nat.add_zero] at g2
      generalize ys j = z at g1 g2
      cases g2
      exact g1
    · have hpos : 0 < xs.length := by rw [hlen]; simpa using List.length_pos_iff.2 h0
      exact lt_of_cell (hcell 0 (by omega)).1

theorem nat_ok (hP : cx.P = Tryd.prog) : CallOk cx nat := by
  intro f args σ out σ' h w μ vs hi hcan hids hall hv
  unfold nat at h
  cases h72 : Nat.beq f 72 <;> rw [h72] at h
  · simp only [cond_false] at h
    cases h90 : Nat.beq f 90 <;> rw [h90] at h
    · cases h
    · obtain rfl := Nat.eq_of_beq_eq_true h90
      obtain ⟨u, rfl, h1, h2, h3⟩ := natJoin_ok hP h hi hcan hv
      refine ⟨⟨_, by rw [hP]; exact Tryd.func90, by kernel_rfl⟩, h1, h2, h3.mono ?_⟩
      rintro e w' ⟨μ', x, rfl, ha, hr⟩
      exact ⟨μ', ha, hr⟩
  · obtain rfl := Nat.eq_of_beq_eq_true h72
    obtain ⟨u, rfl, h1, h2, h3⟩ := natStr_ok hP h hi hcan hv
    refine ⟨⟨_, by rw [hP]; exact Tryd.func72, by kernel_rfl⟩, h1, h2, h3.mono ?_⟩
    rintro e w' ⟨μ', x, rfl, ha, hr⟩
    exact ⟨μ', ha, hr⟩

end
end Go.Vai
end

section
namespace Go.Vai
open Go.Proofs
def liveT : List (Nat × List (Nat × List Nat)) := [(12, [(0, [2, 3, 4]), (2, [2, 3, 4, 7]), (4, []), (6, [2, 3, 4, 8]), (9, [2, 3, 4, 7]), (19, [2, 3, 4, 8])]),
  (13, [(0, [0]), (2, [0, 5]), (4, [0, 8]), (6, [0, 8, 9]), (9, [0, 5]), (23, [0, 8, 9])]),
  (14, [(0, []), (2, [1, 3, 48, 49, 50]), (11, [1, 3, 48, 49, 50])]),
  (18, [(0, [0]), (2, [0, 9, 10, 11]), (4, [6]), (5, [0, 9, 10, 11]), (6, [6, 55, 56, 57]), (19, [6, 55, 56, 57])]),
  (19, [(0, [4]), (2, [0, 4, 5]), (7, [0, 4, 5])]),
  (25, [(0, [0, 1, 4])]),
  (26, [(0, []), (1, [0, 1]), (2, [0, 1])]),
  (30, [(0, [1]), (2, [0, 1]), (3, [0, 1]), (4, [0, 1]), (6, [0, 1]), (8, [0, 1]), (21, [0, 1])]),
  (31, [(0, [2]), (2, [0, 2, 14, 15]), (11, [0, 2, 14, 15])]),
  (32, [(0, []), (2, [1, 8, 9, 10]), (5, [1, 8, 9, 10])]),
  (33, [(0, [1, 2, 5]), (2, [1, 2, 5, 6]), (4, [5]), (6, [1, 2, 5, 7]), (11, [1, 2, 5, 6]), (23, [1, 2, 5, 7])]),
  (37, [(0, [])]),
  (38, [(0, []), (2, [0, 6, 7, 8]), (3, [0, 6, 7, 8])]),
  (42, [(0, []), (2, [3]), (4, [1, 3, 4, 5]), (45, [1, 3, 4, 5])]),
  (43, [(0, [1, 5, 6])]),
  (49, [(0, [3]), (2, [0, 3]), (5, [0, 3])]),
  (53, [(0, [])]),
  (54, [(0, [6]), (2, [0, 1, 5, 6]), (4, [0, 1, 5, 6]), (13, [0, 1, 5, 6])]),
  (56, [(0, [0, 1, 4, 5]), (2, [0, 4, 6])]),
  (60, [(0, [3]), (2, [0, 3]), (5, [0, 3])]),
  (62, [(0, [])]),
  (69, [(0, [])]),
  (71, [(0, [])]),
  (73, [(0, [0, 6]), (2, [0, 6, 7]), (4, [0, 6, 7]), (6, [0, 6, 7]), (8, [0, 6, 7, 8, 9]), (10, [0, 6, 7, 8, 9]), (17, [0, 6, 7]), (25, [0, 6, 7]), (37, [0, 6, 7, 8, 9])]),
  (74, [(0, [])]),
  (75, [(0, []), (2, [0, 3]), (5, [0, 3])]),
  (76, [(0, []), (2, [1, 3]), (9, [1, 3])]),
  (77, [(0, [5]), (2, [0, 1, 5, 6]), (7, [0, 1, 5, 6])]),
  (79, [(0, [3]), (2, [1, 3, 4]), (4, [1, 3, 4, 5, 6]), (6, [1, 3, 4, 5, 6, 7]), (7, [1, 3, 4]), (17, [1, 3, 4, 5, 6, 7])]),
  (80, [(0, [0, 1, 4])]),
  (81, [(0, [0, 4, 5]), (2, [0, 1, 4, 5]), (5, [0, 1, 4, 5])]),
  (86, [(0, []), (2, [0, 1, 7, 8]), (5, [0, 1, 7, 8])]),
  (90, [(0, [0, 1]), (2, [0, 1, 5]), (4, [0, 1, 5, 39, 40, 41]), (6, [8]), (8, [1, 8, 63, 64, 65]), (25, [0, 1, 5, 39, 40, 41]), (45, [1, 8, 63, 64, 65])]),
  (94, [(0, [0]), (2, [0, 12, 13, 14]), (4, [0, 5, 12, 13, 14]), (6, [0, 5, 12, 13, 14, 38, 39, 40]), (7, [0, 12, 13, 14]), (21, [0, 5, 12, 13, 14, 38, 39, 40])]),
  (95, [(0, []), (2, [0, 3]), (4, [0, 3, 4, 5, 7]), (5, [0, 3]), (6, [0, 3, 4, 5, 7, 8]), (19, [0, 3, 4, 5, 7, 8])]),
  (99, [(0, []), (2, [0, 1, 6, 7]), (15, [0, 1, 6, 7])]),
  (101, [(0, [4, 5]), (2, [0, 1, 4, 5]), (5, [0, 1, 4, 5])]),
  (102, [(0, [2]), (2, [0, 2, 3]), (11, [0, 2, 3])]),
  (103, [(0, []), (2, [0, 1, 7, 8]), (5, [0, 1, 7, 8])]),
  (107, [(0, [])]),
  (108, [(0, [])]),
  (110, [(0, [4, 5]), (2, [0, 1, 4, 5]), (5, [0, 1, 4, 5])])]

def live (f key : Nat) : List Nat := match getA liveT f with | some l => (match getA l key with | some r => r | none => []) | none => []
def signsD : D := .agg [.str [45, 62], .str [47, 92], .str [92, 47], .str [40], .str [41], .str [91], .str [93], .str [44], .str [46], .str [58], .str [59], .str [61], .str [92], .str [60], .str [62], .str [64], .str [126], .str [42], .str [48], .str [49]]
def acc : D := .agg [.int .u8 128, .int .u8 191, .int .u8 160, .int .u8 191, .int .u8 128, .int .u8 159, .int .u8 144, .int .u8 191, .int .u8 128, .int .u8 143, .int .u8 0, .int .u8 0, .int .u8 0, .int .u8 0, .int .u8 0, .int .u8 0, .int .u8 0, .int .u8 0, .int .u8 0, .int .u8 0, .int .u8 0, .int .u8 0, .int .u8 0, .int .u8 0, .int .u8 0, .int .u8 0, .int .u8 0, .int .u8 0, .int .u8 0, .int .u8 0, .int .u8 0, .int .u8 0]
def unW : DataW Unit → List D
  | .lit (.int k n) => [.int k n]
  | .agg l => l.map fun d => match d with | .lit (.int k n) => .int k n | _ => .nilIface
  | _ => []
noncomputable def glob : Nat → Option D
  | 0 => some signsD
  | 1 => some (.agg (unW Go.Pinned.utf8First))
  | 2 => some acc
  | _ => none
/-- What calls are spoken of. -/
def big : Nat := 4611686018427387904
def dom (f : Nat) (args : List V) : Bool :=
  bif Nat.beq f 30 then (match args with | [.d (.str s), .d (.int .i64 a)] => decide (s.length ≤ big) && (decide (0 ≤ a) && decide (a ≤ (s.length : Int))) | _ => true)
  else bif Nat.beq f 99 then (match args with | [.d (.str s), .d (.int .i64 a)] => decide (s.length ≤ big) && (decide (0 ≤ a) && decide (a < (s.length : Int))) | _ => true)
  else bif Nat.beq f 58 then (match args with | [.d (.str (b :: _))] => decide (128 ≤ b.toNat) | _ => true)
  else bif Nat.beq f 12 || Nat.beq f 14 then true
  else (match args with | [.d (.str s)] => decide (s.length ≤ big) | _ => true)
def flat (f key : Nat) : List Nat := bif Nat.beq f 54 && Nat.beq key 13 then [6, 7] else bif (Nat.beq f 101 || Nat.beq f 110) && Nat.beq key 5 then [5, 6] else bif Nat.beq f 102 && Nat.beq key 11 then [3] else bif Nat.beq f 81 && Nat.beq key 5 then [5] else []

noncomputable def cx : Cx := { dom := dom, P := Go.Proofs.Tryd.prog, live := live, glob := glob, keep := fun f => Nat.beq f 55, dfr := fun f => Nat.beq f 23, gives := fun f => Nat.beq f 13, pend := fun f r => bif Nat.beq f 26 && Nat.beq r 1 then some 5 else none, flat := flat, bare := fun nt d => (Nat.beq nt 129 && Nat.beq d 103) || (Nat.beq nt 42 && Nat.beq d 31), typed := fun nt d => (Nat.beq nt 17 && (Nat.beq d 8 || Nat.beq d 9)) || (Nat.beq nt 89 && (Nat.beq d 53 || Nat.beq d 54)), tagS := fun nt d => bif (Nat.beq nt 17 && Nat.beq d 8) || (Nat.beq nt 89 && Nat.beq d 53) then 6 else 0, nat := nat }

end Go.Vai
end

section
namespace Go.Vai
open Go.Proofs

/- What is asked of single bytes. -/
def Sp.blank (c : Int) : Bool := decide (c = 32) || decide (c = 9) || decide (c = 10) || decide (c = 13)
def Sp.letter (c : Int) : Bool := (decide (97 ≤ c) && decide (c ≤ 122)) || (decide (65 ≤ c) && decide (c ≤ 90)) || decide (c = 95)
def Sp.digit (c : Int) : Bool := decide (48 ≤ c) && decide (c ≤ 57)
def Sp.hasPre (s p : List UInt8) : Bool := decide (s.take p.length = p)

def none1 : Caller := fun _ _ _ => none

theorem none1_knows (cx : Cx) : knows cx none1 (evLim cx) := fun _ _ _ _ _ h => by cases h

/-- What is known, and one thing more. -/
def also (f : Nat) (F : List V → Option Out) (S : Caller) : Caller := fun g args σ =>
  bif Nat.beq g f then (match σ with | [] => (match F args with | some o => some (o, []) | none => none) | _ :: _ => none) else S g args σ

theorem also_knows {cx : Cx} {f : Nat} {F : List V → Option Out} {S : Caller} (hS : knows cx S (evLim cx)) (hF : ∀ args o, cx.dom f args = true → F args = some o → evLim cx f args [] = some (o, [])) : knows cx (also f F S) (evLim cx) := by
  intro g args σ r hd h
  unfold also at h
  cases hg : Nat.beq g f <;> rw [hg] at h
  · exact hS g args σ r hd h
  · obtain rfl := Nat.eq_of_beq_eq_true hg
    cases σ with
    | cons a b => cases h
    | nil =>
      simp only [cond_true] at h
      cases ho : F args with
      | none => rw [ho] at h; cases h
      | some o => rw [ho] at h; cases h; exact hF args o hd ho

def byteF (F : Int → Bool) : List V → Option Out
  | [.d (.int .u8 c)] => some (.ret (.d (.bool (F c))))
  | _ => none

theorem byteF_some {F : Int → Bool} {args : List V} {o : Out} (h : byteF F args = some o) : ∃ c, args = [.d (.int .u8 c)] ∧ o = .ret (.d (.bool (F c))) := by
  unfold byteF at h
  split at h
  · cases h; exact ⟨_, rfl, rfl⟩
  · cases h

theorem b25 (n : Nat) (S : Caller) (c : Int) : evBody cx S n 83 [.d (.int .u8 c)] [] = bif decide ((97 : Int) ≤ c) then bif decide (c ≤ (122 : Int)) then some (Out.ret (V.d (D.bool true)), []) else bif decide ((65 : Int) ≤ c) then bif decide (c ≤ (90 : Int)) then some (Out.ret (V.d (D.bool true)), []) else some (Out.ret (V.d (D.bool (decide (c = (95 : Int))))), []) else some (Out.ret (V.d (D.bool (decide (c = (95 : Int))))), []) else bif decide ((65 : Int) ≤ c) then bif decide (c ≤ (90 : Int)) then some (Out.ret (V.d (D.bool true)), []) else some (Out.ret (V.d (D.bool (decide (c = (95 : Int))))), []) else some (Out.ret (V.d (D.bool (decide (c = (95 : Int))))), []) := by kernel_rfl

theorem b24 (n : Nat) (S : Caller) (s p : List UInt8) : evBody cx S n 82 [.d (.str s), .d (.str p)] [] = bif decide ((↑p.length : Int) ≤ (↑s.length : Int)) then must (decide ((↑p.length : Int) ≤ (↑s.length : Int))) (some (Out.ret (V.d (D.bool (decide (List.drop 0 (List.take (↑p.length : Int).toNat s) = p)))), [])) else some (Out.ret (V.d (D.bool false)), []) := by kernel_rfl

theorem lim25 (c : Int) : evLim cx 83 [.d (.int .u8 c)] [] = some (.ret (.d (.bool (Sp.letter c))), []) := by
  refine lim_body (N := 0) (none1_knows cx) ?_
  rw [b25]
  unfold Sp.letter
  cases decide (c = 95) <;> cases decide (97 ≤ c) <;> cases decide (c ≤ 122) <;> cases decide (65 ≤ c) <;> cases decide (c ≤ 90) <;> rfl

theorem lim24 (s p : List UInt8) : evLim cx 82 [.d (.str s), .d (.str p)] [] = some (.ret (.d (.bool (Sp.hasPre s p))), []) := by
  refine lim_body (N := 0) (none1_knows cx) ?_
  rw [b24]
  unfold Sp.hasPre
  by_cases h : p.length ≤ s.length
  · have h' : decide ((p.length : Int) ≤ s.length) = true := decide_eq_true (by omega)
    simp only [h', must, cond_true, Int.toNat_natCast, List.drop_zero]
  · have h' : decide ((p.length : Int) ≤ s.length) = false := decide_eq_false (by omega)
    have : decide (s.take p.length = p) = false := decide_eq_false fun e => by
      have := congrArg List.length e
      simp at this
      omega
    simp only [h', cond_false, this]

end Go.Vai
end

section
namespace Go.Vai
open Go.Proofs

theorem drop_nil {s : List UInt8} {j : Nat} (h : s.drop j = []) : s.length ≤ j := by
  have := congrArg List.length h
  simp at this
  omega
theorem drop_cons {s r : List UInt8} {b : UInt8} {j : Nat} (h : s.drop j = b :: r) : j < s.length ∧ s[j]? = some b ∧ s.drop (j + 1) = r := by
  have h1 : j < s.length := by
    have := congrArg List.length h
    simp at this
    omega
  refine ⟨h1, ?_, ?_⟩
  · have := congrArg (·[0]?) h
    simpa using this
  · rw [← List.drop_drop, h]; rfl

theorem wrap1 {j : Nat} (h : j ≤ 4611686018427387904) : IntKind.i64.wrap ((j : Int) + 1) = ((j + 1 : Nat) : Int) := by
  rw [IntWalk.i64_in _ (by omega)]; rfl

def preF : List V → Option Out
  | [.d (.str s), .d (.str p)] => some (.ret (.d (.bool (Sp.hasPre s p))))
  | _ => none

theorem preF_some {args : List V} {o : Out} (h : preF args = some o) : ∃ s p, args = [.d (.str s), .d (.str p)] ∧ o = .ret (.d (.bool (Sp.hasPre s p))) := by
  unfold preF at h
  split at h
  · cases h; exact ⟨_, _, rfl, rfl⟩
  · cases h

noncomputable def S22 : Caller := also 83 (byteF Sp.letter) none1
noncomputable def S21 : Caller := also 82 preF none1

theorem S22_knows : knows cx S22 (evLim cx) := also_knows (none1_knows cx) fun args o _ h => by
  obtain ⟨c, rfl, rfl⟩ := byteF_some h
  exact lim25 c
theorem S21_knows : knows cx S21 (evLim cx) := also_knows (none1_knows cx) fun args o _ h => by
  obtain ⟨s, p, rfl, rfl⟩ := preF_some h
  exact lim24 s p

theorem b21 (n : Nat) (s p : List UInt8) : evBody cx S21 n 59 [.d (.str s), .d (.str p)] [] = some (Out.ret (V.d (D.bool (Sp.hasPre s p))), []) := by kernel_rfl

theorem b22 (n : Nat) (s : List UInt8) : evBody cx S22 n 60 [.d (.str s)] [] = LP cx S22 n 60 0 2 n [(0, V.d (D.str s)), (3, V.d (D.int IntKind.i64 (0 : Int)))] [] (AK cx S22 n 60 0 2 (EK cx 60 0)) := by kernel_rfl

theorem l22 (n k : Nat) (s : List UInt8) (i : Int) : LP cx S22 n 60 0 2 (k+1) [(0, .d (.str s)), (3, .d (.int .i64 i))] [] (AK cx S22 n 60 0 2 (EK cx 60 0)) = bif decide (i < (↑s.length : Int)) then must (decide (0 ≤ i) && decide (i < (↑s.length : Int))) (optK s[i.toNat]? fun b => bif Sp.letter (↑b.toNat : Int) then LP cx S22 n 60 0 2 k [(0, V.d (D.str s)), (3, V.d (D.int IntKind.i64 (IntKind.i64.wrap (i + (1 : Int)))))] [] (AK cx S22 n 60 0 2 (EK cx 60 0)) else bif decide ((0 : Int) < i) then must (decide (0 ≤ i) && decide (i < (↑s.length : Int))) (optK s[i.toNat]? fun b => bif decide ((48 : Int) ≤ (↑b.toNat : Int)) then must (decide (0 ≤ i) && decide (i < (↑s.length : Int))) (optK s[i.toNat]? fun b => bif decide ((↑b.toNat : Int) ≤ (57 : Int)) then LP cx S22 n 60 0 2 k [(0, V.d (D.str s)), (3, V.d (D.int IntKind.i64 (IntKind.i64.wrap (i + (1 : Int)))))] [] (AK cx S22 n 60 0 2 (EK cx 60 0)) else some (Out.ret (V.d (D.int IntKind.i64 i)), [])) else some (Out.ret (V.d (D.int IntKind.i64 i)), [])) else some (Out.ret (V.d (D.int IntKind.i64 i)), [])) else some (Out.ret (V.d (D.int IntKind.i64 i)), []) := by kernel_rfl

theorem lim21 (s p : List UInt8) : evLim cx 59 [.d (.str s), .d (.str p)] [] = some (.ret (.d (.bool (Sp.hasPre s p))), []) :=
  lim_body (N := 0) S21_knows (b21 0 s p)

/-- Where the name ends that a text has up to a place. -/
def Sp.nameGo : List UInt8 → Nat → Nat
  | [], j => j
  | b :: r, j => bif Sp.letter b.toNat || (decide (0 < j) && Sp.digit b.toNat) then Sp.nameGo r (j + 1) else j

def Sp.nameLen (s : List UInt8) : Nat := Sp.nameGo s 0

theorem name_loop {s : List UInt8} (hs : s.length ≤ 4611686018427387904) (n : Nat) : ∀ (r : List UInt8) (j k : Nat), s.drop j = r → j ≤ s.length → r.length < k →
    LP cx S22 n 60 0 2 k [(0, .d (.str s)), (3, .d (.int .i64 (j : Int)))] [] (AK cx S22 n 60 0 2 (EK cx 60 0)) = some (.ret (.d (.int .i64 (Sp.nameGo r j : Nat))), [])
  | [], j, k + 1, hr, hj, _ => by
    have := drop_nil hr
    rw [l22, decide_eq_false (by omega), cond_false]
    rfl
  | b :: r, j, k + 1, hr, hj, hk => by
    obtain ⟨h1, h2, h3⟩ := drop_cons hr
    have ih := name_loop hs n r (j + 1) k h3 h1 (by simpa using hk)
    have h0 : decide ((0 : Int) ≤ (j : Int)) = true := decide_eq_true (by omega)
    have hlt : decide ((j : Int) < (s.length : Int)) = true := decide_eq_true (by omega)
    rw [l22]
    simp only [hlt, h0, must, cond_true, Bool.and_self, Int.toNat_natCast, h2, optK, wrap1 (show j ≤ 4611686018427387904 by omega), ih, Sp.nameGo, Sp.digit]
    have hz : decide ((0 : Int) < (j : Int)) = decide (0 < j) := by
      by_cases h : 0 < j
      · rw [decide_eq_true h, decide_eq_true (by omega)]
      · rw [decide_eq_false h, decide_eq_false (by omega)]
    rw [hz]
    cases Sp.letter b.toNat <;> cases decide (0 < j) <;> cases decide ((48 : Int) ≤ (b.toNat : Int)) <;> cases decide ((b.toNat : Int) ≤ (57 : Int)) <;> rfl

theorem lim22 (s : List UInt8) (hs : s.length ≤ 4611686018427387904) : evLim cx 60 [.d (.str s)] [] = some (.ret (.d (.int .i64 (Sp.nameLen s : Nat))), []) := by
  refine lim_body (N := s.length + 1) S22_knows ?_
  rw [b22]
  exact name_loop hs _ s 0 _ rfl (Nat.zero_le _) (by omega)

end Go.Vai
end

section
namespace Go.Vai
open Go.Proofs

noncomputable def S13 : Caller := also 59 preF none1

theorem S13_knows : knows cx S13 (evLim cx) := also_knows (none1_knows cx) fun args o _ h => by
  obtain ⟨s, p, rfl, rfl⟩ := preF_some h
  exact lim21 s p

theorem b13 (n : Nat) (s : List UInt8) (a : Int) : evBody cx S13 n 30 [.d (.str s), .d (.int .i64 a)] [] = LP cx S13 n 30 0 1 n [(0, V.d (D.str s)), (1, V.d (D.int IntKind.i64 a))] [] (AK cx S13 n 30 0 1 (EK cx 30 0)) := by kernel_rfl

theorem l13 (n k : Nat) (s : List UInt8) (i : Int) : LP cx S13 n 30 0 1 (k+1) [(0, .d (.str s)), (1, .d (.int .i64 i))] [] (AK cx S13 n 30 0 1 (EK cx 30 0)) = bif decide (i < (↑s.length : Int)) then must (decide (0 ≤ i) && decide (i < (↑s.length : Int))) (optK s[i.toNat]? fun b => bif decide ((↑b.toNat : Int) = (32 : Int)) then bif decide ((↑b.toNat : Int) = (32 : Int)) then LP cx S13 n 30 0 1 k [(0, V.d (D.str s)), (1, V.d (D.int IntKind.i64 (IntKind.i64.wrap (i + (1 : Int)))))] [] (AK cx S13 n 30 0 1 (EK cx 30 0)) else bif decide ((↑b.toNat : Int) = (45 : Int)) then must (decide (0 ≤ i) && decide (i ≤ (↑s.length : Int))) (bif !Sp.hasPre (List.drop i.toNat (List.take s.length s)) [45, 45] then some (Out.ret (V.d (D.int IntKind.i64 i)), []) else LP cx S13 n 30 0 10 n [(0, V.d (D.str s)), (1, V.d (D.int IntKind.i64 i))] [] (AL cx S13 n 30 0 1 10 (inK cx S13 n 30 0 1 k (AK cx S13 n 30 0 1 (EK cx 30 0))))) else some (Out.ret (V.d (D.int IntKind.i64 i)), []) else bif decide ((↑b.toNat : Int) = (9 : Int)) then bif decide ((↑b.toNat : Int) = (9 : Int)) then LP cx S13 n 30 0 1 k [(0, V.d (D.str s)), (1, V.d (D.int IntKind.i64 (IntKind.i64.wrap (i + (1 : Int)))))] [] (AK cx S13 n 30 0 1 (EK cx 30 0)) else bif decide ((↑b.toNat : Int) = (45 : Int)) then must (decide (0 ≤ i) && decide (i ≤ (↑s.length : Int))) (bif !Sp.hasPre (List.drop i.toNat (List.take s.length s)) [45, 45] then some (Out.ret (V.d (D.int IntKind.i64 i)), []) else LP cx S13 n 30 0 10 n [(0, V.d (D.str s)), (1, V.d (D.int IntKind.i64 i))] [] (AL cx S13 n 30 0 1 10 (inK cx S13 n 30 0 1 k (AK cx S13 n 30 0 1 (EK cx 30 0))))) else some (Out.ret (V.d (D.int IntKind.i64 i)), []) else bif decide ((↑b.toNat : Int) = (10 : Int)) then bif decide ((↑b.toNat : Int) = (10 : Int)) then LP cx S13 n 30 0 1 k [(0, V.d (D.str s)), (1, V.d (D.int IntKind.i64 (IntKind.i64.wrap (i + (1 : Int)))))] [] (AK cx S13 n 30 0 1 (EK cx 30 0)) else bif decide ((↑b.toNat : Int) = (45 : Int)) then must (decide (0 ≤ i) && decide (i ≤ (↑s.length : Int))) (bif !Sp.hasPre (List.drop i.toNat (List.take s.length s)) [45, 45] then some (Out.ret (V.d (D.int IntKind.i64 i)), []) else LP cx S13 n 30 0 10 n [(0, V.d (D.str s)), (1, V.d (D.int IntKind.i64 i))] [] (AL cx S13 n 30 0 1 10 (inK cx S13 n 30 0 1 k (AK cx S13 n 30 0 1 (EK cx 30 0))))) else some (Out.ret (V.d (D.int IntKind.i64 i)), []) else bif decide ((↑b.toNat : Int) = (13 : Int)) then LP cx S13 n 30 0 1 k [(0, V.d (D.str s)), (1, V.d (D.int IntKind.i64 (IntKind.i64.wrap (i + (1 : Int)))))] [] (AK cx S13 n 30 0 1 (EK cx 30 0)) else bif decide ((↑b.toNat : Int) = (45 : Int)) then must (decide (0 ≤ i) && decide (i ≤ (↑s.length : Int))) (bif !Sp.hasPre (List.drop i.toNat (List.take s.length s)) [45, 45] then some (Out.ret (V.d (D.int IntKind.i64 i)), []) else LP cx S13 n 30 0 10 n [(0, V.d (D.str s)), (1, V.d (D.int IntKind.i64 i))] [] (AL cx S13 n 30 0 1 10 (inK cx S13 n 30 0 1 k (AK cx S13 n 30 0 1 (EK cx 30 0))))) else some (Out.ret (V.d (D.int IntKind.i64 i)), [])) else some (Out.ret (V.d (D.int IntKind.i64 i)), []) := by kernel_rfl

theorem l13i (n k k' : Nat) (s : List UInt8) (i : Int) : LP cx S13 n 30 0 10 (k+1) [(0, .d (.str s)), (1, .d (.int .i64 i))] [] (AL cx S13 n 30 0 1 10 (inK cx S13 n 30 0 1 k' (AK cx S13 n 30 0 1 (EK cx 30 0)))) = bif decide (i < (↑s.length : Int)) then must (decide (0 ≤ i) && decide (i < (↑s.length : Int))) (optK s[i.toNat]? fun b => bif !decide ((↑b.toNat : Int) = (10 : Int)) then LP cx S13 n 30 0 10 k [(0, V.d (D.str s)), (1, V.d (D.int IntKind.i64 (IntKind.i64.wrap (i + (1 : Int)))))] [] (AL cx S13 n 30 0 1 10 (inK cx S13 n 30 0 1 k' (AK cx S13 n 30 0 1 (EK cx 30 0)))) else LP cx S13 n 30 0 1 k' [(0, V.d (D.str s)), (1, V.d (D.int IntKind.i64 i))] [] (AK cx S13 n 30 0 1 (EK cx 30 0))) else LP cx S13 n 30 0 1 k' [(0, V.d (D.str s)), (1, V.d (D.int IntKind.i64 i))] [] (AK cx S13 n 30 0 1 (EK cx 30 0)) := by kernel_rfl

/-- The first place that is not let by; 'true': in a comment. -/
def Sp.pastGo : Bool → List UInt8 → Nat → Nat
  | _, [], j => j
  | true, b :: r, j => Sp.pastGo (!decide ((b.toNat : Int) = 10)) r (j + 1)
  | false, b :: r, j => bif Sp.blank b.toNat then Sp.pastGo false r (j + 1) else bif decide ((b.toNat : Int) = 45) && Sp.hasPre (b :: r) [45, 45] then Sp.pastGo true r (j + 1) else j

theorem past_loop {s : List UInt8} (hs : s.length ≤ 4611686018427387904) {n : Nat} (hn : s.length < n) : ∀ (r : List UInt8) (j : Nat), s.drop j = r → j ≤ s.length →
    (∀ k, r.length < k → LP cx S13 n 30 0 1 k [(0, .d (.str s)), (1, .d (.int .i64 (j : Int)))] [] (AK cx S13 n 30 0 1 (EK cx 30 0)) = some (.ret (.d (.int .i64 (Sp.pastGo false r j : Nat))), [])) ∧
    (∀ k k', r.length < k → r.length < k' → LP cx S13 n 30 0 10 k [(0, .d (.str s)), (1, .d (.int .i64 (j : Int)))] [] (AL cx S13 n 30 0 1 10 (inK cx S13 n 30 0 1 k' (AK cx S13 n 30 0 1 (EK cx 30 0)))) =
      some (.ret (.d (.int .i64 (Sp.pastGo true r j : Nat))), []))
  | [], j, hr, hj => by
    have := drop_nil hr
    have hge : decide ((j : Int) < (s.length : Int)) = false := decide_eq_false (by omega)
    have outer : ∀ k, 0 < k → LP cx S13 n 30 0 1 k [(0, .d (.str s)), (1, .d (.int .i64 (j : Int)))] [] (AK cx S13 n 30 0 1 (EK cx 30 0)) = some (.ret (.d (.int .i64 (j : Nat))), []) := by
      intro k hk
      obtain ⟨k, rfl⟩ : ∃ i, k = i + 1 := ⟨k - 1, by omega⟩
      rw [l13, hge, cond_false]
    refine ⟨outer, fun k k' hk hk' => ?_⟩
    obtain ⟨k, rfl⟩ : ∃ i, k = i + 1 := ⟨k - 1, by simp at hk; omega⟩
    rw [l13i, hge, cond_false, outer k' hk']
    rfl
  | b :: r, j, hr, hj => by
    obtain ⟨h1, h2, h3⟩ := drop_cons hr
    obtain ⟨ih1, ih2⟩ := past_loop hs hn r (j + 1) h3 h1
    have hlen : (b :: r).length ≤ s.length := by rw [← hr]; simp
    have h0 : decide ((0 : Int) ≤ (j : Int)) = true := decide_eq_true (by omega)
    have hlt : decide ((j : Int) < (s.length : Int)) = true := decide_eq_true (by omega)
    have hle : decide ((j : Int) ≤ (s.length : Int)) = true := decide_eq_true (by omega)
    have hw := wrap1 (show j ≤ 4611686018427387904 by omega)
    have step : ∀ k k', ((b.toNat : Int) = 10) = False → r.length < k' → r.length < k → LP cx S13 n 30 0 10 (k + 1) [(0, .d (.str s)), (1, .d (.int .i64 (j : Int)))] [] (AL cx S13 n 30 0 1 10 (inK cx S13 n 30 0 1 k' (AK cx S13 n 30 0 1 (EK cx 30 0)))) =
        some (.ret (.d (.int .i64 (Sp.pastGo true r (j + 1) : Nat))), []) := by
      intro k k' hb hk' hk
      rw [l13i]
      simp only [hlt, h0, must, cond_true, Bool.and_self, Int.toNat_natCast, h2, optK, hw, hb, decide_false, Bool.not_false]
      exact ih2 k k' hk hk'
    have outer : ∀ k, (b :: r).length < k → LP cx S13 n 30 0 1 k [(0, .d (.str s)), (1, .d (.int .i64 (j : Int)))] [] (AK cx S13 n 30 0 1 (EK cx 30 0)) = some (.ret (.d (.int .i64 (Sp.pastGo false (b :: r) j : Nat))), []) := by
      intro k hk
      obtain ⟨k, rfl⟩ : ∃ i, k = i + 1 := ⟨k - 1, by omega⟩
      obtain ⟨m, rfl⟩ : ∃ i, n = i + 1 := ⟨n - 1, by omega⟩
      have hk' : r.length < k := by simpa using hk
      rw [l13]
      simp only [hlt, h0, hle, must, cond_true, Bool.and_self, Int.toNat_natCast, h2, optK, hw, ih1 k hk', List.take_length, hr, Sp.pastGo, Sp.blank]
      by_cases h45 : (b.toNat : Int) = 45
      · have e1 : decide ((b.toNat : Int) = 32) = false := decide_eq_false (by omega)
        have e2 : decide ((b.toNat : Int) = 9) = false := decide_eq_false (by omega)
        have e3 : decide ((b.toNat : Int) = 10) = false := decide_eq_false (by omega)
        have e4 : decide ((b.toNat : Int) = 13) = false := decide_eq_false (by omega)
        have e5 : decide ((b.toNat : Int) = 45) = true := decide_eq_true h45
        have hin := step m k (by simp; omega) hk' (by simp at hlen; omega)
        simp only [e1, e2, e3, e4, e5, cond_false, cond_true, Bool.or_self, Bool.true_and, hin]
        cases Sp.hasPre (b :: r) [45, 45] <;> rfl
      · have e5 : decide ((b.toNat : Int) = 45) = false := decide_eq_false h45
        simp only [e5, cond_false, Bool.false_and]
        cases decide ((b.toNat : Int) = 32) <;> cases decide ((b.toNat : Int) = 9) <;> cases decide ((b.toNat : Int) = 10) <;> cases decide ((b.toNat : Int) = 13) <;> rfl
    refine ⟨outer, fun k k' hk hk' => ?_⟩
    obtain ⟨k, rfl⟩ : ∃ i, k = i + 1 := ⟨k - 1, by omega⟩
    by_cases hb : (b.toNat : Int) = 10
    · rw [l13i]
      simp only [hlt, h0, must, cond_true, Bool.and_self, Int.toNat_natCast, h2, optK, hb, decide_true, Bool.not_true, cond_false]
      rw [outer k' hk']
      simp [Sp.pastGo, Sp.blank, hb]
    · rw [step k k' (by simp [hb]) (by simp at hk'; omega) (by simpa using hk)]
      simp [Sp.pastGo, hb]

def Sp.past (s : List UInt8) (j : Nat) : Nat := Sp.pastGo false (s.drop j) j

theorem lim13 (s : List UInt8) (j : Nat) (hs : s.length ≤ 4611686018427387904) (hj : j ≤ s.length) : evLim cx 30 [.d (.str s), .d (.int .i64 (j : Int))] [] = some (.ret (.d (.int .i64 (Sp.past s j : Nat))), []) := by
  refine lim_body (N := s.length + 1) S13_knows ?_
  rw [b13]
  exact (past_loop hs (Nat.lt_succ_self _) (s.drop j) j rfl hj).1 _ (by simp; omega)

end Go.Vai
end

section
namespace Go.Vai
open Go.Proofs

def nameF : List V → Option Out
  | [.d (.str s)] => some (.ret (.d (.int .i64 (Sp.nameLen s : Nat))))
  | _ => none

theorem nameF_some {args : List V} {o : Out} (h : nameF args = some o) : ∃ s, args = [.d (.str s)] ∧ o = .ret (.d (.int .i64 (Sp.nameLen s : Nat))) := by
  unfold nameF at h
  split at h
  · cases h; exact ⟨_, rfl, rfl⟩
  · cases h

noncomputable def S14 : Caller := also 60 nameF (also 59 preF none1)

theorem S14_knows : knows cx S14 (evLim cx) := also_knows S13_knows fun args o hd h => by
  obtain ⟨s, rfl, rfl⟩ := nameF_some h
  exact lim22 s (of_decide_eq_true hd)

theorem b14 (n : Nat) (s : List UInt8) : evBody cx S14 n 31 [.d (.str s)] [] = must (decide (s.length ≤ big)) (bif decide ((0 : Int) < (↑(Sp.nameLen s) : Int)) then must (decide ((↑(Sp.nameLen s) : Int) ≤ (↑s.length : Int))) (some (Out.ret (V.d (D.agg [D.int IntKind.i64 (1 : Int), D.str (List.drop 0 (List.take (↑(Sp.nameLen s) : Int).toNat s)), D.int IntKind.i64 (0 : Int)])), [])) else LP cx S14 n 31 0 5 n [(0, V.d (D.str s)), (2, V.ptr 2 0), (14, V.d (D.agg [D.str [45, 62], D.str [47, 92], D.str [92, 47], D.str [40], D.str [41], D.str [91], D.str [93], D.str [44], D.str [46], D.str [58], D.str [59], D.str [61], D.str [92], D.str [60], D.str [62], D.str [64], D.str [126], D.str [42], D.str [48], D.str [49]])), (15, V.d (D.int IntKind.i64 (0 : Int)))] [(2, Ob.val 3 (V.d (D.agg [D.int IntKind.i64 (0 : Int), D.str [], D.int IntKind.i64 (0 : Int)])))] (AK cx S14 n 31 0 5 (EK cx 31 0))) := by kernel_rfl

theorem l14_0 (n k : Nat) (s : List UInt8) : LP cx S14 n 31 0 5 (k+1) [(0, .d (.str s)), (2, .ptr 2 0), (14, .d signsD), (15, .d (.int .i64 0))] [(2, .val 3 (.d (.agg [.int .i64 0, .str [], .int .i64 0])))] (AK cx S14 n 31 0 5 (EK cx 31 0)) = bif Sp.hasPre s [45, 62] then some (Out.ret (V.d (D.agg [D.int IntKind.i64 (2 : Int), D.str [45, 62], D.int IntKind.i64 (0 : Int)])), []) else LP cx S14 n 31 0 5 k [(0, V.d (D.str s)), (2, V.ptr 2 0), (14, V.d (D.agg [D.str [45, 62], D.str [47, 92], D.str [92, 47], D.str [40], D.str [41], D.str [91], D.str [93], D.str [44], D.str [46], D.str [58], D.str [59], D.str [61], D.str [92], D.str [60], D.str [62], D.str [64], D.str [126], D.str [42], D.str [48], D.str [49]])), (15, V.d (D.int IntKind.i64 (1 : Int)))] [(2, Ob.val 3 (V.d (D.agg [D.int IntKind.i64 (0 : Int), D.str [], D.int IntKind.i64 (0 : Int)])))] (AK cx S14 n 31 0 5 (EK cx 31 0)) := by kernel_rfl

theorem l14_1 (n k : Nat) (s : List UInt8) : LP cx S14 n 31 0 5 (k+1) [(0, .d (.str s)), (2, .ptr 2 0), (14, .d signsD), (15, .d (.int .i64 1))] [(2, .val 3 (.d (.agg [.int .i64 0, .str [], .int .i64 0])))] (AK cx S14 n 31 0 5 (EK cx 31 0)) = bif Sp.hasPre s [47, 92] then some (Out.ret (V.d (D.agg [D.int IntKind.i64 (2 : Int), D.str [47, 92], D.int IntKind.i64 (0 : Int)])), []) else LP cx S14 n 31 0 5 k [(0, V.d (D.str s)), (2, V.ptr 2 0), (14, V.d (D.agg [D.str [45, 62], D.str [47, 92], D.str [92, 47], D.str [40], D.str [41], D.str [91], D.str [93], D.str [44], D.str [46], D.str [58], D.str [59], D.str [61], D.str [92], D.str [60], D.str [62], D.str [64], D.str [126], D.str [42], D.str [48], D.str [49]])), (15, V.d (D.int IntKind.i64 (2 : Int)))] [(2, Ob.val 3 (V.d (D.agg [D.int IntKind.i64 (0 : Int), D.str [], D.int IntKind.i64 (0 : Int)])))] (AK cx S14 n 31 0 5 (EK cx 31 0)) := by kernel_rfl

theorem l14_2 (n k : Nat) (s : List UInt8) : LP cx S14 n 31 0 5 (k+1) [(0, .d (.str s)), (2, .ptr 2 0), (14, .d signsD), (15, .d (.int .i64 2))] [(2, .val 3 (.d (.agg [.int .i64 0, .str [], .int .i64 0])))] (AK cx S14 n 31 0 5 (EK cx 31 0)) = bif Sp.hasPre s [92, 47] then some (Out.ret (V.d (D.agg [D.int IntKind.i64 (2 : Int), D.str [92, 47], D.int IntKind.i64 (0 : Int)])), []) else LP cx S14 n 31 0 5 k [(0, V.d (D.str s)), (2, V.ptr 2 0), (14, V.d (D.agg [D.str [45, 62], D.str [47, 92], D.str [92, 47], D.str [40], D.str [41], D.str [91], D.str [93], D.str [44], D.str [46], D.str [58], D.str [59], D.str [61], D.str [92], D.str [60], D.str [62], D.str [64], D.str [126], D.str [42], D.str [48], D.str [49]])), (15, V.d (D.int IntKind.i64 (3 : Int)))] [(2, Ob.val 3 (V.d (D.agg [D.int IntKind.i64 (0 : Int), D.str [], D.int IntKind.i64 (0 : Int)])))] (AK cx S14 n 31 0 5 (EK cx 31 0)) := by kernel_rfl

theorem l14_3 (n k : Nat) (s : List UInt8) : LP cx S14 n 31 0 5 (k+1) [(0, .d (.str s)), (2, .ptr 2 0), (14, .d signsD), (15, .d (.int .i64 3))] [(2, .val 3 (.d (.agg [.int .i64 0, .str [], .int .i64 0])))] (AK cx S14 n 31 0 5 (EK cx 31 0)) = bif Sp.hasPre s [40] then some (Out.ret (V.d (D.agg [D.int IntKind.i64 (2 : Int), D.str [40], D.int IntKind.i64 (0 : Int)])), []) else LP cx S14 n 31 0 5 k [(0, V.d (D.str s)), (2, V.ptr 2 0), (14, V.d (D.agg [D.str [45, 62], D.str [47, 92], D.str [92, 47], D.str [40], D.str [41], D.str [91], D.str [93], D.str [44], D.str [46], D.str [58], D.str [59], D.str [61], D.str [92], D.str [60], D.str [62], D.str [64], D.str [126], D.str [42], D.str [48], D.str [49]])), (15, V.d (D.int IntKind.i64 (4 : Int)))] [(2, Ob.val 3 (V.d (D.agg [D.int IntKind.i64 (0 : Int), D.str [], D.int IntKind.i64 (0 : Int)])))] (AK cx S14 n 31 0 5 (EK cx 31 0)) := by kernel_rfl

theorem l14_4 (n k : Nat) (s : List UInt8) : LP cx S14 n 31 0 5 (k+1) [(0, .d (.str s)), (2, .ptr 2 0), (14, .d signsD), (15, .d (.int .i64 4))] [(2, .val 3 (.d (.agg [.int .i64 0, .str [], .int .i64 0])))] (AK cx S14 n 31 0 5 (EK cx 31 0)) = bif Sp.hasPre s [41] then some (Out.ret (V.d (D.agg [D.int IntKind.i64 (2 : Int), D.str [41], D.int IntKind.i64 (0 : Int)])), []) else LP cx S14 n 31 0 5 k [(0, V.d (D.str s)), (2, V.ptr 2 0), (14, V.d (D.agg [D.str [45, 62], D.str [47, 92], D.str [92, 47], D.str [40], D.str [41], D.str [91], D.str [93], D.str [44], D.str [46], D.str [58], D.str [59], D.str [61], D.str [92], D.str [60], D.str [62], D.str [64], D.str [126], D.str [42], D.str [48], D.str [49]])), (15, V.d (D.int IntKind.i64 (5 : Int)))] [(2, Ob.val 3 (V.d (D.agg [D.int IntKind.i64 (0 : Int), D.str [], D.int IntKind.i64 (0 : Int)])))] (AK cx S14 n 31 0 5 (EK cx 31 0)) := by kernel_rfl

theorem l14_5 (n k : Nat) (s : List UInt8) : LP cx S14 n 31 0 5 (k+1) [(0, .d (.str s)), (2, .ptr 2 0), (14, .d signsD), (15, .d (.int .i64 5))] [(2, .val 3 (.d (.agg [.int .i64 0, .str [], .int .i64 0])))] (AK cx S14 n 31 0 5 (EK cx 31 0)) = bif Sp.hasPre s [91] then some (Out.ret (V.d (D.agg [D.int IntKind.i64 (2 : Int), D.str [91], D.int IntKind.i64 (0 : Int)])), []) else LP cx S14 n 31 0 5 k [(0, V.d (D.str s)), (2, V.ptr 2 0), (14, V.d (D.agg [D.str [45, 62], D.str [47, 92], D.str [92, 47], D.str [40], D.str [41], D.str [91], D.str [93], D.str [44], D.str [46], D.str [58], D.str [59], D.str [61], D.str [92], D.str [60], D.str [62], D.str [64], D.str [126], D.str [42], D.str [48], D.str [49]])), (15, V.d (D.int IntKind.i64 (6 : Int)))] [(2, Ob.val 3 (V.d (D.agg [D.int IntKind.i64 (0 : Int), D.str [], D.int IntKind.i64 (0 : Int)])))] (AK cx S14 n 31 0 5 (EK cx 31 0)) := by kernel_rfl

theorem l14_6 (n k : Nat) (s : List UInt8) : LP cx S14 n 31 0 5 (k+1) [(0, .d (.str s)), (2, .ptr 2 0), (14, .d signsD), (15, .d (.int .i64 6))] [(2, .val 3 (.d (.agg [.int .i64 0, .str [], .int .i64 0])))] (AK cx S14 n 31 0 5 (EK cx 31 0)) = bif Sp.hasPre s [93] then some (Out.ret (V.d (D.agg [D.int IntKind.i64 (2 : Int), D.str [93], D.int IntKind.i64 (0 : Int)])), []) else LP cx S14 n 31 0 5 k [(0, V.d (D.str s)), (2, V.ptr 2 0), (14, V.d (D.agg [D.str [45, 62], D.str [47, 92], D.str [92, 47], D.str [40], D.str [41], D.str [91], D.str [93], D.str [44], D.str [46], D.str [58], D.str [59], D.str [61], D.str [92], D.str [60], D.str [62], D.str [64], D.str [126], D.str [42], D.str [48], D.str [49]])), (15, V.d (D.int IntKind.i64 (7 : Int)))] [(2, Ob.val 3 (V.d (D.agg [D.int IntKind.i64 (0 : Int), D.str [], D.int IntKind.i64 (0 : Int)])))] (AK cx S14 n 31 0 5 (EK cx 31 0)) := by kernel_rfl

theorem l14_7 (n k : Nat) (s : List UInt8) : LP cx S14 n 31 0 5 (k+1) [(0, .d (.str s)), (2, .ptr 2 0), (14, .d signsD), (15, .d (.int .i64 7))] [(2, .val 3 (.d (.agg [.int .i64 0, .str [], .int .i64 0])))] (AK cx S14 n 31 0 5 (EK cx 31 0)) = bif Sp.hasPre s [44] then some (Out.ret (V.d (D.agg [D.int IntKind.i64 (2 : Int), D.str [44], D.int IntKind.i64 (0 : Int)])), []) else LP cx S14 n 31 0 5 k [(0, V.d (D.str s)), (2, V.ptr 2 0), (14, V.d (D.agg [D.str [45, 62], D.str [47, 92], D.str [92, 47], D.str [40], D.str [41], D.str [91], D.str [93], D.str [44], D.str [46], D.str [58], D.str [59], D.str [61], D.str [92], D.str [60], D.str [62], D.str [64], D.str [126], D.str [42], D.str [48], D.str [49]])), (15, V.d (D.int IntKind.i64 (8 : Int)))] [(2, Ob.val 3 (V.d (D.agg [D.int IntKind.i64 (0 : Int), D.str [], D.int IntKind.i64 (0 : Int)])))] (AK cx S14 n 31 0 5 (EK cx 31 0)) := by kernel_rfl

theorem l14_8 (n k : Nat) (s : List UInt8) : LP cx S14 n 31 0 5 (k+1) [(0, .d (.str s)), (2, .ptr 2 0), (14, .d signsD), (15, .d (.int .i64 8))] [(2, .val 3 (.d (.agg [.int .i64 0, .str [], .int .i64 0])))] (AK cx S14 n 31 0 5 (EK cx 31 0)) = bif Sp.hasPre s [46] then some (Out.ret (V.d (D.agg [D.int IntKind.i64 (2 : Int), D.str [46], D.int IntKind.i64 (0 : Int)])), []) else LP cx S14 n 31 0 5 k [(0, V.d (D.str s)), (2, V.ptr 2 0), (14, V.d (D.agg [D.str [45, 62], D.str [47, 92], D.str [92, 47], D.str [40], D.str [41], D.str [91], D.str [93], D.str [44], D.str [46], D.str [58], D.str [59], D.str [61], D.str [92], D.str [60], D.str [62], D.str [64], D.str [126], D.str [42], D.str [48], D.str [49]])), (15, V.d (D.int IntKind.i64 (9 : Int)))] [(2, Ob.val 3 (V.d (D.agg [D.int IntKind.i64 (0 : Int), D.str [], D.int IntKind.i64 (0 : Int)])))] (AK cx S14 n 31 0 5 (EK cx 31 0)) := by kernel_rfl

theorem l14_9 (n k : Nat) (s : List UInt8) : LP cx S14 n 31 0 5 (k+1) [(0, .d (.str s)), (2, .ptr 2 0), (14, .d signsD), (15, .d (.int .i64 9))] [(2, .val 3 (.d (.agg [.int .i64 0, .str [], .int .i64 0])))] (AK cx S14 n 31 0 5 (EK cx 31 0)) = bif Sp.hasPre s [58] then some (Out.ret (V.d (D.agg [D.int IntKind.i64 (2 : Int), D.str [58], D.int IntKind.i64 (0 : Int)])), []) else LP cx S14 n 31 0 5 k [(0, V.d (D.str s)), (2, V.ptr 2 0), (14, V.d (D.agg [D.str [45, 62], D.str [47, 92], D.str [92, 47], D.str [40], D.str [41], D.str [91], D.str [93], D.str [44], D.str [46], D.str [58], D.str [59], D.str [61], D.str [92], D.str [60], D.str [62], D.str [64], D.str [126], D.str [42], D.str [48], D.str [49]])), (15, V.d (D.int IntKind.i64 (10 : Int)))] [(2, Ob.val 3 (V.d (D.agg [D.int IntKind.i64 (0 : Int), D.str [], D.int IntKind.i64 (0 : Int)])))] (AK cx S14 n 31 0 5 (EK cx 31 0)) := by kernel_rfl

theorem l14_10 (n k : Nat) (s : List UInt8) : LP cx S14 n 31 0 5 (k+1) [(0, .d (.str s)), (2, .ptr 2 0), (14, .d signsD), (15, .d (.int .i64 10))] [(2, .val 3 (.d (.agg [.int .i64 0, .str [], .int .i64 0])))] (AK cx S14 n 31 0 5 (EK cx 31 0)) = bif Sp.hasPre s [59] then some (Out.ret (V.d (D.agg [D.int IntKind.i64 (2 : Int), D.str [59], D.int IntKind.i64 (0 : Int)])), []) else LP cx S14 n 31 0 5 k [(0, V.d (D.str s)), (2, V.ptr 2 0), (14, V.d (D.agg [D.str [45, 62], D.str [47, 92], D.str [92, 47], D.str [40], D.str [41], D.str [91], D.str [93], D.str [44], D.str [46], D.str [58], D.str [59], D.str [61], D.str [92], D.str [60], D.str [62], D.str [64], D.str [126], D.str [42], D.str [48], D.str [49]])), (15, V.d (D.int IntKind.i64 (11 : Int)))] [(2, Ob.val 3 (V.d (D.agg [D.int IntKind.i64 (0 : Int), D.str [], D.int IntKind.i64 (0 : Int)])))] (AK cx S14 n 31 0 5 (EK cx 31 0)) := by kernel_rfl

theorem l14_11 (n k : Nat) (s : List UInt8) : LP cx S14 n 31 0 5 (k+1) [(0, .d (.str s)), (2, .ptr 2 0), (14, .d signsD), (15, .d (.int .i64 11))] [(2, .val 3 (.d (.agg [.int .i64 0, .str [], .int .i64 0])))] (AK cx S14 n 31 0 5 (EK cx 31 0)) = bif Sp.hasPre s [61] then some (Out.ret (V.d (D.agg [D.int IntKind.i64 (2 : Int), D.str [61], D.int IntKind.i64 (0 : Int)])), []) else LP cx S14 n 31 0 5 k [(0, V.d (D.str s)), (2, V.ptr 2 0), (14, V.d (D.agg [D.str [45, 62], D.str [47, 92], D.str [92, 47], D.str [40], D.str [41], D.str [91], D.str [93], D.str [44], D.str [46], D.str [58], D.str [59], D.str [61], D.str [92], D.str [60], D.str [62], D.str [64], D.str [126], D.str [42], D.str [48], D.str [49]])), (15, V.d (D.int IntKind.i64 (12 : Int)))] [(2, Ob.val 3 (V.d (D.agg [D.int IntKind.i64 (0 : Int), D.str [], D.int IntKind.i64 (0 : Int)])))] (AK cx S14 n 31 0 5 (EK cx 31 0)) := by kernel_rfl

theorem l14_12 (n k : Nat) (s : List UInt8) : LP cx S14 n 31 0 5 (k+1) [(0, .d (.str s)), (2, .ptr 2 0), (14, .d signsD), (15, .d (.int .i64 12))] [(2, .val 3 (.d (.agg [.int .i64 0, .str [], .int .i64 0])))] (AK cx S14 n 31 0 5 (EK cx 31 0)) = bif Sp.hasPre s [92] then some (Out.ret (V.d (D.agg [D.int IntKind.i64 (2 : Int), D.str [92], D.int IntKind.i64 (0 : Int)])), []) else LP cx S14 n 31 0 5 k [(0, V.d (D.str s)), (2, V.ptr 2 0), (14, V.d (D.agg [D.str [45, 62], D.str [47, 92], D.str [92, 47], D.str [40], D.str [41], D.str [91], D.str [93], D.str [44], D.str [46], D.str [58], D.str [59], D.str [61], D.str [92], D.str [60], D.str [62], D.str [64], D.str [126], D.str [42], D.str [48], D.str [49]])), (15, V.d (D.int IntKind.i64 (13 : Int)))] [(2, Ob.val 3 (V.d (D.agg [D.int IntKind.i64 (0 : Int), D.str [], D.int IntKind.i64 (0 : Int)])))] (AK cx S14 n 31 0 5 (EK cx 31 0)) := by kernel_rfl

theorem l14_13 (n k : Nat) (s : List UInt8) : LP cx S14 n 31 0 5 (k+1) [(0, .d (.str s)), (2, .ptr 2 0), (14, .d signsD), (15, .d (.int .i64 13))] [(2, .val 3 (.d (.agg [.int .i64 0, .str [], .int .i64 0])))] (AK cx S14 n 31 0 5 (EK cx 31 0)) = bif Sp.hasPre s [60] then some (Out.ret (V.d (D.agg [D.int IntKind.i64 (2 : Int), D.str [60], D.int IntKind.i64 (0 : Int)])), []) else LP cx S14 n 31 0 5 k [(0, V.d (D.str s)), (2, V.ptr 2 0), (14, V.d (D.agg [D.str [45, 62], D.str [47, 92], D.str [92, 47], D.str [40], D.str [41], D.str [91], D.str [93], D.str [44], D.str [46], D.str [58], D.str [59], D.str [61], D.str [92], D.str [60], D.str [62], D.str [64], D.str [126], D.str [42], D.str [48], D.str [49]])), (15, V.d (D.int IntKind.i64 (14 : Int)))] [(2, Ob.val 3 (V.d (D.agg [D.int IntKind.i64 (0 : Int), D.str [], D.int IntKind.i64 (0 : Int)])))] (AK cx S14 n 31 0 5 (EK cx 31 0)) := by kernel_rfl

theorem l14_14 (n k : Nat) (s : List UInt8) : LP cx S14 n 31 0 5 (k+1) [(0, .d (.str s)), (2, .ptr 2 0), (14, .d signsD), (15, .d (.int .i64 14))] [(2, .val 3 (.d (.agg [.int .i64 0, .str [], .int .i64 0])))] (AK cx S14 n 31 0 5 (EK cx 31 0)) = bif Sp.hasPre s [62] then some (Out.ret (V.d (D.agg [D.int IntKind.i64 (2 : Int), D.str [62], D.int IntKind.i64 (0 : Int)])), []) else LP cx S14 n 31 0 5 k [(0, V.d (D.str s)), (2, V.ptr 2 0), (14, V.d (D.agg [D.str [45, 62], D.str [47, 92], D.str [92, 47], D.str [40], D.str [41], D.str [91], D.str [93], D.str [44], D.str [46], D.str [58], D.str [59], D.str [61], D.str [92], D.str [60], D.str [62], D.str [64], D.str [126], D.str [42], D.str [48], D.str [49]])), (15, V.d (D.int IntKind.i64 (15 : Int)))] [(2, Ob.val 3 (V.d (D.agg [D.int IntKind.i64 (0 : Int), D.str [], D.int IntKind.i64 (0 : Int)])))] (AK cx S14 n 31 0 5 (EK cx 31 0)) := by kernel_rfl

theorem l14_15 (n k : Nat) (s : List UInt8) : LP cx S14 n 31 0 5 (k+1) [(0, .d (.str s)), (2, .ptr 2 0), (14, .d signsD), (15, .d (.int .i64 15))] [(2, .val 3 (.d (.agg [.int .i64 0, .str [], .int .i64 0])))] (AK cx S14 n 31 0 5 (EK cx 31 0)) = bif Sp.hasPre s [64] then some (Out.ret (V.d (D.agg [D.int IntKind.i64 (2 : Int), D.str [64], D.int IntKind.i64 (0 : Int)])), []) else LP cx S14 n 31 0 5 k [(0, V.d (D.str s)), (2, V.ptr 2 0), (14, V.d (D.agg [D.str [45, 62], D.str [47, 92], D.str [92, 47], D.str [40], D.str [41], D.str [91], D.str [93], D.str [44], D.str [46], D.str [58], D.str [59], D.str [61], D.str [92], D.str [60], D.str [62], D.str [64], D.str [126], D.str [42], D.str [48], D.str [49]])), (15, V.d (D.int IntKind.i64 (16 : Int)))] [(2, Ob.val 3 (V.d (D.agg [D.int IntKind.i64 (0 : Int), D.str [], D.int IntKind.i64 (0 : Int)])))] (AK cx S14 n 31 0 5 (EK cx 31 0)) := by kernel_rfl

theorem l14_16 (n k : Nat) (s : List UInt8) : LP cx S14 n 31 0 5 (k+1) [(0, .d (.str s)), (2, .ptr 2 0), (14, .d signsD), (15, .d (.int .i64 16))] [(2, .val 3 (.d (.agg [.int .i64 0, .str [], .int .i64 0])))] (AK cx S14 n 31 0 5 (EK cx 31 0)) = bif Sp.hasPre s [126] then some (Out.ret (V.d (D.agg [D.int IntKind.i64 (2 : Int), D.str [126], D.int IntKind.i64 (0 : Int)])), []) else LP cx S14 n 31 0 5 k [(0, V.d (D.str s)), (2, V.ptr 2 0), (14, V.d (D.agg [D.str [45, 62], D.str [47, 92], D.str [92, 47], D.str [40], D.str [41], D.str [91], D.str [93], D.str [44], D.str [46], D.str [58], D.str [59], D.str [61], D.str [92], D.str [60], D.str [62], D.str [64], D.str [126], D.str [42], D.str [48], D.str [49]])), (15, V.d (D.int IntKind.i64 (17 : Int)))] [(2, Ob.val 3 (V.d (D.agg [D.int IntKind.i64 (0 : Int), D.str [], D.int IntKind.i64 (0 : Int)])))] (AK cx S14 n 31 0 5 (EK cx 31 0)) := by kernel_rfl

theorem l14_17 (n k : Nat) (s : List UInt8) : LP cx S14 n 31 0 5 (k+1) [(0, .d (.str s)), (2, .ptr 2 0), (14, .d signsD), (15, .d (.int .i64 17))] [(2, .val 3 (.d (.agg [.int .i64 0, .str [], .int .i64 0])))] (AK cx S14 n 31 0 5 (EK cx 31 0)) = bif Sp.hasPre s [42] then some (Out.ret (V.d (D.agg [D.int IntKind.i64 (2 : Int), D.str [42], D.int IntKind.i64 (0 : Int)])), []) else LP cx S14 n 31 0 5 k [(0, V.d (D.str s)), (2, V.ptr 2 0), (14, V.d (D.agg [D.str [45, 62], D.str [47, 92], D.str [92, 47], D.str [40], D.str [41], D.str [91], D.str [93], D.str [44], D.str [46], D.str [58], D.str [59], D.str [61], D.str [92], D.str [60], D.str [62], D.str [64], D.str [126], D.str [42], D.str [48], D.str [49]])), (15, V.d (D.int IntKind.i64 (18 : Int)))] [(2, Ob.val 3 (V.d (D.agg [D.int IntKind.i64 (0 : Int), D.str [], D.int IntKind.i64 (0 : Int)])))] (AK cx S14 n 31 0 5 (EK cx 31 0)) := by kernel_rfl

theorem l14_18 (n k : Nat) (s : List UInt8) : LP cx S14 n 31 0 5 (k+1) [(0, .d (.str s)), (2, .ptr 2 0), (14, .d signsD), (15, .d (.int .i64 18))] [(2, .val 3 (.d (.agg [.int .i64 0, .str [], .int .i64 0])))] (AK cx S14 n 31 0 5 (EK cx 31 0)) = bif Sp.hasPre s [48] then some (Out.ret (V.d (D.agg [D.int IntKind.i64 (2 : Int), D.str [48], D.int IntKind.i64 (0 : Int)])), []) else LP cx S14 n 31 0 5 k [(0, V.d (D.str s)), (2, V.ptr 2 0), (14, V.d (D.agg [D.str [45, 62], D.str [47, 92], D.str [92, 47], D.str [40], D.str [41], D.str [91], D.str [93], D.str [44], D.str [46], D.str [58], D.str [59], D.str [61], D.str [92], D.str [60], D.str [62], D.str [64], D.str [126], D.str [42], D.str [48], D.str [49]])), (15, V.d (D.int IntKind.i64 (19 : Int)))] [(2, Ob.val 3 (V.d (D.agg [D.int IntKind.i64 (0 : Int), D.str [], D.int IntKind.i64 (0 : Int)])))] (AK cx S14 n 31 0 5 (EK cx 31 0)) := by kernel_rfl

theorem l14_19 (n k : Nat) (s : List UInt8) : LP cx S14 n 31 0 5 (k+1) [(0, .d (.str s)), (2, .ptr 2 0), (14, .d signsD), (15, .d (.int .i64 19))] [(2, .val 3 (.d (.agg [.int .i64 0, .str [], .int .i64 0])))] (AK cx S14 n 31 0 5 (EK cx 31 0)) = bif Sp.hasPre s [49] then some (Out.ret (V.d (D.agg [D.int IntKind.i64 (2 : Int), D.str [49], D.int IntKind.i64 (0 : Int)])), []) else LP cx S14 n 31 0 5 k [(0, V.d (D.str s)), (2, V.ptr 2 0), (14, V.d (D.agg [D.str [45, 62], D.str [47, 92], D.str [92, 47], D.str [40], D.str [41], D.str [91], D.str [93], D.str [44], D.str [46], D.str [58], D.str [59], D.str [61], D.str [92], D.str [60], D.str [62], D.str [64], D.str [126], D.str [42], D.str [48], D.str [49]])), (15, V.d (D.int IntKind.i64 (20 : Int)))] [(2, Ob.val 3 (V.d (D.agg [D.int IntKind.i64 (0 : Int), D.str [], D.int IntKind.i64 (0 : Int)])))] (AK cx S14 n 31 0 5 (EK cx 31 0)) := by kernel_rfl

theorem l14_20 (n k : Nat) (s : List UInt8) : LP cx S14 n 31 0 5 (k+1) [(0, .d (.str s)), (2, .ptr 2 0), (14, .d signsD), (15, .d (.int .i64 20))] [(2, .val 3 (.d (.agg [.int .i64 0, .str [], .int .i64 0])))] (AK cx S14 n 31 0 5 (EK cx 31 0)) = some (Out.ret (V.d (D.agg [D.int IntKind.i64 (0 : Int), D.str [], D.int IntKind.i64 (0 : Int)])), []) := by kernel_rfl

def Sp.signs : List (List UInt8) := [[45, 62], [47, 92], [92, 47], [40], [41], [91], [93], [44], [46], [58], [59], [61], [92], [60], [62], [64], [126], [42], [48], [49]]

def Sp.signGo (s : List UInt8) : List (List UInt8) → Int × List UInt8
  | [] => (0, [])
  | x :: r => bif Sp.hasPre s x then (2, x) else Sp.signGo s r

/-- The token that a text begins with. -/
def Sp.one (s : List UInt8) : Int × List UInt8 := bif decide (0 < Sp.nameLen s) then (1, s.take (Sp.nameLen s)) else Sp.signGo s Sp.signs

theorem nameGo_le : ∀ (r : List UInt8) (j : Nat), Sp.nameGo r j ≤ j + r.length
  | [], j => by simp [Sp.nameGo]
  | b :: r, j => by
    simp only [Sp.nameGo]
    cases (Sp.letter b.toNat || (decide (0 < j) && Sp.digit b.toNat))
    · simp
    · have := nameGo_le r (j + 1)
      simp only [cond_true, List.length_cons]
      omega

theorem nameLen_le (s : List UInt8) : Sp.nameLen s ≤ s.length := by simpa [Sp.nameLen] using nameGo_le s 0

def oneRes (p : Int × List UInt8) : Option (Out × St) := some (.ret (.d (.agg [.int .i64 p.1, .str p.2, .int .i64 0])), [])

theorem one_loop (s : List UInt8) : LP cx S14 21 31 0 5 21 [(0, .d (.str s)), (2, .ptr 2 0), (14, .d signsD), (15, .d (.int .i64 0))] [(2, .val 3 (.d (.agg [.int .i64 0, .str [], .int .i64 0])))] (AK cx S14 21 31 0 5 (EK cx 31 0)) =
    oneRes (Sp.signGo s Sp.signs) := by
  unfold Sp.signs
  refine (l14_0 21 20 s).trans ?_
  unfold Sp.signGo
  cases Sp.hasPre s [45, 62]
  case true => rfl
  simp only [cond_false]
  refine (l14_1 21 19 s).trans ?_
  unfold Sp.signGo
  cases Sp.hasPre s [47, 92]
  case true => rfl
  simp only [cond_false]
  refine (l14_2 21 18 s).trans ?_
  unfold Sp.signGo
  cases Sp.hasPre s [92, 47]
  case true => rfl
  simp only [cond_false]
  refine (l14_3 21 17 s).trans ?_
  unfold Sp.signGo
  cases Sp.hasPre s [40]
  case true => rfl
  simp only [cond_false]
  refine (l14_4 21 16 s).trans ?_
  unfold Sp.signGo
  cases Sp.hasPre s [41]
  case true => rfl
  simp only [cond_false]
  refine (l14_5 21 15 s).trans ?_
  unfold Sp.signGo
  cases Sp.hasPre s [91]
  case true => rfl
  simp only [cond_false]
  refine (l14_6 21 14 s).trans ?_
  unfold Sp.signGo
  cases Sp.hasPre s [93]
  case true => rfl
  simp only [cond_false]
  refine (l14_7 21 13 s).trans ?_
  unfold Sp.signGo
  cases Sp.hasPre s [44]
  case true => rfl
  simp only [cond_false]
  refine (l14_8 21 12 s).trans ?_
  unfold Sp.signGo
  cases Sp.hasPre s [46]
  case true => rfl
  simp only [cond_false]
  refine (l14_9 21 11 s).trans ?_
  unfold Sp.signGo
  cases Sp.hasPre s [58]
  case true => rfl
  simp only [cond_false]
  refine (l14_10 21 10 s).trans ?_
  unfold Sp.signGo
  cases Sp.hasPre s [59]
  case true => rfl
  simp only [cond_false]
  refine (l14_11 21 9 s).trans ?_
  unfold Sp.signGo
  cases Sp.hasPre s [61]
  case true => rfl
  simp only [cond_false]
  refine (l14_12 21 8 s).trans ?_
  unfold Sp.signGo
  cases Sp.hasPre s [92]
  case true => rfl
  simp only [cond_false]
  refine (l14_13 21 7 s).trans ?_
  unfold Sp.signGo
  cases Sp.hasPre s [60]
  case true => rfl
  simp only [cond_false]
  refine (l14_14 21 6 s).trans ?_
  unfold Sp.signGo
  cases Sp.hasPre s [62]
  case true => rfl
  simp only [cond_false]
  refine (l14_15 21 5 s).trans ?_
  unfold Sp.signGo
  cases Sp.hasPre s [64]
  case true => rfl
  simp only [cond_false]
  refine (l14_16 21 4 s).trans ?_
  unfold Sp.signGo
  cases Sp.hasPre s [126]
  case true => rfl
  simp only [cond_false]
  refine (l14_17 21 3 s).trans ?_
  unfold Sp.signGo
  cases Sp.hasPre s [42]
  case true => rfl
  simp only [cond_false]
  refine (l14_18 21 2 s).trans ?_
  unfold Sp.signGo
  cases Sp.hasPre s [48]
  case true => rfl
  simp only [cond_false]
  refine (l14_19 21 1 s).trans ?_
  unfold Sp.signGo
  cases Sp.hasPre s [49]
  case true => rfl
  simp only [cond_false]
  exact l14_20 21 0 s

theorem lim14 (s : List UInt8) (hs : s.length ≤ 4611686018427387904) : evLim cx 31 [.d (.str s)] [] = some (.ret (.d (.agg [.int .i64 (Sp.one s).1, .str (Sp.one s).2, .int .i64 0])), []) := by
  refine lim_body (N := 21) S14_knows ?_
  rw [b14]
  have h1 : decide (s.length ≤ big) = true := decide_eq_true hs
  simp only [h1, must, cond_true]
  unfold Sp.one
  have hle := nameLen_le s
  by_cases h : 0 < Sp.nameLen s
  · have e1 : decide ((0 : Int) < ((Sp.nameLen s : Nat) : Int)) = true := decide_eq_true (by omega)
    have e2 : decide (((Sp.nameLen s : Nat) : Int) ≤ (s.length : Int)) = true := decide_eq_true (by omega)
    have e3 : decide (0 < Sp.nameLen s) = true := decide_eq_true h
    simp only [e1, e2, e3, cond_true, List.drop_zero, Int.toNat_natCast]
  · have e1 : decide ((0 : Int) < ((Sp.nameLen s : Nat) : Int)) = false := decide_eq_false (by omega)
    have e3 : decide (0 < Sp.nameLen s) = false := decide_eq_false h
    simp only [e1, e3, cond_false]
    exact one_loop s

end Go.Vai
end

section
namespace Go.Vai
open Go.Proofs

theorem pastGo_bounds : ∀ (r : List UInt8) (c : Bool) (j : Nat), j ≤ Sp.pastGo c r j ∧ Sp.pastGo c r j ≤ j + r.length
  | [], c, j => by cases c <;> simp [Sp.pastGo]
  | b :: r, true, j => by
    have := pastGo_bounds r (!decide ((b.toNat : Int) = 10)) (j + 1)
    simp only [Sp.pastGo, List.length_cons]
    omega
  | b :: r, false, j => by
    have h1 := pastGo_bounds r false (j + 1)
    have h2 := pastGo_bounds r true (j + 1)
    simp only [Sp.pastGo, List.length_cons]
    cases Sp.blank b.toNat
    · simp only [cond_false]
      cases (decide ((b.toNat : Int) = 45) && Sp.hasPre (b :: r) [45, 45])
      · simp
      · simp only [cond_true]; omega
    · simp only [cond_true]; omega

theorem past_bounds {s : List UInt8} {j : Nat} (hj : j ≤ s.length) : j ≤ Sp.past s j ∧ Sp.past s j ≤ s.length := by
  have := pastGo_bounds (s.drop j) false j
  unfold Sp.past
  simp at this
  omega

theorem signGo_pre (s : List UInt8) : ∀ (l : List (List UInt8)), (Sp.signGo s l).2 = s.take (Sp.signGo s l).2.length
  | [] => by simp [Sp.signGo]
  | x :: l => by
    simp only [Sp.signGo]
    cases h : Sp.hasPre s x
    · exact signGo_pre s l
    · simp only [cond_true]
      exact (of_decide_eq_true h).symm

theorem one_pre (s : List UInt8) : (Sp.one s).2 = s.take (Sp.one s).2.length := by
  unfold Sp.one
  by_cases h : 0 < Sp.nameLen s
  · rw [decide_eq_true h, cond_true]
    have := nameLen_le s
    simp [List.length_take, Nat.min_eq_left this]
  · rw [decide_eq_false h, cond_false]
    exact signGo_pre s _

theorem one_le (s : List UInt8) : (Sp.one s).2.length ≤ s.length := by
  have := congrArg List.length (one_pre s)
  rw [List.length_take] at this
  omega

/-- Bytes that follow in a scalar value. -/
def Sp.cont (b : UInt8) : Bool := decide (128 ≤ b.toNat) && decide (b.toNat ≤ 191)

/-- How many bytes the scalar value has with which a text begins; 0: none does. -/
def Sp.uni : List UInt8 → Nat
  | [] => 0
  | b :: r =>
    bif decide (b.toNat < 128) then 1
    else bif decide (194 ≤ b.toNat) && decide (b.toNat ≤ 223) then
      (match r with | c :: _ => bif Sp.cont c then 2 else 0 | [] => 0)
    else bif decide (224 ≤ b.toNat) && decide (b.toNat ≤ 239) then
      (match r with
       | c :: d :: _ => bif decide ((bif decide (b.toNat = 224) then 160 else 128) ≤ c.toNat) && decide (c.toNat ≤ (bif decide (b.toNat = 237) then 159 else 191)) && Sp.cont d then 3 else 0
       | _ => 0)
    else bif decide (240 ≤ b.toNat) && decide (b.toNat ≤ 244) then
      (match r with
       | c :: d :: e :: _ => bif decide ((bif decide (b.toNat = 240) then 144 else 128) ≤ c.toNat) && decide (c.toNat ≤ (bif decide (b.toNat = 244) then 143 else 191)) && Sp.cont d && Sp.cont e then 4 else 0
       | _ => 0)
    else 0

theorem uni_le : ∀ (l : List UInt8), Sp.uni l ≤ l.length
  | [] => Nat.le_refl _
  | [b] => by
    simp only [Sp.uni]
    cases decide (b.toNat < 128) <;> cases (decide (194 ≤ b.toNat) && decide (b.toNat ≤ 223)) <;> cases (decide (224 ≤ b.toNat) && decide (b.toNat ≤ 239)) <;> cases (decide (240 ≤ b.toNat) && decide (b.toNat ≤ 244)) <;> simp
  | [b, c] => by
    simp only [Sp.uni]
    cases decide (b.toNat < 128) <;> cases (decide (194 ≤ b.toNat) && decide (b.toNat ≤ 223)) <;> cases (decide (224 ≤ b.toNat) && decide (b.toNat ≤ 239)) <;> cases (decide (240 ≤ b.toNat) && decide (b.toNat ≤ 244)) <;> cases Sp.cont c <;> simp
  | [b, c, d] => by
    simp only [Sp.uni]
    cases decide (b.toNat < 128) <;> cases (decide (194 ≤ b.toNat) && decide (b.toNat ≤ 223)) <;> cases (decide (224 ≤ b.toNat) && decide (b.toNat ≤ 239)) <;> cases (decide (240 ≤ b.toNat) && decide (b.toNat ≤ 244)) <;> cases Sp.cont c <;>
      simp only [cond_true, cond_false] <;> (try split) <;> simp_all <;> (first | omega | (rw [Bool.cond_eq_ite]; split <;> omega))
  | b :: c :: d :: e :: r => by
    have h : Sp.uni (b :: c :: d :: e :: r) ≤ 4 := by
      simp only [Sp.uni]
      cases decide (b.toNat < 128) <;> cases (decide (194 ≤ b.toNat) && decide (b.toNat ≤ 223)) <;> cases (decide (224 ≤ b.toNat) && decide (b.toNat ≤ 239)) <;> cases (decide (240 ≤ b.toNat) && decide (b.toNat ≤ 244)) <;> cases Sp.cont c <;>
        simp only [cond_true, cond_false] <;> (first | omega | (rw [Bool.cond_eq_ite]; split <;> omega))
    simp only [List.length_cons]
    omega

end Go.Vai
end

section
namespace Go.Vai
open Go.Proofs

/-- What the library tells of a text's first scalar value. -/
noncomputable def Sp.dec (s : List UInt8) : Int × Int := match evLim cx 29 [.d (.str s)] [] with | some (.ret (.tup [.d (.int _ r), .d (.int _ n)]), _) => (r, n) | _ => (0, 0)

noncomputable def decF : List V → Option Out | [.d (.str s)] => some (.ret (.tup [.d (.int .i32 (Sp.dec s).1), .d (.int .i64 (Sp.dec s).2)])) | _ => none
def pastF : List V → Option Out | [.d (.str s), .d (.int .i64 a)] => some (.ret (.d (.int .i64 (Sp.past s a.toNat : Nat)))) | _ => none
def oneF : List V → Option Out | [.d (.str s)] => some (.ret (.d (.agg [.int .i64 (Sp.one s).1, .str (Sp.one s).2, .int .i64 0]))) | _ => none
noncomputable def S7 : Caller := also 29 decF (also 30 pastF (also 31 oneF none1))

theorem b7 (n : Nat) (s : List UInt8) : evBody cx S7 n 13 [.d (.str s)] [(0, .tok 0)] = bif decide ((65536 : Int) < (↑s.length : Int)) then some (Out.ret (V.tup [V.d (D.sl 3 []), V.d (D.int IntKind.i64 (0 : Int)), V.d (D.int IntKind.i64 (3 : Int))]), [(0, Ob.tok 0)]) else LP cx S7 n 13 1 4 n [(0, V.d (D.str s)), (5, V.d (D.int IntKind.i64 (0 : Int)))] [(0, Ob.tok 0)] (AK cx S7 n 13 1 4 (EK cx 13 1)) := by kernel_rfl

theorem l7a (n k : Nat) (s : List UInt8) (i : Int) : LP cx S7 n 13 1 4 (k+1) [(0, .d (.str s)), (5, .d (.int .i64 i))] [(0, .tok 0)] (AK cx S7 n 13 1 4 (EK cx 13 1)) = bif decide (i < (↑s.length : Int)) then must (decide (0 ≤ i) && decide (i ≤ (↑s.length : Int))) (must (decide ((List.drop i.toNat (List.take s.length s)).length ≤ big)) (bif decide ((Sp.dec (List.drop i.toNat (List.take s.length s))).fst = (65533 : Int)) then bif decide ((Sp.dec (List.drop i.toNat (List.take s.length s))).snd < (2 : Int)) then some (Out.ret (V.tup [V.d (D.sl 3 []), V.d (D.int IntKind.i64 i), V.d (D.int IntKind.i64 (60 : Int))]), [(0, Ob.tok 0)]) else LP cx S7 n 13 1 4 k [(0, V.d (D.str s)), (5, V.d (D.int IntKind.i64 (IntKind.i64.wrap (i + (Sp.dec (List.drop i.toNat (List.take s.length s))).snd))))] [(0, Ob.tok 0)] (AK cx S7 n 13 1 4 (EK cx 13 1)) else LP cx S7 n 13 1 4 k [(0, V.d (D.str s)), (5, V.d (D.int IntKind.i64 (IntKind.i64.wrap (i + (Sp.dec (List.drop i.toNat (List.take s.length s))).snd))))] [(0, Ob.tok 0)] (AK cx S7 n 13 1 4 (EK cx 13 1)))) else must (decide (s.length ≤ big) && true) (LP cx S7 n 13 1 11 n [(0, V.d (D.str s)), (8, V.sl 3 [] 9), (9, V.d (D.int IntKind.i64 (↑(Sp.past s (0 : Int).toNat) : Int)))] [(0, Ob.tok 0), (9, Ob.tok 0)] (AK cx S7 n 13 1 11 (EK cx 13 1))) := by kernel_rfl

theorem l7b (n k : Nat) (s : List UInt8) (i : Int) (l : List D) : LP cx S7 n 13 1 11 (k+1) [(0, .d (.str s)), (8, .sl 3 l 9), (9, .d (.int .i64 i))] [(0, .tok 0), (9, .tok l.length)] (AK cx S7 n 13 1 11 (EK cx 13 1)) = bif decide (i < (↑s.length : Int)) then must (decide (0 ≤ i) && decide (i ≤ (↑s.length : Int))) (must (decide ((List.drop i.toNat (List.take s.length s)).length ≤ big)) (bif decide ((Sp.one (List.drop i.toNat (List.take s.length s))).2 = []) then some (Out.ret (V.tup [V.d (D.sl 3 []), V.d (D.int IntKind.i64 i), V.d (D.int IntKind.i64 (61 : Int))]), [(0, Ob.tok 0)]) else must (decide (l.length = l.length) && decide (l.length + [D.agg [D.int IntKind.i64 (Sp.one (List.drop i.toNat (List.take s.length s))).fst, D.str (Sp.one (List.drop i.toNat (List.take s.length s))).2, D.int IntKind.i64 i]].length ≤ 4294967296)) (must (decide (s.length ≤ big) && (decide (0 ≤ IntKind.i64.wrap (i + (↑(Sp.one (List.drop i.toNat (List.take s.length s))).2.length : Int))) && decide (IntKind.i64.wrap (i + (↑(Sp.one (List.drop i.toNat (List.take s.length s))).2.length : Int)) ≤ (↑s.length : Int)))) (LP cx S7 n 13 1 11 k [(0, V.d (D.str s)), (8, V.sl 3 (l ++ [D.agg [D.int IntKind.i64 (Sp.one (List.drop i.toNat (List.take s.length s))).fst, D.str (Sp.one (List.drop i.toNat (List.take s.length s))).2, D.int IntKind.i64 i]]) 9), (9, V.d (D.int IntKind.i64 (↑(Sp.past s (IntKind.i64.wrap (i + (↑(Sp.one (List.drop i.toNat (List.take s.length s))).2.length : Int))).toNat) : Int)))] [(0, Ob.tok 0), (9, Ob.tok (l.length + [D.agg [D.int IntKind.i64 (Sp.one (List.drop i.toNat (List.take s.length s))).fst, D.str (Sp.one (List.drop i.toNat (List.take s.length s))).2, D.int IntKind.i64 i]].length))] (AK cx S7 n 13 1 11 (EK cx 13 1)))))) else must (decide (l.length = l.length) && decide (l.length + [D.agg [D.int IntKind.i64 (0 : Int), D.str [], D.int IntKind.i64 (↑s.length : Int)]].length ≤ 4294967296)) (bif decide (l.length + [D.agg [D.int IntKind.i64 (0 : Int), D.str [], D.int IntKind.i64 (↑s.length : Int)]].length = (l ++ [D.agg [D.int IntKind.i64 (0 : Int), D.str [], D.int IntKind.i64 (↑s.length : Int)]]).length) && true then some (Out.ret (V.tup [V.sl 3 (l ++ [D.agg [D.int IntKind.i64 (0 : Int), D.str [], D.int IntKind.i64 (↑s.length : Int)]]) 0, V.d (D.int IntKind.i64 (0 : Int)), V.d (D.int IntKind.i64 (0 : Int))]), [(0, Ob.tok (l.length + [D.agg [D.int IntKind.i64 (0 : Int), D.str [], D.int IntKind.i64 (↑s.length : Int)]].length))]) else some (Out.ret (V.tup [V.d (D.sl 3 (l ++ [D.agg [D.int IntKind.i64 (0 : Int), D.str [], D.int IntKind.i64 (↑s.length : Int)]])), V.d (D.int IntKind.i64 (0 : Int)), V.d (D.int IntKind.i64 (0 : Int))]), [(0, Ob.tok 0)])) := by kernel_rfl

def tokD (k : Int) (t : List UInt8) (a : Int) : D := .agg [.int .i64 k, .str t, .int .i64 a]

/-- The tokens from a place on that is not let by; where there is none; what is wrong. -/
def Sp.toks : Nat → List UInt8 → Nat → List D → List D × Int × Int
  | 0, _, _, _ => ([], 0, 0)
  | f + 1, s, j, l => bif decide (j < s.length) then
      (bif decide ((Sp.one (s.drop j)).2 = []) then ([], j, 61)
       else Sp.toks f s (Sp.past s (j + (Sp.one (s.drop j)).2.length)) (l ++ [tokD (Sp.one (s.drop j)).1 (Sp.one (s.drop j)).2 j]))
    else (l ++ [tokD 0 [] s.length], 0, 0)

/-- A list of tokens, as Scan hands it out: with the right to append behind it, if there are any. -/
def givL (l : List D) : V := match l with | [] => .d (.sl 3 []) | x :: r => .sl 3 (x :: r) 0
theorem givL_add (l : List D) (x : D) : givL (l ++ [x]) = .sl 3 (l ++ [x]) 0 := by cases l <;> rfl
def scanRes (r : List D × Int × Int) : Option (Out × St) := some (.ret (.tup [givL r.1, .d (.int .i64 r.2.1), .d (.int .i64 r.2.2)]), [(0, .tok r.1.length)])

theorem toks_loop {s : List UInt8} (hs : s.length ≤ 65536) (n : Nat) : ∀ (f j k : Nat) (l : List D), s.length - j < f → f ≤ k → j ≤ s.length → l.length + (s.length - j) ≤ 65536 →
    LP cx S7 n 13 1 11 k [(0, .d (.str s)), (8, .sl 3 l 9), (9, .d (.int .i64 (j : Int)))] [(0, .tok 0), (9, .tok l.length)] (AK cx S7 n 13 1 11 (EK cx 13 1)) = scanRes (Sp.toks f s j l)
  | 0, j, k, l, h, _, _, _ => by omega
  | f + 1, j, k, l, h, hk, hj, hl => by
    obtain ⟨k, rfl⟩ : ∃ i, k = i + 1 := ⟨k - 1, by omega⟩
    rw [l7b]
    have hll : decide (l.length = l.length) = true := decide_eq_true rfl
    by_cases hlt : j < s.length
    · have e1 : decide ((j : Int) < (s.length : Int)) = true := decide_eq_true (by omega)
      have e2 : decide ((0 : Int) ≤ (j : Int)) = true := decide_eq_true (by omega)
      have e3 : decide ((j : Int) ≤ (s.length : Int)) = true := decide_eq_true (by omega)
      have e4 : decide (j < s.length) = true := decide_eq_true hlt
      have e5 : decide ((s.drop j).length ≤ big) = true := decide_eq_true (by simp [big]; omega)
      have hone := one_le (s.drop j)
      rw [List.length_drop] at hone
      have hw : IntKind.i64.wrap ((j : Int) + ((Sp.one (s.drop j)).2.length : Int)) = ((j + (Sp.one (s.drop j)).2.length : Nat) : Int) := by
        rw [IntWalk.i64_in _ (by omega)]; omega
      simp only [e1, e2, e3, must, cond_true, Bool.and_self, Int.toNat_natCast, List.take_length, e5, hw, Sp.toks, e4, hll, Bool.true_and]
      by_cases ht : (Sp.one (s.drop j)).2 = []
      · rw [decide_eq_true ht, cond_true, cond_true]; rfl
      · rw [decide_eq_false ht, cond_false, cond_false]
        have hpos : 0 < (Sp.one (s.drop j)).2.length := List.length_pos_iff.2 ht
        have hb := past_bounds (s := s) (j := j + (Sp.one (s.drop j)).2.length) (by omega)
        have ih := toks_loop hs n f (Sp.past s (j + (Sp.one (s.drop j)).2.length)) k (l ++ [tokD (Sp.one (s.drop j)).1 (Sp.one (s.drop j)).2 j]) (by omega) (by omega) hb.2 (by simp; omega)
        have e6 : decide (l.length + [D.agg [D.int IntKind.i64 (Sp.one (s.drop j)).fst, D.str (Sp.one (s.drop j)).2, D.int IntKind.i64 (j : Int)]].length ≤ 4294967296) = true := decide_eq_true (by simp; omega)
        have e7 : decide (s.length ≤ big) = true := decide_eq_true (by simp [big]; omega)
        have e8 : decide ((0 : Int) ≤ ((j + (Sp.one (s.drop j)).2.length : Nat) : Int)) = true := decide_eq_true (by omega)
        have e9 : decide (((j + (Sp.one (s.drop j)).2.length : Nat) : Int) ≤ (s.length : Int)) = true := decide_eq_true (by omega)
        simp only [e6, e7, e8, e9, cond_true, Bool.and_self]
        rw [List.length_append] at ih
        exact ih
    · have e1 : decide ((j : Int) < (s.length : Int)) = false := decide_eq_false (by omega)
      have e4 : decide (j < s.length) = false := decide_eq_false hlt
      have e6 : decide (l.length + [D.agg [D.int IntKind.i64 (0 : Int), D.str [], D.int IntKind.i64 (s.length : Int)]].length ≤ 4294967296) = true := decide_eq_true (by simp; omega)
      have e8 : decide (l.length + [D.agg [D.int IntKind.i64 (0 : Int), D.str [], D.int IntKind.i64 (s.length : Int)]].length = (l ++ [D.agg [D.int IntKind.i64 (0 : Int), D.str [], D.int IntKind.i64 (s.length : Int)]]).length) = true := decide_eq_true (by simp)
      simp only [e1, cond_false, Sp.toks, e4, hll, Bool.true_and, must, e6, e8, cond_true, scanRes, tokD, givL_add]
      rw [List.length_append, decide_eq_true trivial]
      rfl

end Go.Vai
end

section
namespace Go.Vai
open Go.Proofs

/-- The first place from one on that is no scalar value's. -/
def Sp.utfGo : Nat → List UInt8 → Nat → Option Nat
  | _, [], _ => none
  | 0, _ :: _, j => some j
  | f + 1, b :: r, j => bif Nat.beq (Sp.uni (b :: r)) 0 then some j else Sp.utfGo f ((b :: r).drop (Sp.uni (b :: r))) (j + Sp.uni (b :: r))

/-- What the library's answer says. -/
def DecOk : Prop := ∀ l, l ≠ [] → (Sp.uni l = 0 → (Sp.dec l).1 = 65533 ∧ (Sp.dec l).2 < 2) ∧ (Sp.uni l ≠ 0 → (Sp.dec l).2 = Sp.uni l ∧ ((Sp.dec l).2 < 2 → (Sp.dec l).1 ≠ 65533))

def utfRes (s : List UInt8) : Option Nat → Option (Out × St)
  | some p => scanRes ([], p, 60)
  | none => scanRes (Sp.toks (s.length + 1) s (Sp.past s 0) [])

theorem utf_loop (hdec : DecOk) {s : List UInt8} (hs : s.length ≤ 65536) {n : Nat} (hn : s.length < n) : ∀ (f j k : Nat), s.length - j ≤ f → f < k → j ≤ s.length →
    LP cx S7 n 13 1 4 k [(0, .d (.str s)), (5, .d (.int .i64 (j : Int)))] [(0, .tok 0)] (AK cx S7 n 13 1 4 (EK cx 13 1)) = utfRes s (Sp.utfGo f (s.drop j) j) := by
  intro f
  induction f with
  | zero =>
    intro j k h hk hj
    obtain ⟨k, rfl⟩ : ∃ i, k = i + 1 := ⟨k - 1, by omega⟩
    have hnil : s.drop j = [] := List.drop_eq_nil_of_le (by omega)
    have e1 : decide ((j : Int) < (s.length : Int)) = false := decide_eq_false (by omega)
    have e7 : decide (s.length ≤ big) = true := decide_eq_true (by simp [big]; omega)
    have hb := past_bounds (s := s) (j := 0) (Nat.zero_le _)
    rw [l7a, hnil]
    simp only [e1, cond_false, e7, must, Bool.and_self, cond_true, Int.toNat_zero]
    exact toks_loop hs n (s.length + 1) (Sp.past s 0) n [] (by omega) (by omega) hb.2 (by simp; omega)
  | succ f ih =>
    intro j k h hk hj
    obtain ⟨k, rfl⟩ : ∃ i, k = i + 1 := ⟨k - 1, by omega⟩
    have e7 : decide (s.length ≤ big) = true := decide_eq_true (by simp [big]; omega)
    have hb := past_bounds (s := s) (j := 0) (Nat.zero_le _)
    rw [l7a]
    cases hd : s.drop j with
    | nil =>
      have := drop_nil hd
      have e1 : decide ((j : Int) < (s.length : Int)) = false := decide_eq_false (by omega)
      simp only [e1, cond_false, e7, must, Bool.and_self, cond_true, Int.toNat_zero]
      exact toks_loop hs n (s.length + 1) (Sp.past s 0) n [] (by omega) (by omega) hb.2 (by simp; omega)
    | cons b r =>
      obtain ⟨h1, _, _⟩ := drop_cons hd
      have e1 : decide ((j : Int) < (s.length : Int)) = true := decide_eq_true (by omega)
      have e2 : decide ((0 : Int) ≤ (j : Int)) = true := decide_eq_true (by omega)
      have e3 : decide ((j : Int) ≤ (s.length : Int)) = true := decide_eq_true (by omega)
      have hlen : (b :: r).length = s.length - j := by rw [← hd]; simp
      have e5 : decide ((b :: r).length ≤ big) = true := decide_eq_true (by rw [hlen]; simp [big]; omega)
      obtain ⟨hbad, hgood⟩ := hdec (b :: r) (by simp)
      simp only [e1, e2, e3, must, cond_true, Bool.and_self, Int.toNat_natCast, List.take_length, hd, e5, Sp.utfGo]
      by_cases hu : Sp.uni (b :: r) = 0
      · obtain ⟨g1, g2⟩ := hbad hu
        rw [decide_eq_true g1, decide_eq_true g2, hu]
        rfl
      · obtain ⟨g1, g2⟩ := hgood hu
        have hle := uni_le (b :: r)
        have hw : IntKind.i64.wrap ((j : Int) + (Sp.dec (b :: r)).2) = ((j + Sp.uni (b :: r) : Nat) : Int) := by
          rw [g1, IntWalk.i64_in _ (by omega)]; omega
        have hbq : Nat.beq (Sp.uni (b :: r)) 0 = false := beqF hu
        have step := ih (j + Sp.uni (b :: r)) k (by omega) (by omega) (by omega)
        rw [← List.drop_drop, hd] at step
        simp only [hbq, cond_false, hw]
        by_cases h65 : (Sp.dec (b :: r)).1 = 65533
        · have h2 : ¬ (Sp.dec (b :: r)).2 < 2 := fun hlt => g2 hlt h65
          rw [decide_eq_true h65, decide_eq_false h2]
          exact step
        · rw [decide_eq_false h65]
          exact step

/-- The document's answer for a text's tokens. -/
def Sp.scan (s : List UInt8) : List D × Int × Int :=
  bif decide (65536 < s.length) then ([], 0, 3)
  else match Sp.utfGo s.length s 0 with
    | some p => ([], p, 60)
    | none => Sp.toks (s.length + 1) s (Sp.past s 0) []

end Go.Vai
end

section
namespace Go.Vai
open Go.Proofs

def DecR (l : List UInt8) : Prop := ∃ r n : Int, evLim cx 58 [.d (.str l)] [] = some (.ret (.tup [.d (.int .i32 r), .d (.int .i64 n)]), []) ∧
  (Sp.uni l = 0 → r = 65533 ∧ n < 2) ∧ (Sp.uni l ≠ 0 → n = Sp.uni l ∧ (n < 2 → r ≠ 65533))

theorem decBad {l : List UInt8} (h : evBody cx none1 0 58 [.d (.str l)] [] = some (.ret (.tup [.d (.int .i32 65533), .d (.int .i64 1)]), [])) (hu : Sp.uni l = 0) : DecR l :=
  ⟨65533, 1, lim_body (N := 0) (none1_knows cx) h, fun _ => ⟨rfl, by omega⟩, fun h => absurd hu h⟩

theorem decGood {l : List UInt8} {r k : Int} (h : evBody cx none1 0 58 [.d (.str l)] [] = some (.ret (.tup [.d (.int .i32 r), .d (.int .i64 k)]), [])) (hu : k = Sp.uni l) (hk : 2 ≤ k) : DecR l :=
  ⟨r, k, lim_body (N := 0) (none1_knows cx) h, fun h0 => by omega, fun _ => ⟨hu, fun h2 => by omega⟩⟩

theorem len0 (b : UInt8) (l : List UInt8) : decide ((0 : Int) < ((b :: l).length : Int)) = true := decide_eq_true (by simp only [List.length_cons]; omega)
theorem len1 (b c : UInt8) (l : List UInt8) : decide ((1 : Int) < ((b :: c :: l).length : Int)) = true := decide_eq_true (by simp only [List.length_cons]; omega)
theorem len2 (b c d : UInt8) (l : List UInt8) : decide ((2 : Int) < ((b :: c :: d :: l).length : Int)) = true := decide_eq_true (by simp only [List.length_cons]; omega)
theorem len3 (b c d e : UInt8) (l : List UInt8) : decide ((3 : Int) < ((b :: c :: d :: e :: l).length : Int)) = true := decide_eq_true (by simp only [List.length_cons]; omega)
theorem ge2 (b c : UInt8) (l : List UInt8) : decide (((b :: c :: l).length : Int) < (2 : Int)) = false := decide_eq_false (by simp only [List.length_cons]; omega)
theorem ge3 (b c d : UInt8) (l : List UInt8) : decide (((b :: c :: d :: l).length : Int) < (3 : Int)) = false := decide_eq_false (by simp only [List.length_cons]; omega)
theorem ge4 (b c d e : UInt8) (l : List UInt8) : decide (((b :: c :: d :: e :: l).length : Int) < (4 : Int)) = false := decide_eq_false (by simp only [List.length_cons]; omega)
theorem at1 (b c : UInt8) (l : List UInt8) : (b :: c :: l)[(1 : Int).toNat]? = some c := rfl
theorem at2 (b c d : UInt8) (l : List UInt8) : (b :: c :: d :: l)[(2 : Int).toNat]? = some d := rfl
theorem at3 (b c d e : UInt8) (l : List UInt8) : (b :: c :: d :: e :: l)[(3 : Int).toNat]? = some e := rfl
theorem contT {c : UInt8} (h1 : ¬ (c.toNat : Int) < 128) (h2 : ¬ (191 : Int) < (c.toNat : Int)) : Sp.cont c = true := by
  unfold Sp.cont
  rw [decide_eq_true (by omega), decide_eq_true (by omega)]; rfl
theorem contF {c : UInt8} (h : (c.toNat : Int) < 128 ∨ (191 : Int) < (c.toNat : Int)) : Sp.cont c = false := by
  unfold Sp.cont
  rcases h with h | h
  · rw [decide_eq_false (by omega)]; rfl
  · rw [decide_eq_false (p := c.toNat ≤ 191) (by omega), Bool.and_false]

theorem b20_224 (n : Nat) (S : Caller) (r : List UInt8) : evBody cx S n 58 [.d (.str (224 :: r))] [] = must (decide ((0 : Int) < (↑(224 :: r).length : Int))) (bif decide ((↑(224 :: r).length : Int) < (3 : Int)) then some (Out.ret (V.tup [V.d (D.int IntKind.i32 (65533 : Int)), V.d (D.int IntKind.i64 (1 : Int))]), []) else must (decide ((1 : Int) < (↑(224 :: r).length : Int))) (optK (224 :: r)[(1 : Int).toNat]? fun b => bif decide ((↑b.toNat : Int) < (160 : Int)) then some (Out.ret (V.tup [V.d (D.int IntKind.i32 (65533 : Int)), V.d (D.int IntKind.i64 (1 : Int))]), []) else bif decide ((191 : Int) < (↑b.toNat : Int)) then some (Out.ret (V.tup [V.d (D.int IntKind.i32 (65533 : Int)), V.d (D.int IntKind.i64 (1 : Int))]), []) else must (decide ((2 : Int) < (↑(224 :: r).length : Int))) (optK (224 :: r)[(2 : Int).toNat]? fun b_1 => bif decide ((↑b_1.toNat : Int) < (128 : Int)) then some (Out.ret (V.tup [V.d (D.int IntKind.i32 (65533 : Int)), V.d (D.int IntKind.i64 (1 : Int))]), []) else bif decide ((191 : Int) < (↑b_1.toNat : Int)) then some (Out.ret (V.tup [V.d (D.int IntKind.i32 (65533 : Int)), V.d (D.int IntKind.i64 (1 : Int))]), []) else some (Out.ret (V.tup [V.d (D.int IntKind.i32 (bitsI BinOp.or IntKind.i32 (bitsI BinOp.or IntKind.i32 (0 : Int) (IntKind.i32.wrap (IntKind.i32.wrap (bitsI BinOp.and IntKind.u8 (↑b.toNat : Int) (63 : Int)) * 2 ^ min (6 : Int).toNat IntKind.i32.bits))) (IntKind.i32.wrap (bitsI BinOp.and IntKind.u8 (↑b_1.toNat : Int) (63 : Int))))), V.d (D.int IntKind.i64 (3 : Int))]), [])))) := by kernel_rfl

theorem b20_237 (n : Nat) (S : Caller) (r : List UInt8) : evBody cx S n 58 [.d (.str (237 :: r))] [] = must (decide ((0 : Int) < (↑(237 :: r).length : Int))) (bif decide ((↑(237 :: r).length : Int) < (3 : Int)) then some (Out.ret (V.tup [V.d (D.int IntKind.i32 (65533 : Int)), V.d (D.int IntKind.i64 (1 : Int))]), []) else must (decide ((1 : Int) < (↑(237 :: r).length : Int))) (optK (237 :: r)[(1 : Int).toNat]? fun b => bif decide ((↑b.toNat : Int) < (128 : Int)) then some (Out.ret (V.tup [V.d (D.int IntKind.i32 (65533 : Int)), V.d (D.int IntKind.i64 (1 : Int))]), []) else bif decide ((159 : Int) < (↑b.toNat : Int)) then some (Out.ret (V.tup [V.d (D.int IntKind.i32 (65533 : Int)), V.d (D.int IntKind.i64 (1 : Int))]), []) else must (decide ((2 : Int) < (↑(237 :: r).length : Int))) (optK (237 :: r)[(2 : Int).toNat]? fun b_1 => bif decide ((↑b_1.toNat : Int) < (128 : Int)) then some (Out.ret (V.tup [V.d (D.int IntKind.i32 (65533 : Int)), V.d (D.int IntKind.i64 (1 : Int))]), []) else bif decide ((191 : Int) < (↑b_1.toNat : Int)) then some (Out.ret (V.tup [V.d (D.int IntKind.i32 (65533 : Int)), V.d (D.int IntKind.i64 (1 : Int))]), []) else some (Out.ret (V.tup [V.d (D.int IntKind.i32 (bitsI BinOp.or IntKind.i32 (bitsI BinOp.or IntKind.i32 (53248 : Int) (IntKind.i32.wrap (IntKind.i32.wrap (bitsI BinOp.and IntKind.u8 (↑b.toNat : Int) (63 : Int)) * 2 ^ min (6 : Int).toNat IntKind.i32.bits))) (IntKind.i32.wrap (bitsI BinOp.and IntKind.u8 (↑b_1.toNat : Int) (63 : Int))))), V.d (D.int IntKind.i64 (3 : Int))]), [])))) := by kernel_rfl

theorem b20_240 (n : Nat) (S : Caller) (r : List UInt8) : evBody cx S n 58 [.d (.str (240 :: r))] [] = must (decide ((0 : Int) < (↑(240 :: r).length : Int))) (bif decide ((↑(240 :: r).length : Int) < (4 : Int)) then some (Out.ret (V.tup [V.d (D.int IntKind.i32 (65533 : Int)), V.d (D.int IntKind.i64 (1 : Int))]), []) else must (decide ((1 : Int) < (↑(240 :: r).length : Int))) (optK (240 :: r)[(1 : Int).toNat]? fun b => bif decide ((↑b.toNat : Int) < (144 : Int)) then some (Out.ret (V.tup [V.d (D.int IntKind.i32 (65533 : Int)), V.d (D.int IntKind.i64 (1 : Int))]), []) else bif decide ((191 : Int) < (↑b.toNat : Int)) then some (Out.ret (V.tup [V.d (D.int IntKind.i32 (65533 : Int)), V.d (D.int IntKind.i64 (1 : Int))]), []) else must (decide ((2 : Int) < (↑(240 :: r).length : Int))) (optK (240 :: r)[(2 : Int).toNat]? fun b_1 => bif decide ((↑b_1.toNat : Int) < (128 : Int)) then some (Out.ret (V.tup [V.d (D.int IntKind.i32 (65533 : Int)), V.d (D.int IntKind.i64 (1 : Int))]), []) else bif decide ((191 : Int) < (↑b_1.toNat : Int)) then some (Out.ret (V.tup [V.d (D.int IntKind.i32 (65533 : Int)), V.d (D.int IntKind.i64 (1 : Int))]), []) else must (decide ((3 : Int) < (↑(240 :: r).length : Int))) (optK (240 :: r)[(3 : Int).toNat]? fun b_2 => bif decide ((↑b_2.toNat : Int) < (128 : Int)) then some (Out.ret (V.tup [V.d (D.int IntKind.i32 (65533 : Int)), V.d (D.int IntKind.i64 (1 : Int))]), []) else bif decide ((191 : Int) < (↑b_2.toNat : Int)) then some (Out.ret (V.tup [V.d (D.int IntKind.i32 (65533 : Int)), V.d (D.int IntKind.i64 (1 : Int))]), []) else some (Out.ret (V.tup [V.d (D.int IntKind.i32 (bitsI BinOp.or IntKind.i32 (bitsI BinOp.or IntKind.i32 (bitsI BinOp.or IntKind.i32 (0 : Int) (IntKind.i32.wrap (IntKind.i32.wrap (bitsI BinOp.and IntKind.u8 (↑b.toNat : Int) (63 : Int)) * 2 ^ min (12 : Int).toNat IntKind.i32.bits))) (IntKind.i32.wrap (IntKind.i32.wrap (bitsI BinOp.and IntKind.u8 (↑b_1.toNat : Int) (63 : Int)) * 2 ^ min (6 : Int).toNat IntKind.i32.bits))) (IntKind.i32.wrap (bitsI BinOp.and IntKind.u8 (↑b_2.toNat : Int) (63 : Int))))), V.d (D.int IntKind.i64 (4 : Int))]), []))))) := by kernel_rfl

theorem b20_244 (n : Nat) (S : Caller) (r : List UInt8) : evBody cx S n 58 [.d (.str (244 :: r))] [] = must (decide ((0 : Int) < (↑(244 :: r).length : Int))) (bif decide ((↑(244 :: r).length : Int) < (4 : Int)) then some (Out.ret (V.tup [V.d (D.int IntKind.i32 (65533 : Int)), V.d (D.int IntKind.i64 (1 : Int))]), []) else must (decide ((1 : Int) < (↑(244 :: r).length : Int))) (optK (244 :: r)[(1 : Int).toNat]? fun b => bif decide ((↑b.toNat : Int) < (128 : Int)) then some (Out.ret (V.tup [V.d (D.int IntKind.i32 (65533 : Int)), V.d (D.int IntKind.i64 (1 : Int))]), []) else bif decide ((143 : Int) < (↑b.toNat : Int)) then some (Out.ret (V.tup [V.d (D.int IntKind.i32 (65533 : Int)), V.d (D.int IntKind.i64 (1 : Int))]), []) else must (decide ((2 : Int) < (↑(244 :: r).length : Int))) (optK (244 :: r)[(2 : Int).toNat]? fun b_1 => bif decide ((↑b_1.toNat : Int) < (128 : Int)) then some (Out.ret (V.tup [V.d (D.int IntKind.i32 (65533 : Int)), V.d (D.int IntKind.i64 (1 : Int))]), []) else bif decide ((191 : Int) < (↑b_1.toNat : Int)) then some (Out.ret (V.tup [V.d (D.int IntKind.i32 (65533 : Int)), V.d (D.int IntKind.i64 (1 : Int))]), []) else must (decide ((3 : Int) < (↑(244 :: r).length : Int))) (optK (244 :: r)[(3 : Int).toNat]? fun b_2 => bif decide ((↑b_2.toNat : Int) < (128 : Int)) then some (Out.ret (V.tup [V.d (D.int IntKind.i32 (65533 : Int)), V.d (D.int IntKind.i64 (1 : Int))]), []) else bif decide ((191 : Int) < (↑b_2.toNat : Int)) then some (Out.ret (V.tup [V.d (D.int IntKind.i32 (65533 : Int)), V.d (D.int IntKind.i64 (1 : Int))]), []) else some (Out.ret (V.tup [V.d (D.int IntKind.i32 (bitsI BinOp.or IntKind.i32 (bitsI BinOp.or IntKind.i32 (bitsI BinOp.or IntKind.i32 (1048576 : Int) (IntKind.i32.wrap (IntKind.i32.wrap (bitsI BinOp.and IntKind.u8 (↑b.toNat : Int) (63 : Int)) * 2 ^ min (12 : Int).toNat IntKind.i32.bits))) (IntKind.i32.wrap (IntKind.i32.wrap (bitsI BinOp.and IntKind.u8 (↑b_1.toNat : Int) (63 : Int)) * 2 ^ min (6 : Int).toNat IntKind.i32.bits))) (IntKind.i32.wrap (bitsI BinOp.and IntKind.u8 (↑b_2.toNat : Int) (63 : Int))))), V.d (D.int IntKind.i64 (4 : Int))]), []))))) := by kernel_rfl

theorem d20_224 : ∀ (l : List UInt8), DecR (224 :: l)
  | [] => by
    refine decBad ?_ rfl
    rw [b20_224]
    rfl
  | [c] => decBad (by rw [b20_224]; rfl) rfl
  | c :: d :: l => by
    have hu : Sp.uni (224 :: c :: d :: l) = (bif decide (160 ≤ c.toNat) && decide (c.toNat ≤ 191) && Sp.cont d then 3 else 0) := rfl
    by_cases h0a : (c.toNat : Int) < 160
    · exact decBad (by rw [b20_224]; simp only [len0, len1, len2, len3, ge2, ge3, ge4, at1, at2, at3, must, optK, cond_true, cond_false, decide_eq_true h0a]) (by rw [hu, decide_eq_false (p := 160 ≤ c.toNat) (by omega)]; simp only [Bool.false_and, cond_false])
    by_cases h0b : (191 : Int) < (c.toNat : Int)
    · exact decBad (by rw [b20_224]; simp only [len0, len1, len2, len3, ge2, ge3, ge4, at1, at2, at3, must, optK, cond_true, cond_false, decide_eq_false h0a, decide_eq_true h0b]) (by rw [hu, decide_eq_false (p := c.toNat ≤ 191) (by omega)]; simp only [Bool.and_false, Bool.false_and, cond_false])
    by_cases h1a : (d.toNat : Int) < 128
    · exact decBad (by rw [b20_224]; simp only [len0, len1, len2, len3, ge2, ge3, ge4, at1, at2, at3, must, optK, cond_true, cond_false, decide_eq_false h0a, decide_eq_false h0b, decide_eq_true h1a]) (by rw [hu, contF (c := d) (.inl h1a)]; simp only [Bool.and_false, Bool.false_and, cond_false])
    by_cases h1b : (191 : Int) < (d.toNat : Int)
    · exact decBad (by rw [b20_224]; simp only [len0, len1, len2, len3, ge2, ge3, ge4, at1, at2, at3, must, optK, cond_true, cond_false, decide_eq_false h0a, decide_eq_false h0b, decide_eq_false h1a, decide_eq_true h1b]) (by rw [hu, contF (c := d) (.inr h1b)]; simp only [Bool.and_false, Bool.false_and, cond_false])
    exact decGood (k := 3) (by rw [b20_224]; simp only [len0, len1, len2, len3, ge2, ge3, ge4, at1, at2, at3, must, optK, cond_true, cond_false, decide_eq_false h0a, decide_eq_false h0b, decide_eq_false h1a, decide_eq_false h1b]; rfl) (by rw [hu, decide_eq_true (p := 160 ≤ c.toNat) (by omega), decide_eq_true (p := c.toNat ≤ 191) (by omega), contT (c := d) h1a h1b]; first | done | rfl) (by omega)

theorem d20_237 : ∀ (l : List UInt8), DecR (237 :: l)
  | [] => by
    refine decBad ?_ rfl
    rw [b20_237]
    rfl
  | [c] => decBad (by rw [b20_237]; rfl) rfl
  | c :: d :: l => by
    have hu : Sp.uni (237 :: c :: d :: l) = (bif decide (128 ≤ c.toNat) && decide (c.toNat ≤ 159) && Sp.cont d then 3 else 0) := rfl
    by_cases h0a : (c.toNat : Int) < 128
    · exact decBad (by rw [b20_237]; simp only [len0, len1, len2, len3, ge2, ge3, ge4, at1, at2, at3, must, optK, cond_true, cond_false, decide_eq_true h0a]) (by rw [hu, decide_eq_false (p := 128 ≤ c.toNat) (by omega)]; simp only [Bool.false_and, cond_false])
    by_cases h0b : (159 : Int) < (c.toNat : Int)
    · exact decBad (by rw [b20_237]; simp only [len0, len1, len2, len3, ge2, ge3, ge4, at1, at2, at3, must, optK, cond_true, cond_false, decide_eq_false h0a, decide_eq_true h0b]) (by rw [hu, decide_eq_false (p := c.toNat ≤ 159) (by omega)]; simp only [Bool.and_false, Bool.false_and, cond_false])
    by_cases h1a : (d.toNat : Int) < 128
    · exact decBad (by rw [b20_237]; simp only [len0, len1, len2, len3, ge2, ge3, ge4, at1, at2, at3, must, optK, cond_true, cond_false, decide_eq_false h0a, decide_eq_false h0b, decide_eq_true h1a]) (by rw [hu, contF (c := d) (.inl h1a)]; simp only [Bool.and_false, Bool.false_and, cond_false])
    by_cases h1b : (191 : Int) < (d.toNat : Int)
    · exact decBad (by rw [b20_237]; simp only [len0, len1, len2, len3, ge2, ge3, ge4, at1, at2, at3, must, optK, cond_true, cond_false, decide_eq_false h0a, decide_eq_false h0b, decide_eq_false h1a, decide_eq_true h1b]) (by rw [hu, contF (c := d) (.inr h1b)]; simp only [Bool.and_false, Bool.false_and, cond_false])
    exact decGood (k := 3) (by rw [b20_237]; simp only [len0, len1, len2, len3, ge2, ge3, ge4, at1, at2, at3, must, optK, cond_true, cond_false, decide_eq_false h0a, decide_eq_false h0b, decide_eq_false h1a, decide_eq_false h1b]; rfl) (by rw [hu, decide_eq_true (p := 128 ≤ c.toNat) (by omega), decide_eq_true (p := c.toNat ≤ 159) (by omega), contT (c := d) h1a h1b]; first | done | rfl) (by omega)

theorem d20_240 : ∀ (l : List UInt8), DecR (240 :: l)
  | [] => by
    refine decBad ?_ rfl
    rw [b20_240]
    rfl
  | [c] => decBad (by rw [b20_240]; rfl) rfl
  | [c, d] => decBad (by rw [b20_240]; rfl) rfl
  | c :: d :: e :: l => by
    have hu : Sp.uni (240 :: c :: d :: e :: l) = (bif decide (144 ≤ c.toNat) && decide (c.toNat ≤ 191) && Sp.cont d && Sp.cont e then 4 else 0) := rfl
    by_cases h0a : (c.toNat : Int) < 144
    · exact decBad (by rw [b20_240]; simp only [len0, len1, len2, len3, ge2, ge3, ge4, at1, at2, at3, must, optK, cond_true, cond_false, decide_eq_true h0a]) (by rw [hu, decide_eq_false (p := 144 ≤ c.toNat) (by omega)]; simp only [Bool.false_and, cond_false])
    by_cases h0b : (191 : Int) < (c.toNat : Int)
    · exact decBad (by rw [b20_240]; simp only [len0, len1, len2, len3, ge2, ge3, ge4, at1, at2, at3, must, optK, cond_true, cond_false, decide_eq_false h0a, decide_eq_true h0b]) (by rw [hu, decide_eq_false (p := c.toNat ≤ 191) (by omega)]; simp only [Bool.and_false, Bool.false_and, cond_false])
    by_cases h1a : (d.toNat : Int) < 128
    · exact decBad (by rw [b20_240]; simp only [len0, len1, len2, len3, ge2, ge3, ge4, at1, at2, at3, must, optK, cond_true, cond_false, decide_eq_false h0a, decide_eq_false h0b, decide_eq_true h1a]) (by rw [hu, contF (c := d) (.inl h1a)]; simp only [Bool.and_false, Bool.false_and, cond_false])
    by_cases h1b : (191 : Int) < (d.toNat : Int)
    · exact decBad (by rw [b20_240]; simp only [len0, len1, len2, len3, ge2, ge3, ge4, at1, at2, at3, must, optK, cond_true, cond_false, decide_eq_false h0a, decide_eq_false h0b, decide_eq_false h1a, decide_eq_true h1b]) (by rw [hu, contF (c := d) (.inr h1b)]; simp only [Bool.and_false, Bool.false_and, cond_false])
    by_cases h2a : (e.toNat : Int) < 128
    · exact decBad (by rw [b20_240]; simp only [len0, len1, len2, len3, ge2, ge3, ge4, at1, at2, at3, must, optK, cond_true, cond_false, decide_eq_false h0a, decide_eq_false h0b, decide_eq_false h1a, decide_eq_false h1b, decide_eq_true h2a]) (by rw [hu, contF (c := e) (.inl h2a)]; simp only [Bool.and_false, Bool.false_and, cond_false])
    by_cases h2b : (191 : Int) < (e.toNat : Int)
    · exact decBad (by rw [b20_240]; simp only [len0, len1, len2, len3, ge2, ge3, ge4, at1, at2, at3, must, optK, cond_true, cond_false, decide_eq_false h0a, decide_eq_false h0b, decide_eq_false h1a, decide_eq_false h1b, decide_eq_false h2a, decide_eq_true h2b]) (by rw [hu, contF (c := e) (.inr h2b)]; simp only [Bool.and_false, Bool.false_and, cond_false])
    exact decGood (k := 4) (by rw [b20_240]; simp only [len0, len1, len2, len3, ge2, ge3, ge4, at1, at2, at3, must, optK, cond_true, cond_false, decide_eq_false h0a, decide_eq_false h0b, decide_eq_false h1a, decide_eq_false h1b, decide_eq_false h2a, decide_eq_false h2b]; rfl) (by rw [hu, decide_eq_true (p := 144 ≤ c.toNat) (by omega), decide_eq_true (p := c.toNat ≤ 191) (by omega), contT (c := d) h1a h1b, contT (c := e) h2a h2b]; first | done | rfl) (by omega)

theorem d20_244 : ∀ (l : List UInt8), DecR (244 :: l)
  | [] => by
    refine decBad ?_ rfl
    rw [b20_244]
    rfl
  | [c] => decBad (by rw [b20_244]; rfl) rfl
  | [c, d] => decBad (by rw [b20_244]; rfl) rfl
  | c :: d :: e :: l => by
    have hu : Sp.uni (244 :: c :: d :: e :: l) = (bif decide (128 ≤ c.toNat) && decide (c.toNat ≤ 143) && Sp.cont d && Sp.cont e then 4 else 0) := rfl
    by_cases h0a : (c.toNat : Int) < 128
    · exact decBad (by rw [b20_244]; simp only [len0, len1, len2, len3, ge2, ge3, ge4, at1, at2, at3, must, optK, cond_true, cond_false, decide_eq_true h0a]) (by rw [hu, decide_eq_false (p := 128 ≤ c.toNat) (by omega)]; simp only [Bool.false_and, cond_false])
    by_cases h0b : (143 : Int) < (c.toNat : Int)
    · exact decBad (by rw [b20_244]; simp only [len0, len1, len2, len3, ge2, ge3, ge4, at1, at2, at3, must, optK, cond_true, cond_false, decide_eq_false h0a, decide_eq_true h0b]) (by rw [hu, decide_eq_false (p := c.toNat ≤ 143) (by omega)]; simp only [Bool.and_false, Bool.false_and, cond_false])
    by_cases h1a : (d.toNat : Int) < 128
    · exact decBad (by rw [b20_244]; simp only [len0, len1, len2, len3, ge2, ge3, ge4, at1, at2, at3, must, optK, cond_true, cond_false, decide_eq_false h0a, decide_eq_false h0b, decide_eq_true h1a]) (by rw [hu, contF (c := d) (.inl h1a)]; simp only [Bool.and_false, Bool.false_and, cond_false])
    by_cases h1b : (191 : Int) < (d.toNat : Int)
    · exact decBad (by rw [b20_244]; simp only [len0, len1, len2, len3, ge2, ge3, ge4, at1, at2, at3, must, optK, cond_true, cond_false, decide_eq_false h0a, decide_eq_false h0b, decide_eq_false h1a, decide_eq_true h1b]) (by rw [hu, contF (c := d) (.inr h1b)]; simp only [Bool.and_false, Bool.false_and, cond_false])
    by_cases h2a : (e.toNat : Int) < 128
    · exact decBad (by rw [b20_244]; simp only [len0, len1, len2, len3, ge2, ge3, ge4, at1, at2, at3, must, optK, cond_true, cond_false, decide_eq_false h0a, decide_eq_false h0b, decide_eq_false h1a, decide_eq_false h1b, decide_eq_true h2a]) (by rw [hu, contF (c := e) (.inl h2a)]; simp only [Bool.and_false, Bool.false_and, cond_false])
    by_cases h2b : (191 : Int) < (e.toNat : Int)
    · exact decBad (by rw [b20_244]; simp only [len0, len1, len2, len3, ge2, ge3, ge4, at1, at2, at3, must, optK, cond_true, cond_false, decide_eq_false h0a, decide_eq_false h0b, decide_eq_false h1a, decide_eq_false h1b, decide_eq_false h2a, decide_eq_true h2b]) (by rw [hu, contF (c := e) (.inr h2b)]; simp only [Bool.and_false, Bool.false_and, cond_false])
    exact decGood (k := 4) (by rw [b20_244]; simp only [len0, len1, len2, len3, ge2, ge3, ge4, at1, at2, at3, must, optK, cond_true, cond_false, decide_eq_false h0a, decide_eq_false h0b, decide_eq_false h1a, decide_eq_false h1b, decide_eq_false h2a, decide_eq_false h2b]; rfl) (by rw [hu, decide_eq_true (p := 128 ≤ c.toNat) (by omega), decide_eq_true (p := c.toNat ≤ 143) (by omega), contT (c := d) h1a h1b, contT (c := e) h2a h2b]; first | done | rfl) (by omega)

theorem c58 (n : Nat) (S : Caller) (b : UInt8) (r : List UInt8) : evBody cx S n 58 [.d (.str (b :: r))] [] = must (decide ((0 : Int) < (↑(b :: r).length : Int))) (must (decide ((↑b.toNat : Int) < (↑256 : Int))) (nthD (D.agg (unW Pinned.utf8First)).cells (0 + (↑b.toNat : Int).toNat * cx.P.cellsOf 5) fun c => match c with
 | D.int k' n_1 => bif decide (k' = IntKind.u8) then OPS cx (CK.plain S) n 58 0 5 3 [(21, V.d (D.int IntKind.u8 n_1)), (20, V.gptr 1 (0 + (↑b.toNat : Int).toNat * cx.P.cellsOf 5)), (19, V.d (D.int IntKind.u8 (↑b.toNat : Int))), (5, V.d (D.int IntKind.u8 (↑b.toNat : Int))), (18, V.d (D.int IntKind.u8 (↑b.toNat : Int))), (17, V.d (D.str (b :: r))), (16, V.d (D.bool false)), (15, V.d (D.int IntKind.i64 (↑(b :: r).length : Int))), (4, V.d (D.int IntKind.i64 (↑(b :: r).length : Int))), (14, V.d (D.int IntKind.i64 (↑(b :: r).length : Int))), (13, V.d (D.str (b :: r))), (3, V.d (D.int IntKind.i64 (0 : Int))), (2, V.d (D.int IntKind.i32 (0 : Int))), (0, V.d (D.str (b :: r)))] [] (AR cx (CK.plain S) n 58 0 5 (EK cx 58 0)) else none
 | x => none)) := by kernel_rfl

theorem o58_241 (n : Nat) (S : Caller) (b : UInt8) (r : List UInt8) : OPS cx (CK.plain S) n 58 0 5 3 [(21, V.d (D.int IntKind.u8 241)), (20, V.gptr 1 (0 + (↑b.toNat : Int).toNat * cx.P.cellsOf 5)), (19, V.d (D.int IntKind.u8 (↑b.toNat : Int))), (5, V.d (D.int IntKind.u8 (↑b.toNat : Int))), (18, V.d (D.int IntKind.u8 (↑b.toNat : Int))), (17, V.d (D.str (b :: r))), (16, V.d (D.bool false)), (15, V.d (D.int IntKind.i64 (↑(b :: r).length : Int))), (4, V.d (D.int IntKind.i64 (↑(b :: r).length : Int))), (14, V.d (D.int IntKind.i64 (↑(b :: r).length : Int))), (13, V.d (D.str (b :: r))), (3, V.d (D.int IntKind.i64 (0 : Int))), (2, V.d (D.int IntKind.i32 (0 : Int))), (0, V.d (D.str (b :: r)))] [] (AR cx (CK.plain S) n 58 0 5 (EK cx 58 0)) = must (decide ((0 : Int) < (↑(b :: r).length : Int))) (some (Out.ret (V.tup [V.d (D.int IntKind.i32 (bitsI BinOp.or IntKind.i32 (bitsI BinOp.andNot IntKind.i32 (IntKind.i32.wrap (↑b.toNat : Int)) (Int.negSucc 0)) (65533 : Int))), V.d (D.int IntKind.i64 (1 : Int))]), [])) := by kernel_rfl

theorem o58_2 (n : Nat) (S : Caller) (b : UInt8) (r : List UInt8) : OPS cx (CK.plain S) n 58 0 5 3 [(21, V.d (D.int IntKind.u8 2)), (20, V.gptr 1 (0 + (↑b.toNat : Int).toNat * cx.P.cellsOf 5)), (19, V.d (D.int IntKind.u8 (↑b.toNat : Int))), (5, V.d (D.int IntKind.u8 (↑b.toNat : Int))), (18, V.d (D.int IntKind.u8 (↑b.toNat : Int))), (17, V.d (D.str (b :: r))), (16, V.d (D.bool false)), (15, V.d (D.int IntKind.i64 (↑(b :: r).length : Int))), (4, V.d (D.int IntKind.i64 (↑(b :: r).length : Int))), (14, V.d (D.int IntKind.i64 (↑(b :: r).length : Int))), (13, V.d (D.str (b :: r))), (3, V.d (D.int IntKind.i64 (0 : Int))), (2, V.d (D.int IntKind.i32 (0 : Int))), (0, V.d (D.str (b :: r)))] [] (AR cx (CK.plain S) n 58 0 5 (EK cx 58 0)) = bif decide ((↑(b :: r).length : Int) < (2 : Int)) then some (Out.ret (V.tup [V.d (D.int IntKind.i32 (65533 : Int)), V.d (D.int IntKind.i64 (1 : Int))]), []) else must (decide ((1 : Int) < (↑(b :: r).length : Int))) (optK (b :: r)[(1 : Int).toNat]? fun b_1 => bif decide ((↑b_1.toNat : Int) < (128 : Int)) then some (Out.ret (V.tup [V.d (D.int IntKind.i32 (65533 : Int)), V.d (D.int IntKind.i64 (1 : Int))]), []) else bif decide ((191 : Int) < (↑b_1.toNat : Int)) then some (Out.ret (V.tup [V.d (D.int IntKind.i32 (65533 : Int)), V.d (D.int IntKind.i64 (1 : Int))]), []) else some (Out.ret (V.tup [V.d (D.int IntKind.i32 (bitsI BinOp.or IntKind.i32 (IntKind.i32.wrap (IntKind.i32.wrap (bitsI BinOp.and IntKind.u8 (↑b.toNat : Int) (31 : Int)) * 2 ^ min (6 : Int).toNat IntKind.i32.bits)) (IntKind.i32.wrap (bitsI BinOp.and IntKind.u8 (↑b_1.toNat : Int) (63 : Int))))), V.d (D.int IntKind.i64 (2 : Int))]), [])) := by kernel_rfl

theorem o58_3 (n : Nat) (S : Caller) (b : UInt8) (r : List UInt8) : OPS cx (CK.plain S) n 58 0 5 3 [(21, V.d (D.int IntKind.u8 3)), (20, V.gptr 1 (0 + (↑b.toNat : Int).toNat * cx.P.cellsOf 5)), (19, V.d (D.int IntKind.u8 (↑b.toNat : Int))), (5, V.d (D.int IntKind.u8 (↑b.toNat : Int))), (18, V.d (D.int IntKind.u8 (↑b.toNat : Int))), (17, V.d (D.str (b :: r))), (16, V.d (D.bool false)), (15, V.d (D.int IntKind.i64 (↑(b :: r).length : Int))), (4, V.d (D.int IntKind.i64 (↑(b :: r).length : Int))), (14, V.d (D.int IntKind.i64 (↑(b :: r).length : Int))), (13, V.d (D.str (b :: r))), (3, V.d (D.int IntKind.i64 (0 : Int))), (2, V.d (D.int IntKind.i32 (0 : Int))), (0, V.d (D.str (b :: r)))] [] (AR cx (CK.plain S) n 58 0 5 (EK cx 58 0)) = bif decide ((↑(b :: r).length : Int) < (3 : Int)) then some (Out.ret (V.tup [V.d (D.int IntKind.i32 (65533 : Int)), V.d (D.int IntKind.i64 (1 : Int))]), []) else must (decide ((1 : Int) < (↑(b :: r).length : Int))) (optK (b :: r)[(1 : Int).toNat]? fun b_1 => bif decide ((↑b_1.toNat : Int) < (128 : Int)) then some (Out.ret (V.tup [V.d (D.int IntKind.i32 (65533 : Int)), V.d (D.int IntKind.i64 (1 : Int))]), []) else bif decide ((191 : Int) < (↑b_1.toNat : Int)) then some (Out.ret (V.tup [V.d (D.int IntKind.i32 (65533 : Int)), V.d (D.int IntKind.i64 (1 : Int))]), []) else must (decide ((2 : Int) < (↑(b :: r).length : Int))) (optK (b :: r)[(2 : Int).toNat]? fun b_2 => bif decide ((↑b_2.toNat : Int) < (128 : Int)) then some (Out.ret (V.tup [V.d (D.int IntKind.i32 (65533 : Int)), V.d (D.int IntKind.i64 (1 : Int))]), []) else bif decide ((191 : Int) < (↑b_2.toNat : Int)) then some (Out.ret (V.tup [V.d (D.int IntKind.i32 (65533 : Int)), V.d (D.int IntKind.i64 (1 : Int))]), []) else some (Out.ret (V.tup [V.d (D.int IntKind.i32 (bitsI BinOp.or IntKind.i32 (bitsI BinOp.or IntKind.i32 (IntKind.i32.wrap (IntKind.i32.wrap (bitsI BinOp.and IntKind.u8 (↑b.toNat : Int) (15 : Int)) * 2 ^ min (12 : Int).toNat IntKind.i32.bits)) (IntKind.i32.wrap (IntKind.i32.wrap (bitsI BinOp.and IntKind.u8 (↑b_1.toNat : Int) (63 : Int)) * 2 ^ min (6 : Int).toNat IntKind.i32.bits))) (IntKind.i32.wrap (bitsI BinOp.and IntKind.u8 (↑b_2.toNat : Int) (63 : Int))))), V.d (D.int IntKind.i64 (3 : Int))]), []))) := by kernel_rfl

theorem o58_4 (n : Nat) (S : Caller) (b : UInt8) (r : List UInt8) : OPS cx (CK.plain S) n 58 0 5 3 [(21, V.d (D.int IntKind.u8 4)), (20, V.gptr 1 (0 + (↑b.toNat : Int).toNat * cx.P.cellsOf 5)), (19, V.d (D.int IntKind.u8 (↑b.toNat : Int))), (5, V.d (D.int IntKind.u8 (↑b.toNat : Int))), (18, V.d (D.int IntKind.u8 (↑b.toNat : Int))), (17, V.d (D.str (b :: r))), (16, V.d (D.bool false)), (15, V.d (D.int IntKind.i64 (↑(b :: r).length : Int))), (4, V.d (D.int IntKind.i64 (↑(b :: r).length : Int))), (14, V.d (D.int IntKind.i64 (↑(b :: r).length : Int))), (13, V.d (D.str (b :: r))), (3, V.d (D.int IntKind.i64 (0 : Int))), (2, V.d (D.int IntKind.i32 (0 : Int))), (0, V.d (D.str (b :: r)))] [] (AR cx (CK.plain S) n 58 0 5 (EK cx 58 0)) = bif decide ((↑(b :: r).length : Int) < (4 : Int)) then some (Out.ret (V.tup [V.d (D.int IntKind.i32 (65533 : Int)), V.d (D.int IntKind.i64 (1 : Int))]), []) else must (decide ((1 : Int) < (↑(b :: r).length : Int))) (optK (b :: r)[(1 : Int).toNat]? fun b_1 => bif decide ((↑b_1.toNat : Int) < (128 : Int)) then some (Out.ret (V.tup [V.d (D.int IntKind.i32 (65533 : Int)), V.d (D.int IntKind.i64 (1 : Int))]), []) else bif decide ((191 : Int) < (↑b_1.toNat : Int)) then some (Out.ret (V.tup [V.d (D.int IntKind.i32 (65533 : Int)), V.d (D.int IntKind.i64 (1 : Int))]), []) else must (decide ((2 : Int) < (↑(b :: r).length : Int))) (optK (b :: r)[(2 : Int).toNat]? fun b_2 => bif decide ((↑b_2.toNat : Int) < (128 : Int)) then some (Out.ret (V.tup [V.d (D.int IntKind.i32 (65533 : Int)), V.d (D.int IntKind.i64 (1 : Int))]), []) else bif decide ((191 : Int) < (↑b_2.toNat : Int)) then some (Out.ret (V.tup [V.d (D.int IntKind.i32 (65533 : Int)), V.d (D.int IntKind.i64 (1 : Int))]), []) else must (decide ((3 : Int) < (↑(b :: r).length : Int))) (optK (b :: r)[(3 : Int).toNat]? fun b_3 => bif decide ((↑b_3.toNat : Int) < (128 : Int)) then some (Out.ret (V.tup [V.d (D.int IntKind.i32 (65533 : Int)), V.d (D.int IntKind.i64 (1 : Int))]), []) else bif decide ((191 : Int) < (↑b_3.toNat : Int)) then some (Out.ret (V.tup [V.d (D.int IntKind.i32 (65533 : Int)), V.d (D.int IntKind.i64 (1 : Int))]), []) else some (Out.ret (V.tup [V.d (D.int IntKind.i32 (bitsI BinOp.or IntKind.i32 (bitsI BinOp.or IntKind.i32 (bitsI BinOp.or IntKind.i32 (IntKind.i32.wrap (IntKind.i32.wrap (bitsI BinOp.and IntKind.u8 (↑b.toNat : Int) (7 : Int)) * 2 ^ min (18 : Int).toNat IntKind.i32.bits)) (IntKind.i32.wrap (IntKind.i32.wrap (bitsI BinOp.and IntKind.u8 (↑b_1.toNat : Int) (63 : Int)) * 2 ^ min (12 : Int).toNat IntKind.i32.bits))) (IntKind.i32.wrap (IntKind.i32.wrap (bitsI BinOp.and IntKind.u8 (↑b_2.toNat : Int) (63 : Int)) * 2 ^ min (6 : Int).toNat IntKind.i32.bits))) (IntKind.i32.wrap (bitsI BinOp.and IntKind.u8 (↑b_3.toNat : Int) (63 : Int))))), V.d (D.int IntKind.i64 (4 : Int))]), [])))) := by kernel_rfl

/-- The library's table of first bytes. -/
def cl (n : Nat) : Int := bif Nat.blt n 128 then 240 else bif Nat.blt n 194 then 241 else bif Nat.blt n 224 then 2 else bif Nat.beq n 224 then 19 else bif Nat.beq n 237 then 35 else bif Nat.blt n 240 then 3 else bif Nat.beq n 240 then 52 else bif Nat.blt n 244 then 4 else bif Nat.beq n 244 then 68 else 241
theorem tab : unW Go.Pinned.utf8First = (List.range 256).map fun i => D.int .u8 (cl i) := by kernel_rfl
theorem cells5 : cx.P.cellsOf 5 = 1 := by kernel_rfl

theorem enter {b : UInt8} {r : List UInt8} {x : Int} (h : cl b.toNat = x) : evBody cx none1 0 58 [.d (.str (b :: r))] [] = OPS cx (CK.plain none1) 0 58 0 5 3 [(21, V.d (D.int IntKind.u8 x)), (20, V.gptr 1 (0 + (↑b.toNat : Int).toNat * cx.P.cellsOf 5)), (19, V.d (D.int IntKind.u8 (↑b.toNat : Int))), (5, V.d (D.int IntKind.u8 (↑b.toNat : Int))), (18, V.d (D.int IntKind.u8 (↑b.toNat : Int))), (17, V.d (D.str (b :: r))), (16, V.d (D.bool false)), (15, V.d (D.int IntKind.i64 (↑(b :: r).length : Int))), (4, V.d (D.int IntKind.i64 (↑(b :: r).length : Int))), (14, V.d (D.int IntKind.i64 (↑(b :: r).length : Int))), (13, V.d (D.str (b :: r))), (3, V.d (D.int IntKind.i64 (0 : Int))), (2, V.d (D.int IntKind.i32 (0 : Int))), (0, V.d (D.str (b :: r)))] [] (AR cx (CK.plain none1) 0 58 0 5 (EK cx 58 0)) := by
  have hb : b.toNat < 256 := b.toNat_lt
  rw [c58, len0, decide_eq_true (p := (b.toNat : Int) < (256 : Int)) (by omega)]
  have e : ∀ (R : Type) (K : D → Option R), nthD (D.agg (unW Go.Pinned.utf8First)).cells (0 + (b.toNat : Int).toNat * cx.P.cellsOf 5) K = K (.int .u8 x) := by
    intro R K
    show nthD (unW Go.Pinned.utf8First) _ K = _
    unfold nthD
    rw [tab, cells5, Nat.zero_add, Nat.mul_one, Int.toNat_natCast, List.getElem?_map, List.getElem?_range hb]
    simp only [Option.map_some, h]
  simp only [must, cond_true]
  rw [e]
  simp only [decide_true, cond_true]

theorem maskBad (b : UInt8) : bitsI BinOp.or IntKind.i32 (bitsI BinOp.andNot IntKind.i32 (IntKind.i32.wrap (b.toNat : Int)) (Int.negSucc 0)) (65533 : Int) = 65533 := by
  have h : ∀ i : _root_.Fin 256, bitsI BinOp.or IntKind.i32 (bitsI BinOp.andNot IntKind.i32 (IntKind.i32.wrap (i.val : Int)) (Int.negSucc 0)) (65533 : Int) = 65533 := by decide +kernel
  exact h ⟨b.toNat, b.toNat_lt⟩

theorem d20_bad (b : UInt8) (l : List UInt8) (h : cl b.toNat = 241) (hu : ∀ l, Sp.uni (b :: l) = 0) : DecR (b :: l) := by
  refine decBad ?_ (hu l)
  rw [enter h, o58_241, len0, maskBad]
  rfl

theorem d20_c2 (b : UInt8) (h : cl b.toNat = 2) (hu0 : Sp.uni [b] = 0) (hU : ∀ c l, Sp.uni (b :: c :: l) = (bif Sp.cont c then 2 else 0)) : ∀ (l : List UInt8), DecR (b :: l)
  | [] => by
    refine decBad ?_ hu0
    rw [enter h, o58_2]
    rfl
  | c :: l => by
    have hu := hU c l
    by_cases h0a : (c.toNat : Int) < 128
    · exact decBad (by rw [enter h, o58_2]; simp only [len0, len1, len2, len3, ge2, ge3, ge4, at1, at2, at3, must, optK, cond_true, cond_false, decide_eq_true h0a]) (by rw [hu, contF (c := c) (.inl h0a)]; simp only [Bool.and_false, Bool.false_and, cond_false])
    by_cases h0b : (191 : Int) < (c.toNat : Int)
    · exact decBad (by rw [enter h, o58_2]; simp only [len0, len1, len2, len3, ge2, ge3, ge4, at1, at2, at3, must, optK, cond_true, cond_false, decide_eq_false h0a, decide_eq_true h0b]) (by rw [hu, contF (c := c) (.inr h0b)]; simp only [Bool.and_false, Bool.false_and, cond_false])
    exact decGood (k := 2) (by rw [enter h, o58_2]; simp only [len0, len1, len2, len3, ge2, ge3, ge4, at1, at2, at3, must, optK, cond_true, cond_false, decide_eq_false h0a, decide_eq_false h0b]; rfl) (by rw [hu, contT (c := c) h0a h0b]; first | done | rfl) (by omega)

theorem d20_c3 (b : UInt8) (h : cl b.toNat = 3) (hu0 : Sp.uni [b] = 0) (hu1 : ∀ c, Sp.uni [b, c] = 0) (hU : ∀ c d l, Sp.uni (b :: c :: d :: l) = (bif decide (128 ≤ c.toNat) && decide (c.toNat ≤ 191) && Sp.cont d then 3 else 0)) : ∀ (l : List UInt8), DecR (b :: l)
  | [] => by
    refine decBad ?_ hu0
    rw [enter h, o58_3]
    rfl
  | [c] => decBad (by rw [enter h, o58_3]; rfl) (hu1 c)
  | c :: d :: l => by
    have hu := hU c d l
    by_cases h0a : (c.toNat : Int) < 128
    · exact decBad (by rw [enter h, o58_3]; simp only [len0, len1, len2, len3, ge2, ge3, ge4, at1, at2, at3, must, optK, cond_true, cond_false, decide_eq_true h0a]) (by rw [hu, decide_eq_false (p := 128 ≤ c.toNat) (by omega)]; simp only [Bool.false_and, cond_false])
    by_cases h0b : (191 : Int) < (c.toNat : Int)
    · exact decBad (by rw [enter h, o58_3]; simp only [len0, len1, len2, len3, ge2, ge3, ge4, at1, at2, at3, must, optK, cond_true, cond_false, decide_eq_false h0a, decide_eq_true h0b]) (by rw [hu, decide_eq_false (p := c.toNat ≤ 191) (by omega)]; simp only [Bool.and_false, Bool.false_and, cond_false])
    by_cases h1a : (d.toNat : Int) < 128
    · exact decBad (by rw [enter h, o58_3]; simp only [len0, len1, len2, len3, ge2, ge3, ge4, at1, at2, at3, must, optK, cond_true, cond_false, decide_eq_false h0a, decide_eq_false h0b, decide_eq_true h1a]) (by rw [hu, contF (c := d) (.inl h1a)]; simp only [Bool.and_false, Bool.false_and, cond_false])
    by_cases h1b : (191 : Int) < (d.toNat : Int)
    · exact decBad (by rw [enter h, o58_3]; simp only [len0, len1, len2, len3, ge2, ge3, ge4, at1, at2, at3, must, optK, cond_true, cond_false, decide_eq_false h0a, decide_eq_false h0b, decide_eq_false h1a, decide_eq_true h1b]) (by rw [hu, contF (c := d) (.inr h1b)]; simp only [Bool.and_false, Bool.false_and, cond_false])
    exact decGood (k := 3) (by rw [enter h, o58_3]; simp only [len0, len1, len2, len3, ge2, ge3, ge4, at1, at2, at3, must, optK, cond_true, cond_false, decide_eq_false h0a, decide_eq_false h0b, decide_eq_false h1a, decide_eq_false h1b]; rfl) (by rw [hu, decide_eq_true (p := 128 ≤ c.toNat) (by omega), decide_eq_true (p := c.toNat ≤ 191) (by omega), contT (c := d) h1a h1b]; first | done | rfl) (by omega)

theorem d20_c4 (b : UInt8) (h : cl b.toNat = 4) (hu0 : Sp.uni [b] = 0) (hu1 : ∀ c, Sp.uni [b, c] = 0) (hu2 : ∀ c d, Sp.uni [b, c, d] = 0) (hU : ∀ c d e l, Sp.uni (b :: c :: d :: e :: l) = (bif decide (128 ≤ c.toNat) && decide (c.toNat ≤ 191) && Sp.cont d && Sp.cont e then 4 else 0)) : ∀ (l : List UInt8), DecR (b :: l)
  | [] => by
    refine decBad ?_ hu0
    rw [enter h, o58_4]
    rfl
  | [c] => decBad (by rw [enter h, o58_4]; rfl) (hu1 c)
  | [c, d] => decBad (by rw [enter h, o58_4]; rfl) (hu2 c d)
  | c :: d :: e :: l => by
    have hu := hU c d e l
    by_cases h0a : (c.toNat : Int) < 128
    · exact decBad (by rw [enter h, o58_4]; simp only [len0, len1, len2, len3, ge2, ge3, ge4, at1, at2, at3, must, optK, cond_true, cond_false, decide_eq_true h0a]) (by rw [hu, decide_eq_false (p := 128 ≤ c.toNat) (by omega)]; simp only [Bool.false_and, cond_false])
    by_cases h0b : (191 : Int) < (c.toNat : Int)
    · exact decBad (by rw [enter h, o58_4]; simp only [len0, len1, len2, len3, ge2, ge3, ge4, at1, at2, at3, must, optK, cond_true, cond_false, decide_eq_false h0a, decide_eq_true h0b]) (by rw [hu, decide_eq_false (p := c.toNat ≤ 191) (by omega)]; simp only [Bool.and_false, Bool.false_and, cond_false])
    by_cases h1a : (d.toNat : Int) < 128
    · exact decBad (by rw [enter h, o58_4]; simp only [len0, len1, len2, len3, ge2, ge3, ge4, at1, at2, at3, must, optK, cond_true, cond_false, decide_eq_false h0a, decide_eq_false h0b, decide_eq_true h1a]) (by rw [hu, contF (c := d) (.inl h1a)]; simp only [Bool.and_false, Bool.false_and, cond_false])
    by_cases h1b : (191 : Int) < (d.toNat : Int)
    · exact decBad (by rw [enter h, o58_4]; simp only [len0, len1, len2, len3, ge2, ge3, ge4, at1, at2, at3, must, optK, cond_true, cond_false, decide_eq_false h0a, decide_eq_false h0b, decide_eq_false h1a, decide_eq_true h1b]) (by rw [hu, contF (c := d) (.inr h1b)]; simp only [Bool.and_false, Bool.false_and, cond_false])
    by_cases h2a : (e.toNat : Int) < 128
    · exact decBad (by rw [enter h, o58_4]; simp only [len0, len1, len2, len3, ge2, ge3, ge4, at1, at2, at3, must, optK, cond_true, cond_false, decide_eq_false h0a, decide_eq_false h0b, decide_eq_false h1a, decide_eq_false h1b, decide_eq_true h2a]) (by rw [hu, contF (c := e) (.inl h2a)]; simp only [Bool.and_false, Bool.false_and, cond_false])
    by_cases h2b : (191 : Int) < (e.toNat : Int)
    · exact decBad (by rw [enter h, o58_4]; simp only [len0, len1, len2, len3, ge2, ge3, ge4, at1, at2, at3, must, optK, cond_true, cond_false, decide_eq_false h0a, decide_eq_false h0b, decide_eq_false h1a, decide_eq_false h1b, decide_eq_false h2a, decide_eq_true h2b]) (by rw [hu, contF (c := e) (.inr h2b)]; simp only [Bool.and_false, Bool.false_and, cond_false])
    exact decGood (k := 4) (by rw [enter h, o58_4]; simp only [len0, len1, len2, len3, ge2, ge3, ge4, at1, at2, at3, must, optK, cond_true, cond_false, decide_eq_false h0a, decide_eq_false h0b, decide_eq_false h1a, decide_eq_false h1b, decide_eq_false h2a, decide_eq_false h2b]; rfl) (by rw [hu, decide_eq_true (p := 128 ≤ c.toNat) (by omega), decide_eq_true (p := c.toNat ≤ 191) (by omega), contT (c := d) h1a h1b, contT (c := e) h2a h2b]; first | done | rfl) (by omega)

end Go.Vai
end

section
namespace Go.Vai
open Go.Proofs

theorem cl_tab : ∀ i : _root_.Fin 256, 128 ≤ i.val → (cl i.val = 241 ∧ (i.val < 194 ∨ 244 < i.val)) ∨ (cl i.val = 2 ∧ 194 ≤ i.val ∧ i.val ≤ 223) ∨ i.val = 224 ∨ i.val = 237 ∨ (cl i.val = 3 ∧ 225 ≤ i.val ∧ i.val ≤ 239 ∧ i.val ≠ 237) ∨ i.val = 240 ∨ (cl i.val = 4 ∧ 241 ≤ i.val ∧ i.val ≤ 243) ∨ i.val = 244 := by decide +kernel

theorem d20 (b : UInt8) (l : List UInt8) (h : 128 ≤ b.toNat) : DecR (b :: l) := by
  have f0 : decide (b.toNat < 128) = false := decide_eq_false (by omega)
  rcases cl_tab ⟨b.toNat, b.toNat_lt⟩ h with ⟨hc, hr⟩ | ⟨hc, h1, h2⟩ | hb | hb | ⟨hc, h1, h2, h3⟩ | hb | ⟨hc, h1, h2⟩ | hb
  · simp only at hc hr
    refine d20_bad b l hc fun l => ?_
    have g1 : (decide (194 ≤ b.toNat) && decide (b.toNat ≤ 223)) = false := by rcases hr with hr | hr <;> simp <;> omega
    have g2 : (decide (224 ≤ b.toNat) && decide (b.toNat ≤ 239)) = false := by rcases hr with hr | hr <;> simp <;> omega
    have g3 : (decide (240 ≤ b.toNat) && decide (b.toNat ≤ 244)) = false := by rcases hr with hr | hr <;> simp <;> omega
    simp only [Sp.uni, f0, g1, g2, g3, cond_false]
  · simp only at hc h1 h2
    have g1 : (decide (194 ≤ b.toNat) && decide (b.toNat ≤ 223)) = true := by simp; omega
    exact d20_c2 b hc (by simp only [Sp.uni, f0, g1, cond_false, cond_true]) (fun c l => by simp only [Sp.uni, f0, g1, cond_false, cond_true]) l
  · obtain rfl : b = 224 := UInt8.toNat_inj.1 hb
    exact d20_224 l
  · obtain rfl : b = 237 := UInt8.toNat_inj.1 hb
    exact d20_237 l
  · simp only at hc h1 h2 h3
    have g1 : (decide (194 ≤ b.toNat) && decide (b.toNat ≤ 223)) = false := by simp; omega
    have g2 : (decide (224 ≤ b.toNat) && decide (b.toNat ≤ 239)) = true := by simp; omega
    have g3 : decide (b.toNat = 224) = false := decide_eq_false (by omega)
    have g4 : decide (b.toNat = 237) = false := decide_eq_false h3
    exact d20_c3 b hc (by simp only [Sp.uni, f0, g1, g2, cond_false, cond_true]) (fun c => by simp only [Sp.uni, f0, g1, g2, cond_false, cond_true]) (fun c d l => by simp only [Sp.uni, f0, g1, g2, g3, g4, cond_false, cond_true]) l
  · obtain rfl : b = 240 := UInt8.toNat_inj.1 hb
    exact d20_240 l
  · simp only at hc h1 h2
    have g1 : (decide (194 ≤ b.toNat) && decide (b.toNat ≤ 223)) = false := by simp; omega
    have g2 : (decide (224 ≤ b.toNat) && decide (b.toNat ≤ 239)) = false := by simp; omega
    have g5 : (decide (240 ≤ b.toNat) && decide (b.toNat ≤ 244)) = true := by simp; omega
    have g3 : decide (b.toNat = 240) = false := decide_eq_false (by omega)
    have g4 : decide (b.toNat = 244) = false := decide_eq_false (by omega)
    exact d20_c4 b hc (by simp only [Sp.uni, f0, g1, g2, g5, cond_false, cond_true]) (fun c => by simp only [Sp.uni, f0, g1, g2, g5, cond_false, cond_true]) (fun c d => by simp only [Sp.uni, f0, g1, g2, g5, cond_false, cond_true]) (fun c d e l => by simp only [Sp.uni, f0, g1, g2, g3, g4, g5, cond_false, cond_true]) l
  · obtain rfl : b = 244 := UInt8.toNat_inj.1 hb
    exact d20_244 l
end Go.Vai
end

section
namespace Go.Vai
open Go.Proofs

noncomputable def Sp.slow (s : List UInt8) : Int × Int := match evLim cx 58 [.d (.str s)] [] with | some (.ret (.tup [.d (.int _ r), .d (.int _ n)]), _) => (r, n) | _ => (0, 0)
noncomputable def slowF : List V → Option Out | [.d (.str (b :: r))] => some (.ret (.tup [.d (.int .i32 (Sp.slow (b :: r)).1), .d (.int .i64 (Sp.slow (b :: r)).2)])) | _ => none
noncomputable def S12 : Caller := also 58 slowF none1

theorem b12 (n : Nat) (b : UInt8) (r : List UInt8) : evBody cx S12 n 29 [.d (.str (b :: r))] [] = must (decide ((0 : Int) < (↑(b :: r).length : Int))) (bif decide ((↑b.toNat : Int) < (128 : Int)) then must (decide ((0 : Int) < (↑(b :: r).length : Int))) (some (Out.ret (V.tup [V.d (D.int IntKind.i32 (IntKind.i32.wrap (↑b.toNat : Int))), V.d (D.int IntKind.i64 (1 : Int))]), [])) else must (decide (128 ≤ b.toNat)) (some (Out.ret (V.tup [V.d (D.int IntKind.i32 (Sp.slow (b :: r)).fst), V.d (D.int IntKind.i64 (Sp.slow (b :: r)).snd)]), []))) := by kernel_rfl

theorem slow_some {args : List V} {o : Out} (h : slowF args = some o) : ∃ b r, args = [.d (.str (b :: r))] ∧ o = .ret (.tup [.d (.int .i32 (Sp.slow (b :: r)).1), .d (.int .i64 (Sp.slow (b :: r)).2)]) := by
  unfold slowF at h
  split at h
  · cases h; exact ⟨_, _, rfl, rfl⟩
  · cases h

theorem slow_ok {b : UInt8} {r : List UInt8} (h : 128 ≤ b.toNat) : evLim cx 58 [.d (.str (b :: r))] [] = some (.ret (.tup [.d (.int .i32 (Sp.slow (b :: r)).1), .d (.int .i64 (Sp.slow (b :: r)).2)]), []) ∧
    (Sp.uni (b :: r) = 0 → (Sp.slow (b :: r)).1 = 65533 ∧ (Sp.slow (b :: r)).2 < 2) ∧ (Sp.uni (b :: r) ≠ 0 → (Sp.slow (b :: r)).2 = Sp.uni (b :: r) ∧ ((Sp.slow (b :: r)).2 < 2 → (Sp.slow (b :: r)).1 ≠ 65533)) := by
  obtain ⟨x, n, h1, h2, h3⟩ := d20 b r h
  have e : Sp.slow (b :: r) = (x, n) := by unfold Sp.slow; rw [h1]
  rw [e]
  exact ⟨h1, h2, h3⟩

theorem S12_knows : knows cx S12 (evLim cx) := also_knows (none1_knows cx) fun args o hd h => by
  obtain ⟨b, r, rfl, rfl⟩ := slow_some h
  exact (slow_ok (of_decide_eq_true hd)).1

theorem lim12c (b : UInt8) (r : List UInt8) : ∃ x n : Int, evLim cx 29 [.d (.str (b :: r))] [] = some (.ret (.tup [.d (.int .i32 x), .d (.int .i64 n)]), []) ∧
    (Sp.uni (b :: r) = 0 → x = 65533 ∧ n < 2) ∧ (Sp.uni (b :: r) ≠ 0 → n = Sp.uni (b :: r) ∧ (n < 2 → x ≠ 65533)) := by
  by_cases h : b.toNat < 128
  · have hu : Sp.uni (b :: r) = 1 := by simp only [Sp.uni, decide_eq_true h, cond_true]
    refine ⟨IntKind.i32.wrap b.toNat, 1, lim_body (N := 0) S12_knows ?_, fun h0 => by omega, fun _ => ⟨by rw [hu]; rfl, fun _ he => ?_⟩⟩
    · rw [b12, len0, decide_eq_true (p := (b.toNat : Int) < 128) (by omega)]
      rfl
    · have : IntKind.i32.wrap (b.toNat : Int) = b.toNat := by rw [IntKind.wrap_i32]; omega
      omega
  · obtain ⟨h1, h2, h3⟩ := slow_ok (r := r) (Nat.le_of_not_lt h)
    refine ⟨_, _, lim_body (N := 0) S12_knows ?_, h2, h3⟩
    rw [b12, len0, decide_eq_false (p := (b.toNat : Int) < 128) (by omega), decide_eq_true (p := 128 ≤ b.toNat) (by omega)]
    rfl

end Go.Vai
end

section
namespace Go.Vai
open Go.Proofs

theorem lim12n : evLim cx 29 [.d (.str [])] [] = some (.ret (.tup [.d (.int .i32 65533), .d (.int .i64 0)]), []) := lim_of (n := 10) (by kernel_rfl)

theorem lim12 : ∀ (s : List UInt8), evLim cx 29 [.d (.str s)] [] = some (.ret (.tup [.d (.int .i32 (Sp.dec s).1), .d (.int .i64 (Sp.dec s).2)]), [])
  | [] => by
    have e : Sp.dec [] = (65533, 0) := by unfold Sp.dec; rw [lim12n]
    rw [e]; exact lim12n
  | b :: r => by
    obtain ⟨x, n, h, _⟩ := lim12c b r
    have e : Sp.dec (b :: r) = (x, n) := by unfold Sp.dec; rw [h]
    rw [e]; exact h

theorem decOk : DecOk := by
  intro l hl
  cases l with
  | nil => exact absurd rfl hl
  | cons b r =>
    obtain ⟨x, n, h, h2⟩ := lim12c b r
    have e : Sp.dec (b :: r) = (x, n) := by unfold Sp.dec; rw [h]
    rw [e]; exact h2

theorem S7_knows : knows cx S7 (evLim cx) := by
  refine also_knows (also_knows (also_knows (none1_knows cx) ?_) ?_) ?_
  · intro args o hd h
    unfold oneF at h
    split at h
    · cases h; exact lim14 _ (of_decide_eq_true hd)
    · cases h
  · intro args o hd h
    unfold pastF at h
    split at h
    · cases h
      rename_i s a
      have hd' : (decide (s.length ≤ big) && (decide (0 ≤ a) && decide (a ≤ (s.length : Int)))) = true := hd
      simp only [Bool.and_eq_true, decide_eq_true_eq] at hd'
      obtain ⟨h1, h2, h3⟩ := hd'
      have := lim13 s a.toNat h1 (by omega)
      rw [show ((a.toNat : Nat) : Int) = a by omega] at this
      exact this
    · cases h
  · intro args o _ h
    unfold decF at h
    split at h
    · cases h; exact lim12 _
    · cases h

theorem lim7 (s : List UInt8) : evLim cx 13 [.d (.str s)] [(0, .tok 0)] = scanRes (Sp.scan s) := by
  unfold Sp.scan
  by_cases h : 65536 < s.length
  · rw [decide_eq_true h, cond_true]
    refine lim_body (N := 0) S7_knows ?_
    rw [b7, decide_eq_true (p := (65536 : Int) < (s.length : Int)) (by omega)]
    rfl
  · rw [decide_eq_false h, cond_false]
    have hl := utf_loop decOk (s := s) (by omega) (n := s.length + 1) (by omega) s.length 0 (s.length + 1) (by omega) (by omega) (Nat.zero_le _)
    rw [List.drop_zero] at hl
    have : evBody cx S7 (s.length + 1) 13 [.d (.str s)] [(0, .tok 0)] = utfRes s (Sp.utfGo s.length s 0) := by
      rw [b7, decide_eq_false (p := (65536 : Int) < (s.length : Int)) (by omega), cond_false]
      exact hl
    cases hu : Sp.utfGo s.length s 0 with
    | none => rw [hu] at this; exact lim_body (N := s.length + 1) S7_knows this
    | some p => rw [hu] at this; exact lim_body (N := s.length + 1) S7_knows this

end Go.Vai
end

section
namespace Go.Vai
open Go.Proofs

theorem nameGo_ge : ∀ (r : List UInt8) (j : Nat), j ≤ Sp.nameGo r j
  | [], j => Nat.le_refl _
  | b :: r, j => by
    have := nameGo_ge r (j + 1)
    simp only [Sp.nameGo]
    cases (Sp.letter b.toNat || (decide (0 < j) && Sp.digit b.toNat))
    · exact Nat.le_refl _
    · simp only [cond_true]; omega

theorem signGo_kind (s : List UInt8) : ∀ l : List (List UInt8), (Sp.signGo s l).2 = [] ∨ (Sp.signGo s l).1 = 2
  | [] => .inl rfl
  | x :: l => by
    simp only [Sp.signGo]
    cases Sp.hasPre s x
    · exact signGo_kind s l
    · exact .inr rfl

theorem toks_len {s : List UInt8} : ∀ (f j : Nat) (l : List D), (Sp.toks f s j l).1.length ≤ l.length + f
  | 0, _, l => Nat.zero_le _
  | f + 1, j, l => by
    rw [Sp.toks]
    cases decide (j < s.length)
    · simp
    · rw [cond_true]
      cases decide ((Sp.one (s.drop j)).2 = [])
      · rw [cond_false]
        have := toks_len (s := s) f (Sp.past s (j + (Sp.one (s.drop j)).2.length)) (l ++ [tokD (Sp.one (s.drop j)).1 (Sp.one (s.drop j)).2 j])
        simp at this; omega
      · exact Nat.zero_le _

theorem scan_len (s : List UInt8) : (Sp.scan s).1.length ≤ s.length + 1 := by
  unfold Sp.scan
  cases decide (65536 < s.length)
  · rw [cond_false]
    cases Sp.utfGo s.length s 0
    · simpa using toks_len (s := s) (s.length + 1) (Sp.past s 0) []
    · exact Nat.zero_le _
  · exact Nat.zero_le _

/-- A text's tokens from some place on, to the end. -/
inductive Cov (s : List UInt8) : Nat → List D → Prop
  | fin {e : Nat} : e ≤ s.length → Sp.past s e = s.length → Cov s e [tokD 0 [] (s.length : Int)]
  | tok {e j : Nat} {k : Int} {t : List UInt8} {rest : List D} : e ≤ s.length → Sp.past s e = j → j < s.length → Sp.one (s.drop j) = (k, t) → t ≠ [] → Cov s (j + t.length) rest → Cov s e (tokD k t (j : Int) :: rest)

theorem Cov.ne {s : List UInt8} {e : Nat} {l : List D} (h : Cov s e l) : 0 < l.length := by cases h <;> simp

theorem toks_cov {s : List UInt8} : ∀ (f e : Nat) (acc : List D), e ≤ s.length → s.length - Sp.past s e < f →
    (∃ rest, Sp.toks f s (Sp.past s e) acc = (acc ++ rest, 0, 0) ∧ Cov s e rest) ∨ (∃ p : Nat, Sp.toks f s (Sp.past s e) acc = ([], (p : Int), 61) ∧ p < s.length)
  | 0, _, _, _, hf => by omega
  | f + 1, e, acc, he, hf => by
    have hb := past_bounds he
    rw [Sp.toks]
    by_cases hlt : Sp.past s e < s.length
    · rw [decide_eq_true hlt, cond_true]
      have hle := one_le (s.drop (Sp.past s e))
      rw [List.length_drop] at hle
      by_cases ho : (Sp.one (s.drop (Sp.past s e))).2 = []
      · rw [decide_eq_true ho, cond_true]; exact .inr ⟨_, rfl, hlt⟩
      · rw [decide_eq_false ho, cond_false]
        have hpos : 0 < (Sp.one (s.drop (Sp.past s e))).2.length := List.length_pos_iff.2 ho
        have hb2 := past_bounds (s := s) (j := Sp.past s e + (Sp.one (s.drop (Sp.past s e))).2.length) (by omega)
        rcases toks_cov (s := s) f (Sp.past s e + (Sp.one (s.drop (Sp.past s e))).2.length) (acc ++ [tokD (Sp.one (s.drop (Sp.past s e))).1 (Sp.one (s.drop (Sp.past s e))).2 (Sp.past s e : Int)]) (by omega) (by omega) with ⟨rest, h1, h2⟩ | h
        · exact .inl ⟨_, by rw [h1, List.append_assoc]; rfl, .tok he rfl hlt rfl ho h2⟩
        · exact .inr h
    · rw [decide_eq_false hlt, cond_false]
      exact .inl ⟨_, rfl, .fin he (by omega)⟩

theorem cov_toks {s : List UInt8} {e : Nat} {l : List D} (h : Cov s e l) : ∀ (f : Nat) (acc : List D), s.length - Sp.past s e < f → Sp.toks f s (Sp.past s e) acc = (acc ++ l, 0, 0) := by
  induction h with
  | fin he hp =>
    intro f acc hf
    obtain ⟨f, rfl⟩ : ∃ i, f = i + 1 := ⟨f - 1, by omega⟩
    rw [Sp.toks, decide_eq_false (by omega), cond_false]
  | @tok e j k t rest he hp hlt ho hne hr ih =>
    intro f acc hf
    obtain ⟨f, rfl⟩ : ∃ i, f = i + 1 := ⟨f - 1, by omega⟩
    have hle := one_le (s.drop j)
    rw [List.length_drop, ho] at hle
    have hpos : 0 < t.length := List.length_pos_iff.2 hne
    have hle' : t.length ≤ s.length - j := hle
    have hb := past_bounds (s := s) (j := j + t.length) (by omega)
    rw [Sp.toks, hp, decide_eq_true hlt, cond_true, ho]
    simp only []
    rw [decide_eq_false hne, cond_false, ih f _ (by omega), List.append_assoc]; rfl

/-- What lex.Scan tells. -/
theorem scan_says (s : List UInt8) : (s.length ≤ 65536 ∧ Sp.utfGo s.length s 0 = none ∧ ∃ l, Sp.scan s = (l, 0, 0) ∧ Cov s 0 l) ∨ (¬ (Sp.scan s).2.2 = 0 ∧ (Sp.scan s).1 = [] ∧ ∃ p : Nat, (Sp.scan s).2.1 = (p : Int) ∧ p ≤ s.length) := by
  unfold Sp.scan
  by_cases h : 65536 < s.length
  · rw [decide_eq_true h, cond_true]; exact .inr ⟨by decide, rfl, 0, rfl, Nat.zero_le _⟩
  · rw [decide_eq_false h, cond_false]
    cases hu : Sp.utfGo s.length s 0 with
    | none =>
      have hb := past_bounds (s := s) (j := 0) (Nat.zero_le _)
      rcases toks_cov (s := s) (s.length + 1) 0 [] (Nat.zero_le _) (by omega) with ⟨rest, h1, h2⟩ | ⟨p, h1, h2⟩
      · exact .inl ⟨by omega, rfl, rest, by simpa using h1, h2⟩
      · exact .inr (by rw [h1]; exact ⟨fun h => absurd (show (61 : Int) = 0 from h) (by decide), rfl, p, rfl, by omega⟩)
    | some p =>
      refine .inr ⟨by simp, rfl, p, rfl, ?_⟩
      have hle : ∀ (f j p : Nat) (r : List UInt8), r.length + j ≤ s.length → Sp.utfGo f r j = some p → p ≤ s.length := by
        intro f
        induction f with
        | zero => intro j p r hr h; cases r with | nil => cases h | cons b r => cases h; omega
        | succ f ih =>
          intro j p r hr h
          cases r with
          | nil => cases h
          | cons b r =>
            rw [Sp.utfGo] at h
            cases hb : Nat.beq (Sp.uni (b :: r)) 0
            · rw [hb, cond_false] at h
              have := uni_le (b :: r)
              exact ih _ p _ (by rw [List.length_drop]; omega) h
            · rw [hb, cond_true] at h; cases h; omega
      exact hle _ _ _ _ (Nat.le_refl _) hu

/-- A token's kind and text. -/
def Tk (k : Int) (t : List UInt8) : Prop := (k = 1 ∧ ∃ b r, t = b :: r ∧ Sp.letter (b.toNat : Int) = true ∧ ∀ c ∈ r, (Sp.letter (c.toNat : Int) || Sp.digit (c.toNat : Int)) = true) ∨ (k = 2 ∧ t ∈ Sp.signs)

/-- No token goes on so. -/
def stops (r : List UInt8) : Prop := r = [] ∨ ∃ c r', r = c :: r' ∧ (c = 32 ∨ c = 10 ∨ c = 45)

theorem nameGo_take : ∀ (x : List UInt8) (j : Nat), 0 < j → ∀ c ∈ x.take (Sp.nameGo x j - j), (Sp.letter (c.toNat : Int) || Sp.digit (c.toNat : Int)) = true
  | [], j, _ => by intro c hc; simp at hc
  | b :: x, j, hj => by
    rw [Sp.nameGo, decide_eq_true hj, Bool.true_and]
    cases h : (Sp.letter (b.toNat : Int) || Sp.digit (b.toNat : Int))
    · rw [cond_false, Nat.sub_self]; intro c hc; cases hc
    · have hge := nameGo_ge x (j + 1)
      rw [cond_true, show Sp.nameGo x (j + 1) - j = (Sp.nameGo x (j + 1) - (j + 1)) + 1 by omega, List.take_succ_cons]
      intro c hc
      cases hc with
      | head => exact h
      | tail _ hc => exact nameGo_take x (j + 1) (by omega) c hc

theorem signGo_mem (x : List UInt8) : ∀ l : List (List UInt8), (Sp.signGo x l).2 = [] ∨ (Sp.signGo x l).2 ∈ l
  | [] => .inl rfl
  | y :: l => by
    simp only [Sp.signGo]
    cases Sp.hasPre x y
    · rw [cond_false]
      rcases signGo_mem x l with h | h
      · exact .inl h
      · exact .inr (List.mem_cons_of_mem _ h)
    · exact .inr List.mem_cons_self

theorem tk_of_one {x : List UInt8} {k : Int} {t : List UInt8} (h : Sp.one x = (k, t)) (ht : t ≠ []) : Tk k t := by
  unfold Sp.one at h
  cases hn : decide (0 < Sp.nameLen x)
  · rw [hn, cond_false] at h
    have h1 := signGo_kind x Sp.signs
    have h2 := signGo_mem x Sp.signs
    rw [h] at h1 h2
    exact .inr ⟨h1.resolve_left ht, h2.resolve_left ht⟩
  · rw [hn, cond_true] at h
    have hn' := of_decide_eq_true hn
    cases h
    refine .inl ⟨rfl, ?_⟩
    cases x with
    | nil => exact absurd rfl ht
    | cons b r =>
      have hge := nameGo_ge r 1
      unfold Sp.nameLen at hn' ⊢
      rw [Sp.nameGo] at hn' ⊢
      cases hb : Sp.letter (b.toNat : Int)
      · rw [hb, decide_eq_false (p := 0 < 0) (by omega), Bool.false_and, Bool.false_or, cond_false] at hn'; omega
      · rw [Bool.true_or, cond_true, Nat.zero_add, show Sp.nameGo r 1 = (Sp.nameGo r 1 - 1) + 1 by omega, List.take_succ_cons]
        exact ⟨b, _, rfl, hb, nameGo_take r 1 (by omega)⟩

theorem letter_not {b : UInt8} (h : Sp.letter (b.toNat : Int) = true) : Sp.blank (b.toNat : Int) = false ∧ ¬ (b.toNat : Int) = 45 ∧ b.toNat < 128 := by
  simp only [Sp.letter, Bool.or_eq_true, Bool.and_eq_true, decide_eq_true_eq] at h
  refine ⟨?_, by omega, by omega⟩
  unfold Sp.blank
  rw [decide_eq_false (by omega), decide_eq_false (by omega), decide_eq_false (by omega), decide_eq_false (by omega)]; rfl

theorem digit_not {b : UInt8} (h : Sp.digit (b.toNat : Int) = true) : b.toNat < 128 := by
  simp only [Sp.digit, Bool.and_eq_true, decide_eq_true_eq] at h
  omega

theorem tk_low {k : Int} {t : List UInt8} (h : Tk k t) : ∀ c ∈ t, c.toNat < 128 := by
  rcases h with ⟨rfl, b, u, rfl, hb, hu⟩ | ⟨rfl, ht⟩
  · intro c hc
    cases hc with
    | head => exact (letter_not hb).2.2
    | tail _ hc =>
      have := hu c hc
      rw [Bool.or_eq_true] at this
      rcases this with h | h
      · exact (letter_not h).2.2
      · exact digit_not h
  · have : ∀ t ∈ Sp.signs, ∀ c ∈ t, c.toNat < 128 := by decide
    exact this t ht

/-- Low bytes are a text. -/
theorem utf_low : ∀ (f : Nat) (r : List UInt8) (j : Nat), r.length ≤ f → (∀ c ∈ r, c.toNat < 128) → Sp.utfGo f r j = none
  | f, [], j, _, _ => by cases f <;> rfl
  | 0, b :: r, j, h, _ => by simp at h
  | f + 1, b :: r, j, h, hl => by
    have hu : Sp.uni (b :: r) = 1 := by simp only [Sp.uni, decide_eq_true (hl b List.mem_cons_self), cond_true]
    rw [Sp.utfGo, hu]
    exact utf_low f r (j + 1) (by simpa using h) fun c hc => hl c (List.mem_cons_of_mem _ hc)

/-- Tokens, the last one the end. -/
inductive LTok : List D → Prop
  | fin {a : Int} : LTok [tokD 0 [] a]
  | tok {k : Int} {t : List UInt8} {a : Int} {l : List D} : Tk k t → t.length ≤ 65536 → LTok l → LTok (tokD k t a :: l)

end Go.Vai
end

section
namespace Go.Vai
open Go.Proofs

abbrev R1 := Out × St

def optP (o : Option R1) (K : Out → St → Option R1) : Option R1 := match o with | some (a, s) => K a s | none => none

theorem optP_optK {α : Type} (x : Option α) (F : α → Option R1) (K : Out → St → Option R1) : optP (optK x F) K = optK x fun a => optP (F a) K := by cases x <;> rfl
theorem optP_cond (c : Bool) (a b : Option R1) (K : Out → St → Option R1) : optP (bif c then a else b) K = bif c then optP a K else optP b K := by cases c <;> rfl
theorem optP_some (o : Out) (s : St) (K : Out → St → Option R1) : optP (some (o, s)) K = K o s := rfl

/-- A reader: its tokens, and where it is. -/
abbrev rdSt (l : List D) (i : Int) : St := [(0, .val 2 (.d (.agg [.sl 3 l, .int .i64 i])))]

/-- What a function of a reader answers. -/
structure RF where
  α : Type
  dec : List V → Option α
  go : List D → Int → α → (Out → Int → Option R1) → Option R1
  ok : ∀ l i x (K : Out → St → Option R1), go l i x (fun o j => K o (rdSt l j)) = optP (go l i x fun o j => some (o, rdSt l j)) K

def rdOf : St → Option (List D × Int) | [(0, .val 2 (.d (.agg [.sl 3 l, .int .i64 i])))] => some (l, i) | _ => none
def rdArg : List V → Option (List V) | .ptr 0 0 :: r => some r | _ => none
def rdGo (F : RF) (x : F.α) (K : Out → St → Option R1) : List D × Int → Option R1 | (l, i) => F.go l i x fun o j => K o [(0, .val 2 (.d (.agg [.sl 3 l, .int .i64 j])))]

theorem rdOf_some {σ : St} {q : List D × Int} (h : rdOf σ = some q) : σ = rdSt q.1 q.2 := by
  unfold rdOf at h
  split at h
  · cases h; rfl
  · cases h
theorem rdArg_some {a r : List V} (h : rdArg a = some r) : a = .ptr 0 0 :: r := by
  unfold rdArg at h
  split at h
  · cases h; rfl
  · cases h

/-- What is known, and a reader's function more. -/
def rdr (f : Nat) (F : RF) (S : CK R1) : CK R1 where
  S := fun g args σ => bif Nat.beq g f then optK (rdOf σ) fun q => optK (rdArg args) fun r => optK (F.dec r) fun x => rdGo F x (fun o s => some (o, s)) q else S.S g args σ
  run := fun g args σ K => bif Nat.beq g f then optK (rdOf σ) fun q => optK (rdArg args) fun r => optK (F.dec r) fun x => rdGo F x K q else S.run g args σ K
  ok := fun g a σ K => by
    show _ = optP _ K
    rw [optP_cond, optP_optK]
    simp only [optP_optK]
    cases Nat.beq g f
    · exact S.ok g a σ K
    · simp only [cond_true]
      congr 1
      funext q
      congr 1
      funext r
      congr 1
      funext x
      exact F.ok q.1 q.2 x K

theorem rdr_knows {f : Nat} {F : RF} {S : CK R1} (hS : knows cx S.S (evLim cx))
    (hF : ∀ l i x r args, F.dec args = some x → F.go l i x (fun o j => some (o, rdSt l j)) = some r → evLim cx f (.ptr 0 0 :: args) (rdSt l i) = some r) : knows cx (rdr f F S).S (evLim cx) := by
  intro g args σ r hd h
  simp only [rdr] at h
  cases hg : Nat.beq g f <;> rw [hg] at h
  · exact hS g args σ r hd h
  · obtain rfl := Nat.eq_of_beq_eq_true hg
    simp only [cond_true] at h
    obtain ⟨q, hq, h⟩ := optK_some h
    obtain ⟨u, ha, h⟩ := optK_some h
    obtain ⟨x, hx, h⟩ := optK_some h
    rw [rdOf_some hq, rdArg_some ha]
    exact hF q.1 q.2 x r u hx h

def dec0 : List V → Option Unit | [] => some () | _ => none
def decS : List V → Option (List UInt8) | [.d (.str s)] => some s | _ => none
def decI : List V → Option Int | [.d (.int .i64 s)] => some s | _ => none
theorem dec0_some {a : List V} {x : Unit} (h : dec0 a = some x) : a = [] := by
  unfold dec0 at h; split at h <;> first | rfl | cases h
theorem decS_some {a : List V} {x : List UInt8} (h : decS a = some x) : a = [.d (.str x)] := by
  unfold decS at h; split at h <;> cases h; rfl
theorem decI_some {a : List V} {x : Int} (h : decI a = some x) : a = [.d (.int .i64 x)] := by
  unfold decI at h; split at h <;> cases h; rfl

/- Tokens: the kind, the text, the place. -/
abbrev Tk3 := Int × List UInt8 × Int
abbrev up (i : Int) : Int := IntKind.i64.wrap (i + 1)
def Sp.tok (l : List D) (i : Int) : Option Tk3 :=
  bif decide (0 ≤ i) && decide (i < 4294967296) then (match l[i.toNat]? with | some (.agg [.int .i64 k, .str t, .int .i64 a]) => some (k, t, a) | _ => none) else none
def Sp.isS (p : Tk3) (s : List UInt8) : Bool := decide (p.1 = 2) && decide (p.2.1 = s)
def Sp.arr (p : Tk3) : Int := bif Sp.isS p [45, 62] then 4 else bif Sp.isS p [42] then 5 else 0
def Sp.binds (l : List D) (i : Int) : Option Bool := optK (Sp.tok l i) fun p => bif Sp.isS p [40] then
    optK (Sp.tok l (i + 1)) fun q => bif decide (q.1 = 1) then optK (Sp.tok l (i + 2)) fun r => some (decide (r.2.1 = [58])) else some false
  else some false

theorem tok_spec {l : List D} {i : Int} {p : Tk3} (h : Sp.tok l i = some p) : 0 ≤ i ∧ i < l.length ∧ i < 4294967296 ∧ l[i.toNat]? = some (tokD p.1 p.2.1 p.2.2) := by
  unfold Sp.tok at h
  cases hc : (decide (0 ≤ i) && decide (i < 4294967296)) <;> rw [hc] at h
  · cases h
  · simp only [Bool.and_eq_true, decide_eq_true_eq] at hc
    simp only [cond_true] at h
    split at h
    · rename_i k t a hg
      cases h
      have := (List.getElem?_eq_some_iff.1 hg).1
      exact ⟨hc.1, by omega, hc.2, hg⟩
    · cases h

theorem up_tok {l : List D} {i : Int} {p : Tk3} (h : Sp.tok l i = some p) : IntKind.i64.wrap (i + 1) = i + 1 := by
  obtain ⟨h1, _, h3, _⟩ := tok_spec h
  exact IntWalk.i64_in _ (by omega)

def wrongV (a e : Int) : V := .d (.iface 79 (.agg [.int .i64 a, .int .i64 e]))

def F27 : RF := ⟨Unit, dec0, fun l i _ K => optK (Sp.tok l i) fun p => K (.ret (.d (tokD p.1 p.2.1 p.2.2))) i, by intros; simp only [optP_optK, optP_some]⟩
noncomputable def T1 : CK R1 := rdr 27 F27 (CK.plain none1)
def F48 : RF := ⟨List UInt8, decS, fun l i s K => optK (Sp.tok l i) fun p => K (.ret (.d (.bool (Sp.isS p s)))) i, by intros; simp only [optP_optK, optP_some]⟩
def F46 : RF := ⟨Int, decI, fun l i e K => optK (Sp.tok l i) fun p => K (.pan (wrongV p.2.2 e)) i, by intros; simp only [optP_optK, optP_some]⟩
def F52 : RF := ⟨Unit, dec0, fun l i _ K => optK (Sp.tok l i) fun p => K (.ret (.d (tokD p.1 p.2.1 p.2.2))) (up i), by intros; simp only [optP_optK, optP_some]⟩
noncomputable def T2 : CK R1 := rdr 46 F46 (rdr 48 F48 (rdr 52 F52 T1))
def F47 : RF := ⟨Int, decI, fun l i v K => bif decide (200 < v) then optK (Sp.tok l i) fun p => K (.pan (wrongV p.2.2 62)) i else K (.ret (.tup [])) i, by intros; simp only [optP_optK, optP_cond, optP_some]⟩
def F50 : RF := ⟨List UInt8, decS, fun l i s K => optK (Sp.tok l i) fun p => bif Sp.isS p s then K (.ret (.tup [])) (up i) else K (.pan (wrongV p.2.2 61)) i, by intros; simp only [optP_optK, optP_cond, optP_some]⟩
def F57 : RF := ⟨Unit, dec0, fun l i _ K => optK (Sp.tok l i) fun p => bif decide (p.1 = 1) then K (.ret (.d (.str p.2.1))) (up i) else K (.pan (wrongV p.2.2 61)) i, by intros; simp only [optP_optK, optP_cond, optP_some]⟩
def F53 : RF := ⟨Unit, dec0, fun l i _ K => optK (Sp.tok l i) fun p => K (.ret (.d (.int .i64 (Sp.arr p)))) i, by intros; simp only [optP_optK, optP_some]⟩
def F51 : RF := ⟨Unit, dec0, fun l i _ K => optK (Sp.binds l i) fun b => K (.ret (.d (.bool b))) i, by intros; simp only [optP_optK, optP_some]⟩
noncomputable def T3 : CK R1 := rdr 47 F47 (rdr 50 F50 (rdr 57 F57 (rdr 53 F53 (rdr 51 F51 T2))))

end Go.Vai
end

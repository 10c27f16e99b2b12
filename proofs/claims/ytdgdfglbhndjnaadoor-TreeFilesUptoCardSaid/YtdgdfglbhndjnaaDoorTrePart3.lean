/-
  Lex: lex.Scan.
  Tree: what the tokens of a text are like (as for lex.Scan on the other seat).
  Tree: callers that see a reader; and what the reader's small functions answer.
  Tree: what the reader's small functions answer, shown.
  Tree: what the reader's great functions answer, as plain functions by fuel.
  Tree: what the reader's great functions do is what is said of them.
  Tree: reading a text; its term, its declarations.
  Tree: Term and Parse, of a text.
  Tree: the reference's Same and Lists.
  Tree: begins and within.
  Tree: the chapter's examples hold.
-/
import Derived.Test.YtdgdfglbhndjnaaDoorTrePart2

set_option linter.all false
set_option linter.unusedSimpArgs false
set_option linter.unusedVariables false

section
namespace Go.Vai
open Go.Proofs

theorem lim12n : evLim cx 29 [.d (.str [])] [] = some (.ret (.tup [.d (.int .i32 65533), .d (.int .i64 0)]), []) := lim_of (n := 10) (by kernel_rfl)

theorem lim12 : ∀ (s : List UInt8), evLim cx 29 [.d (.str s)] [] = some (.ret (.tup [.d (.int .i32 (Sp.dec s).1), .d (.int .i64 (Sp.dec s).2)]), [])
  | [] => by
    have e : Sp.dec [] = (65533, 0) := by unfold Sp.dec; rw [lim12n]
    rw [e]; exact lim12n
  | b :: r => by
    obtain ⟨x, n, h, _⟩ := lim12c b r
    have e : Sp.dec (b :: r) = (x, n) := by unfold Sp.dec; rw [h]
    rw [e]; exact h

theorem decOk : DecOk := by
  intro l hl
  cases l with
  | nil => exact absurd rfl hl
  | cons b r =>
    obtain ⟨x, n, h, h2⟩ := lim12c b r
    have e : Sp.dec (b :: r) = (x, n) := by unfold Sp.dec; rw [h]
    rw [e]; exact h2

theorem S7_knows : knows cx S7 (evLim cx) := by
  refine also_knows (also_knows (also_knows (none1_knows cx) ?_) ?_) ?_
  · intro args o hd h
    unfold oneF at h
    split at h
    · cases h; exact lim14 _ (of_decide_eq_true hd)
    · cases h
  · intro args o hd h
    unfold pastF at h
    split at h
    · cases h
      rename_i s a
      have hd' : (decide (s.length ≤ big) && (decide (0 ≤ a) && decide (a ≤ (s.length : Int)))) = true := hd
      simp only [Bool.and_eq_true, decide_eq_true_eq] at hd'
      obtain ⟨h1, h2, h3⟩ := hd'
      have := lim13 s a.toNat h1 (by omega)
      rw [show ((a.toNat : Nat) : Int) = a by omega] at this
      exact this
    · cases h
  · intro args o _ h
    unfold decF at h
    split at h
    · cases h; exact lim12 _
    · cases h

theorem lim7 (s : List UInt8) : evLim cx 13 [.d (.str s)] [(0, .tok 0)] = scanRes (Sp.scan s) := by
  unfold Sp.scan
  by_cases h : 65536 < s.length
  · rw [decide_eq_true h, cond_true]
    refine lim_body (N := 0) S7_knows ?_
    rw [b7, decide_eq_true (p := (65536 : Int) < (s.length : Int)) (by omega)]
    rfl
  · rw [decide_eq_false h, cond_false]
    have hl := utf_loop decOk (s := s) (by omega) (n := s.length + 1) (by omega) s.length 0 (s.length + 1) (by omega) (by omega) (Nat.zero_le _)
    rw [List.drop_zero] at hl
    have : evBody cx S7 (s.length + 1) 13 [.d (.str s)] [(0, .tok 0)] = utfRes s (Sp.utfGo s.length s 0) := by
      rw [b7, decide_eq_false (p := (65536 : Int) < (s.length : Int)) (by omega), cond_false]
      exact hl
    cases hu : Sp.utfGo s.length s 0 with
    | none => rw [hu] at this; exact lim_body (N := s.length + 1) S7_knows this
    | some p => rw [hu] at this; exact lim_body (N := s.length + 1) S7_knows this

end Go.Vai
end

section
namespace Go.Vai
open Go.Proofs

theorem nameGo_ge : ∀ (r : List UInt8) (j : Nat), j ≤ Sp.nameGo r j
  | [], j => Nat.le_refl _
  | b :: r, j => by
    have := nameGo_ge r (j + 1)
    simp only [Sp.nameGo]
    cases (Sp.letter b.toNat || (decide (0 < j) && Sp.digit b.toNat))
    · exact Nat.le_refl _
    · simp only [cond_true]; omega

theorem signGo_kind (s : List UInt8) : ∀ l : List (List UInt8), (Sp.signGo s l).2 = [] ∨ (Sp.signGo s l).1 = 2
  | [] => .inl rfl
  | x :: l => by
    simp only [Sp.signGo]
    cases Sp.hasPre s x
    · exact signGo_kind s l
    · exact .inr rfl


def IsTok (d : D) : Prop := ∃ k t a, d = tokD k t a

theorem toks_tok {s : List UInt8} : ∀ (f j : Nat) (l : List D), (∀ d ∈ l, IsTok d) → ∀ d ∈ (Sp.toks f s j l).1, IsTok d
  | 0, _, _, _ => fun d hd => by cases hd
  | f + 1, j, l, h => by
    rw [Sp.toks]
    cases decide (j < s.length)
    · rw [cond_false]
      intro d hd
      rcases List.mem_append.1 hd with hd | hd
      · exact h d hd
      · cases hd with
        | head => exact ⟨_, _, _, rfl⟩
        | tail _ hd => cases hd
    · rw [cond_true]
      cases decide ((Sp.one (s.drop j)).2 = [])
      · rw [cond_false]
        refine toks_tok f _ _ fun d hd => ?_
        rcases List.mem_append.1 hd with hd | hd
        · exact h d hd
        · cases hd with
          | head => exact ⟨_, _, _, rfl⟩
          | tail _ hd => cases hd
      · intro d hd; cases hd

theorem toks_len {s : List UInt8} : ∀ (f j : Nat) (l : List D), (Sp.toks f s j l).1.length ≤ l.length + f
  | 0, _, l => Nat.zero_le _
  | f + 1, j, l => by
    rw [Sp.toks]
    cases decide (j < s.length)
    · simp
    · rw [cond_true]
      cases decide ((Sp.one (s.drop j)).2 = [])
      · rw [cond_false]
        have := toks_len (s := s) f (Sp.past s (j + (Sp.one (s.drop j)).2.length)) (l ++ [tokD (Sp.one (s.drop j)).1 (Sp.one (s.drop j)).2 j])
        simp at this; omega
      · exact Nat.zero_le _

theorem scan_tok (s : List UInt8) : ∀ d ∈ (Sp.scan s).1, IsTok d := by
  unfold Sp.scan
  cases decide (65536 < s.length)
  · rw [cond_false]
    cases Sp.utfGo s.length s 0
    · exact toks_tok _ _ _ fun _ h => by cases h
    · exact fun _ h => by cases h
  · exact fun _ h => by cases h

theorem scan_len (s : List UInt8) : (Sp.scan s).1.length ≤ s.length + 1 := by
  unfold Sp.scan
  cases decide (65536 < s.length)
  · rw [cond_false]
    cases Sp.utfGo s.length s 0
    · simpa using toks_len (s := s) (s.length + 1) (Sp.past s 0) []
    · exact Nat.zero_le _
  · exact Nat.zero_le _

/-- A text's tokens from some place on, to the end. -/
inductive Cov (s : List UInt8) : Nat → List D → Prop
  | fin {e : Nat} : e ≤ s.length → Sp.past s e = s.length → Cov s e [tokD 0 [] (s.length : Int)]
  | tok {e j : Nat} {k : Int} {t : List UInt8} {rest : List D} : e ≤ s.length → Sp.past s e = j → j < s.length → Sp.one (s.drop j) = (k, t) → t ≠ [] → Cov s (j + t.length) rest → Cov s e (tokD k t (j : Int) :: rest)

theorem Cov.ne {s : List UInt8} {e : Nat} {l : List D} (h : Cov s e l) : 0 < l.length := by cases h <;> simp

theorem toks_cov {s : List UInt8} : ∀ (f e : Nat) (acc : List D), e ≤ s.length → s.length - Sp.past s e < f →
    (∃ rest, Sp.toks f s (Sp.past s e) acc = (acc ++ rest, 0, 0) ∧ Cov s e rest) ∨ (∃ p : Nat, Sp.toks f s (Sp.past s e) acc = ([], (p : Int), 61) ∧ p < s.length)
  | 0, _, _, _, hf => by omega
  | f + 1, e, acc, he, hf => by
    have hb := past_bounds he
    rw [Sp.toks]
    by_cases hlt : Sp.past s e < s.length
    · rw [decide_eq_true hlt, cond_true]
      have hle := one_le (s.drop (Sp.past s e))
      rw [List.length_drop] at hle
      by_cases ho : (Sp.one (s.drop (Sp.past s e))).2 = []
      · rw [decide_eq_true ho, cond_true]; exact .inr ⟨_, rfl, hlt⟩
      · rw [decide_eq_false ho, cond_false]
        have hpos : 0 < (Sp.one (s.drop (Sp.past s e))).2.length := List.length_pos_iff.2 ho
        have hb2 := past_bounds (s := s) (j := Sp.past s e + (Sp.one (s.drop (Sp.past s e))).2.length) (by omega)
        rcases toks_cov (s := s) f (Sp.past s e + (Sp.one (s.drop (Sp.past s e))).2.length) (acc ++ [tokD (Sp.one (s.drop (Sp.past s e))).1 (Sp.one (s.drop (Sp.past s e))).2 (Sp.past s e : Int)]) (by omega) (by omega) with ⟨rest, h1, h2⟩ | h
        · exact .inl ⟨_, by rw [h1, List.append_assoc]; rfl, .tok he rfl hlt rfl ho h2⟩
        · exact .inr h
    · rw [decide_eq_false hlt, cond_false]
      exact .inl ⟨_, rfl, .fin he (by omega)⟩

theorem cov_toks {s : List UInt8} {e : Nat} {l : List D} (h : Cov s e l) : ∀ (f : Nat) (acc : List D), s.length - Sp.past s e < f → Sp.toks f s (Sp.past s e) acc = (acc ++ l, 0, 0) := by
  induction h with
  | fin he hp =>
    intro f acc hf
    obtain ⟨f, rfl⟩ : ∃ i, f = i + 1 := ⟨f - 1, by omega⟩
    rw [Sp.toks, decide_eq_false (by omega), cond_false]
  | @tok e j k t rest he hp hlt ho hne hr ih =>
    intro f acc hf
    obtain ⟨f, rfl⟩ : ∃ i, f = i + 1 := ⟨f - 1, by omega⟩
    have hle := one_le (s.drop j)
    rw [List.length_drop, ho] at hle
    have hpos : 0 < t.length := List.length_pos_iff.2 hne
    have hle' : t.length ≤ s.length - j := hle
    have hb := past_bounds (s := s) (j := j + t.length) (by omega)
    rw [Sp.toks, hp, decide_eq_true hlt, cond_true, ho]
    simp only []
    rw [decide_eq_false hne, cond_false, ih f _ (by omega), List.append_assoc]; rfl

theorem one_kind {s : List UInt8} {k : Int} {t : List UInt8} (h : Sp.one s = (k, t)) (ht : t ≠ []) : k ≠ 0 := by
  unfold Sp.one at h
  cases hn : decide (0 < Sp.nameLen s)
  · rw [hn, cond_false] at h
    rcases signGo_kind s Sp.signs with h2 | h2
    · rw [h] at h2; exact absurd h2 ht
    · rw [h] at h2; intro h0; have h2' : k = 2 := h2; omega
  · rw [hn, cond_true] at h
    cases h; decide

/-- What lex.Scan tells. -/
theorem scan_says (s : List UInt8) : (s.length ≤ 65536 ∧ Sp.utfGo s.length s 0 = none ∧ ∃ l, Sp.scan s = (l, 0, 0) ∧ Cov s 0 l) ∨ (¬ (Sp.scan s).2.2 = 0 ∧ (Sp.scan s).1 = [] ∧ ∃ p : Nat, (Sp.scan s).2.1 = (p : Int) ∧ p ≤ s.length) := by
  unfold Sp.scan
  by_cases h : 65536 < s.length
  · rw [decide_eq_true h, cond_true]; exact .inr ⟨by decide, rfl, 0, rfl, Nat.zero_le _⟩
  · rw [decide_eq_false h, cond_false]
    cases hu : Sp.utfGo s.length s 0 with
    | none =>
      have hb := past_bounds (s := s) (j := 0) (Nat.zero_le _)
      rcases toks_cov (s := s) (s.length + 1) 0 [] (Nat.zero_le _) (by omega) with ⟨rest, h1, h2⟩ | ⟨p, h1, h2⟩
      · exact .inl ⟨by omega, rfl, rest, by simpa using h1, h2⟩
      · exact .inr (by rw [h1]; exact ⟨fun h => absurd (show (61 : Int) = 0 from h) (by decide), rfl, p, rfl, by omega⟩)
    | some p =>
      refine .inr ⟨by simp, rfl, p, rfl, ?_⟩
      have hle : ∀ (f j p : Nat) (r : List UInt8), r.length + j ≤ s.length → Sp.utfGo f r j = some p → p ≤ s.length := by
        intro f
        induction f with
        | zero => intro j p r hr h; cases r with | nil => cases h | cons b r => cases h; omega
        | succ f ih =>
          intro j p r hr h
          cases r with
          | nil => cases h
          | cons b r =>
            rw [Sp.utfGo] at h
            cases hb : Nat.beq (Sp.uni (b :: r)) 0
            · rw [hb, cond_false] at h
              have := uni_le (b :: r)
              exact ih _ p _ (by rw [List.length_drop]; omega) h
            · rw [hb, cond_true] at h; cases h; omega
      exact hle _ _ _ _ (Nat.le_refl _) hu

/-- A token's kind and text. -/
def Tk (k : Int) (t : List UInt8) : Prop := (k = 1 ∧ ∃ b r, t = b :: r ∧ Sp.letter (b.toNat : Int) = true ∧ ∀ c ∈ r, (Sp.letter (c.toNat : Int) || Sp.digit (c.toNat : Int)) = true) ∨ (k = 2 ∧ t ∈ Sp.signs)

/-- No token goes on so. -/
def stops (r : List UInt8) : Prop := r = [] ∨ ∃ c r', r = c :: r' ∧ (c = 32 ∨ c = 10 ∨ c = 45)

theorem nameGo_all : ∀ (t r : List UInt8) (j : Nat), 0 < j → (∀ c ∈ t, (Sp.letter (c.toNat : Int) || Sp.digit (c.toNat : Int)) = true) → stops r → Sp.nameGo (t ++ r) j = j + t.length
  | [], r, j, hj, _, hr => by
    rcases hr with rfl | ⟨c, r', rfl, h⟩
    · rfl
    · rcases h with rfl | rfl | rfl <;> simp [Sp.nameGo, Sp.letter, Sp.digit]
  | b :: t, r, j, hj, ht, hr => by
    have hb := ht b List.mem_cons_self
    have ih := nameGo_all t r (j + 1) (by omega) (fun c hc => ht c (List.mem_cons_of_mem _ hc)) hr
    rw [List.cons_append, Sp.nameGo, decide_eq_true hj, Bool.true_and, hb, cond_true, ih, List.length_cons]; omega

theorem nameGo_take : ∀ (x : List UInt8) (j : Nat), 0 < j → ∀ c ∈ x.take (Sp.nameGo x j - j), (Sp.letter (c.toNat : Int) || Sp.digit (c.toNat : Int)) = true
  | [], j, _ => by intro c hc; simp at hc
  | b :: x, j, hj => by
    rw [Sp.nameGo, decide_eq_true hj, Bool.true_and]
    cases h : (Sp.letter (b.toNat : Int) || Sp.digit (b.toNat : Int))
    · rw [cond_false, Nat.sub_self]; intro c hc; cases hc
    · have hge := nameGo_ge x (j + 1)
      rw [cond_true, show Sp.nameGo x (j + 1) - j = (Sp.nameGo x (j + 1) - (j + 1)) + 1 by omega, List.take_succ_cons]
      intro c hc
      cases hc with
      | head => exact h
      | tail _ hc => exact nameGo_take x (j + 1) (by omega) c hc

theorem signGo_mem (x : List UInt8) : ∀ l : List (List UInt8), (Sp.signGo x l).2 = [] ∨ (Sp.signGo x l).2 ∈ l
  | [] => .inl rfl
  | y :: l => by
    simp only [Sp.signGo]
    cases Sp.hasPre x y
    · rw [cond_false]
      rcases signGo_mem x l with h | h
      · exact .inl h
      · exact .inr (List.mem_cons_of_mem _ h)
    · exact .inr List.mem_cons_self

theorem tk_of_one {x : List UInt8} {k : Int} {t : List UInt8} (h : Sp.one x = (k, t)) (ht : t ≠ []) : Tk k t := by
  unfold Sp.one at h
  cases hn : decide (0 < Sp.nameLen x)
  · rw [hn, cond_false] at h
    have h1 := signGo_kind x Sp.signs
    have h2 := signGo_mem x Sp.signs
    rw [h] at h1 h2
    exact .inr ⟨h1.resolve_left ht, h2.resolve_left ht⟩
  · rw [hn, cond_true] at h
    have hn' := of_decide_eq_true hn
    cases h
    refine .inl ⟨rfl, ?_⟩
    cases x with
    | nil => exact absurd rfl ht
    | cons b r =>
      have hge := nameGo_ge r 1
      unfold Sp.nameLen at hn' ⊢
      rw [Sp.nameGo] at hn' ⊢
      cases hb : Sp.letter (b.toNat : Int)
      · rw [hb, decide_eq_false (p := 0 < 0) (by omega), Bool.false_and, Bool.false_or, cond_false] at hn'; omega
      · rw [Bool.true_or, cond_true, Nat.zero_add, show Sp.nameGo r 1 = (Sp.nameGo r 1 - 1) + 1 by omega, List.take_succ_cons]
        exact ⟨b, _, rfl, hb, nameGo_take r 1 (by omega)⟩

theorem sign_tab : ∀ t ∈ Sp.signs, ∀ c : UInt8, c = 32 ∨ c = 10 ∨ c = 45 → ∀ r, Sp.nameLen (t ++ c :: r) = 0 ∧ Sp.signGo (t ++ c :: r) Sp.signs = (2, t) ∧ ∀ j, Sp.pastGo false (t ++ c :: r) j = j := by
  intro t ht c hc r
  simp only [Sp.signs, List.mem_cons, List.not_mem_nil, or_false] at ht
  rcases ht with rfl | rfl | rfl | rfl | rfl | rfl | rfl | rfl | rfl | rfl | rfl | rfl | rfl | rfl | rfl | rfl | rfl | rfl | rfl | rfl <;>
    rcases hc with rfl | rfl | rfl <;> exact ⟨rfl, rfl, fun _ => rfl⟩

theorem sign_tabn : ∀ t ∈ Sp.signs, Sp.nameLen (t ++ []) = 0 ∧ Sp.signGo (t ++ []) Sp.signs = (2, t) ∧ ∀ j, Sp.pastGo false (t ++ []) j = j := by
  intro t ht
  simp only [Sp.signs, List.mem_cons, List.not_mem_nil, or_false] at ht
  rcases ht with rfl | rfl | rfl | rfl | rfl | rfl | rfl | rfl | rfl | rfl | rfl | rfl | rfl | rfl | rfl | rfl | rfl | rfl | rfl | rfl <;> exact ⟨rfl, rfl, fun _ => rfl⟩

theorem letter_not {b : UInt8} (h : Sp.letter (b.toNat : Int) = true) : Sp.blank (b.toNat : Int) = false ∧ ¬ (b.toNat : Int) = 45 ∧ b.toNat < 128 := by
  simp only [Sp.letter, Bool.or_eq_true, Bool.and_eq_true, decide_eq_true_eq] at h
  refine ⟨?_, by omega, by omega⟩
  unfold Sp.blank
  rw [decide_eq_false (by omega), decide_eq_false (by omega), decide_eq_false (by omega), decide_eq_false (by omega)]; rfl

theorem digit_not {b : UInt8} (h : Sp.digit (b.toNat : Int) = true) : b.toNat < 128 := by
  simp only [Sp.digit, Bool.and_eq_true, decide_eq_true_eq] at h
  omega

theorem tk_ne {k : Int} {t : List UInt8} (h : Tk k t) : t ≠ [] := by
  rcases h with ⟨_, b, r, rfl, _⟩ | ⟨_, ht⟩
  · simp
  · intro h; subst h; simp [Sp.signs] at ht

/-- A token stands where it stands. -/
theorem tk_one {k : Int} {t : List UInt8} (h : Tk k t) {r : List UInt8} (hr : stops r) : Sp.one (t ++ r) = (k, t) ∧ ∀ j, Sp.pastGo false (t ++ r) j = j := by
  rcases h with ⟨rfl, b, u, rfl, hb, hu⟩ | ⟨rfl, ht⟩
  · obtain ⟨h1, h2, _⟩ := letter_not hb
    refine ⟨?_, fun j => ?_⟩
    · have hn : Sp.nameLen (b :: u ++ r) = (b :: u).length := by
        unfold Sp.nameLen
        rw [List.cons_append, Sp.nameGo, hb, Bool.true_or, cond_true, nameGo_all u r 1 (by omega) hu hr, List.length_cons]; omega
      unfold Sp.one
      rw [hn, decide_eq_true (by simp), cond_true, List.take_left]
    · rw [List.cons_append, Sp.pastGo, h1, cond_false, decide_eq_false h2, Bool.false_and, cond_false]
  · have hh : Sp.nameLen (t ++ r) = 0 ∧ Sp.signGo (t ++ r) Sp.signs = (2, t) ∧ ∀ j, Sp.pastGo false (t ++ r) j = j := by
      rcases hr with rfl | ⟨c, r', rfl, hc⟩
      · exact sign_tabn t ht
      · exact sign_tab t ht c hc r'
    refine ⟨?_, hh.2.2⟩
    unfold Sp.one
    rw [hh.1, hh.2.1]; rfl

theorem tk_low {k : Int} {t : List UInt8} (h : Tk k t) : ∀ c ∈ t, c.toNat < 128 := by
  rcases h with ⟨rfl, b, u, rfl, hb, hu⟩ | ⟨rfl, ht⟩
  · intro c hc
    cases hc with
    | head => exact (letter_not hb).2.2
    | tail _ hc =>
      have := hu c hc
      rw [Bool.or_eq_true] at this
      rcases this with h | h
      · exact (letter_not h).2.2
      · exact digit_not h
  · have : ∀ t ∈ Sp.signs, ∀ c ∈ t, c.toNat < 128 := by decide
    exact this t ht

/-- Low bytes are a text. -/
theorem utf_low : ∀ (f : Nat) (r : List UInt8) (j : Nat), r.length ≤ f → (∀ c ∈ r, c.toNat < 128) → Sp.utfGo f r j = none
  | f, [], j, _, _ => by cases f <;> rfl
  | 0, b :: r, j, h, _ => by simp at h
  | f + 1, b :: r, j, h, hl => by
    have hu : Sp.uni (b :: r) = 1 := by simp only [Sp.uni, decide_eq_true (hl b List.mem_cons_self), cond_true]
    rw [Sp.utfGo, hu]
    exact utf_low f r (j + 1) (by simpa using h) fun c hc => hl c (List.mem_cons_of_mem _ hc)

/-- Tokens, the last one the end. -/
inductive LTok : List D → Prop
  | fin {a : Int} : LTok [tokD 0 [] a]
  | tok {k : Int} {t : List UInt8} {a : Int} {l : List D} : Tk k t → t.length ≤ 65536 → LTok l → LTok (tokD k t a :: l)

theorem cov_ltok {s : List UInt8} (hs : s.length ≤ 65536) {e : Nat} {l : List D} (h : Cov s e l) : LTok l := by
  induction h with
  | fin _ _ => exact .fin
  | @tok e j k t rest he hp hlt ho hne hr ih =>
    have hle := one_le (s.drop j)
    rw [List.length_drop, ho] at hle
    have hle' : t.length ≤ s.length - j := hle
    exact .tok (tk_of_one ho hne) (by omega) ih

def txt : D → List UInt8 | .agg [_, .str t, _] => t | _ => []
def kt : D → Int × List UInt8 | .agg [.int _ k, .str t, _] => (k, t) | _ => (0, [])


end Go.Vai
end

section
namespace Go.Vai
open Go.Proofs

abbrev R1 := Out × St

def optP (o : Option R1) (K : Out → St → Option R1) : Option R1 := match o with | some (a, s) => K a s | none => none

theorem optP_optK {α : Type} (x : Option α) (F : α → Option R1) (K : Out → St → Option R1) : optP (optK x F) K = optK x fun a => optP (F a) K := by cases x <;> rfl
theorem optP_cond (c : Bool) (a b : Option R1) (K : Out → St → Option R1) : optP (bif c then a else b) K = bif c then optP a K else optP b K := by cases c <;> rfl
theorem optP_some (o : Out) (s : St) (K : Out → St → Option R1) : optP (some (o, s)) K = K o s := rfl

/-- A reader: its tokens, and where it is. -/
abbrev rdSt (l : List D) (i : Int) : St := [(0, .val 2 (.d (.agg [.sl 3 l, .int .i64 i])))]

/-- What a function of a reader answers. -/
structure RF where
  α : Type
  dec : List V → Option α
  go : List D → Int → α → (Out → Int → Option R1) → Option R1
  ok : ∀ l i x (K : Out → St → Option R1), go l i x (fun o j => K o (rdSt l j)) = optP (go l i x fun o j => some (o, rdSt l j)) K

def rdOf : St → Option (List D × Int) | [(0, .val 2 (.d (.agg [.sl 3 l, .int .i64 i])))] => some (l, i) | _ => none
def rdArg : List V → Option (List V) | .ptr 0 0 :: r => some r | _ => none
def rdGo (F : RF) (x : F.α) (K : Out → St → Option R1) : List D × Int → Option R1 | (l, i) => F.go l i x fun o j => K o [(0, .val 2 (.d (.agg [.sl 3 l, .int .i64 j])))]

theorem rdOf_some {σ : St} {q : List D × Int} (h : rdOf σ = some q) : σ = rdSt q.1 q.2 := by
  unfold rdOf at h
  split at h
  · cases h; rfl
  · cases h
theorem rdArg_some {a r : List V} (h : rdArg a = some r) : a = .ptr 0 0 :: r := by
  unfold rdArg at h
  split at h
  · cases h; rfl
  · cases h

/-- What is known, and a reader's function more. -/
def rdr (f : Nat) (F : RF) (S : CK R1) : CK R1 where
  S := fun g args σ => bif Nat.beq g f then optK (rdOf σ) fun q => optK (rdArg args) fun r => optK (F.dec r) fun x => rdGo F x (fun o s => some (o, s)) q else S.S g args σ
  run := fun g args σ K => bif Nat.beq g f then optK (rdOf σ) fun q => optK (rdArg args) fun r => optK (F.dec r) fun x => rdGo F x K q else S.run g args σ K
  ok := fun g a σ K => by
    show _ = optP _ K
    rw [optP_cond, optP_optK]
    simp only [optP_optK]
    cases Nat.beq g f
    · exact S.ok g a σ K
    · simp only [cond_true]
      congr 1
      funext q
      congr 1
      funext r
      congr 1
      funext x
      exact F.ok q.1 q.2 x K

theorem rdr_knows {f : Nat} {F : RF} {S : CK R1} (hS : knows cx S.S (evLim cx))
    (hF : ∀ l i x r args, F.dec args = some x → F.go l i x (fun o j => some (o, rdSt l j)) = some r → evLim cx f (.ptr 0 0 :: args) (rdSt l i) = some r) : knows cx (rdr f F S).S (evLim cx) := by
  intro g args σ r hd h
  simp only [rdr] at h
  cases hg : Nat.beq g f <;> rw [hg] at h
  · exact hS g args σ r hd h
  · obtain rfl := Nat.eq_of_beq_eq_true hg
    simp only [cond_true] at h
    obtain ⟨q, hq, h⟩ := optK_some h
    obtain ⟨u, ha, h⟩ := optK_some h
    obtain ⟨x, hx, h⟩ := optK_some h
    rw [rdOf_some hq, rdArg_some ha]
    exact hF q.1 q.2 x r u hx h

def dec0 : List V → Option Unit | [] => some () | _ => none
def decS : List V → Option (List UInt8) | [.d (.str s)] => some s | _ => none
def decI : List V → Option Int | [.d (.int .i64 s)] => some s | _ => none
theorem dec0_some {a : List V} {x : Unit} (h : dec0 a = some x) : a = [] := by
  unfold dec0 at h; split at h <;> first | rfl | cases h
theorem decS_some {a : List V} {x : List UInt8} (h : decS a = some x) : a = [.d (.str x)] := by
  unfold decS at h; split at h <;> cases h; rfl
theorem decI_some {a : List V} {x : Int} (h : decI a = some x) : a = [.d (.int .i64 x)] := by
  unfold decI at h; split at h <;> cases h; rfl

/- Tokens: the kind, the text, the place. -/
abbrev Tk3 := Int × List UInt8 × Int
abbrev up (i : Int) : Int := IntKind.i64.wrap (i + 1)
def Sp.tok (l : List D) (i : Int) : Option Tk3 :=
  bif decide (0 ≤ i) && decide (i < 4294967296) then (match l[i.toNat]? with | some (.agg [.int .i64 k, .str t, .int .i64 a]) => some (k, t, a) | _ => none) else none
def Sp.isS (p : Tk3) (s : List UInt8) : Bool := decide (p.1 = 2) && decide (p.2.1 = s)
def Sp.arr (p : Tk3) : Int := bif Sp.isS p [45, 62] then 4 else bif Sp.isS p [42] then 5 else 0
def Sp.binds (l : List D) (i : Int) : Option Bool := optK (Sp.tok l i) fun p => bif Sp.isS p [40] then
    optK (Sp.tok l (i + 1)) fun q => bif decide (q.1 = 1) then optK (Sp.tok l (i + 2)) fun r => some (decide (r.2.1 = [58])) else some false
  else some false

theorem tok_spec {l : List D} {i : Int} {p : Tk3} (h : Sp.tok l i = some p) : 0 ≤ i ∧ i < l.length ∧ i < 4294967296 ∧ l[i.toNat]? = some (tokD p.1 p.2.1 p.2.2) := by
  unfold Sp.tok at h
  cases hc : (decide (0 ≤ i) && decide (i < 4294967296)) <;> rw [hc] at h
  · cases h
  · simp only [Bool.and_eq_true, decide_eq_true_eq] at hc
    simp only [cond_true] at h
    split at h
    · rename_i k t a hg
      cases h
      have := (List.getElem?_eq_some_iff.1 hg).1
      exact ⟨hc.1, by omega, hc.2, hg⟩
    · cases h

theorem up_tok {l : List D} {i : Int} {p : Tk3} (h : Sp.tok l i = some p) : IntKind.i64.wrap (i + 1) = i + 1 := by
  obtain ⟨h1, _, h3, _⟩ := tok_spec h
  exact IntWalk.i64_in _ (by omega)

def wrongV (a e : Int) : V := .d (.iface 79 (.agg [.int .i64 a, .int .i64 e]))

def F27 : RF := ⟨Unit, dec0, fun l i _ K => optK (Sp.tok l i) fun p => K (.ret (.d (tokD p.1 p.2.1 p.2.2))) i, by intros; simp only [optP_optK, optP_some]⟩
noncomputable def T1 : CK R1 := rdr 27 F27 (CK.plain none1)
def F48 : RF := ⟨List UInt8, decS, fun l i s K => optK (Sp.tok l i) fun p => K (.ret (.d (.bool (Sp.isS p s)))) i, by intros; simp only [optP_optK, optP_some]⟩
def F46 : RF := ⟨Int, decI, fun l i e K => optK (Sp.tok l i) fun p => K (.pan (wrongV p.2.2 e)) i, by intros; simp only [optP_optK, optP_some]⟩
def F52 : RF := ⟨Unit, dec0, fun l i _ K => optK (Sp.tok l i) fun p => K (.ret (.d (tokD p.1 p.2.1 p.2.2))) (up i), by intros; simp only [optP_optK, optP_some]⟩
noncomputable def T2 : CK R1 := rdr 46 F46 (rdr 48 F48 (rdr 52 F52 T1))
def F47 : RF := ⟨Int, decI, fun l i v K => bif decide (200 < v) then optK (Sp.tok l i) fun p => K (.pan (wrongV p.2.2 62)) i else K (.ret (.tup [])) i, by intros; simp only [optP_optK, optP_cond, optP_some]⟩
def F50 : RF := ⟨List UInt8, decS, fun l i s K => optK (Sp.tok l i) fun p => bif Sp.isS p s then K (.ret (.tup [])) (up i) else K (.pan (wrongV p.2.2 61)) i, by intros; simp only [optP_optK, optP_cond, optP_some]⟩
def F57 : RF := ⟨Unit, dec0, fun l i _ K => optK (Sp.tok l i) fun p => bif decide (p.1 = 1) then K (.ret (.d (.str p.2.1))) (up i) else K (.pan (wrongV p.2.2 61)) i, by intros; simp only [optP_optK, optP_cond, optP_some]⟩
def F53 : RF := ⟨Unit, dec0, fun l i _ K => optK (Sp.tok l i) fun p => K (.ret (.d (.int .i64 (Sp.arr p)))) i, by intros; simp only [optP_optK, optP_some]⟩
def F51 : RF := ⟨Unit, dec0, fun l i _ K => optK (Sp.binds l i) fun b => K (.ret (.d (.bool b))) i, by intros; simp only [optP_optK, optP_some]⟩
noncomputable def T3 : CK R1 := rdr 47 F47 (rdr 50 F50 (rdr 57 F57 (rdr 53 F53 (rdr 51 F51 T2))))

end Go.Vai
end

section
namespace Go.Vai
open Go.Proofs

theorem b27 (n : Nat) (S : CK R1) (l : List D) (i : Int) :
    evBody cx S n 27 [.ptr 0 0] [(0, .val 2 (.d (.agg [.sl 3 l, .int .i64 i])))] =
  must (decide (0 ≤ i) && decide (i < (↑l.length : Int)))
    (nthD l i.toNat fun y =>
      DRW cx S n 27 1 1 9
        [{ i := 8, fp := [], w := [] }, { i := 7, fp := [0], w := [] }, { i := 6, fp := [], w := [] },
          { i := 5, fp := [], w := [] }, { i := 4, fp := [], w := [] }, { i := 3, fp := [0], w := [] },
          { i := 2, fp := [], w := [] }, { i := 1, fp := [], w := [] }, { i := 0, fp := [], w := [] }]
        [(11, V.eptr y 0), (10, V.d (D.int IntKind.i64 i)), (9, V.ptr 0 1), (8, V.ptr 0 0), (7, V.ptr 0 0),
          (6, V.d (D.sl 3 l)), (5, V.ptr 0 0), (4, V.ptr 0 0), (3, V.ptr 0 0), (2, V.ptr 3 0), (0, V.ptr 0 0)]
        [(0, Ob.val 2 (V.d (D.agg [D.sl 3 l, D.int IntKind.i64 i]))),
          (3, Ob.val 3 (V.d (D.agg [D.int IntKind.i64 (0 : Int), D.str [], D.int IntKind.i64 (0 : Int)])))]
        (AR cx S n 27 1 1 (EK cx 27 1))) := by kernel_rfl

theorem b48 (n : Nat) (l : List D) (i : Int) (s : List UInt8) :
    evBody cx T1 n 48 [.ptr 0 0, .d (.str s)] [(0, .val 2 (.d (.agg [.sl 3 l, .int .i64 i])))] =
  optK (Sp.tok l i) fun p =>
    bif decide (p.fst = (2 : Int)) then
      optK (Sp.tok l i) fun p =>
        some
          (Out.ret (V.d (D.bool (decide (p.snd.1 = s)))), [(0, Ob.val 2 (V.d (D.agg [D.sl 3 l, D.int IntKind.i64 i])))])
    else some (Out.ret (V.d (D.bool false)), [(0, Ob.val 2 (V.d (D.agg [D.sl 3 l, D.int IntKind.i64 i])))]) := by kernel_rfl

theorem b46 (n : Nat) (l : List D) (i e : Int) :
    evBody cx T1 n 46 [.ptr 0 0, .d (.int .i64 e)] [(0, .val 2 (.d (.agg [.sl 3 l, .int .i64 i])))] =
  optK (Sp.tok l i) fun p =>
    some
      (Out.pan (V.d (D.iface 79 (D.agg [D.int IntKind.i64 p.snd.snd, D.int IntKind.i64 e]))),
        [(0, Ob.val 2 (V.d (D.agg [D.sl 3 l, D.int IntKind.i64 i])))]) := by kernel_rfl

theorem b52 (n : Nat) (l : List D) (i : Int) :
    evBody cx T1 n 52 [.ptr 0 0] [(0, .val 2 (.d (.agg [.sl 3 l, .int .i64 i])))] =
  optK (Sp.tok l i) fun p =>
    some
      (Out.ret (V.d (D.agg [D.int IntKind.i64 p.fst, D.str p.snd.1, D.int IntKind.i64 p.snd.snd])),
        [(0, Ob.val 2 (V.d (D.agg [D.sl 3 l, D.int IntKind.i64 (IntKind.i64.wrap (i + (1 : Int)))])))]) := by kernel_rfl

theorem b50 (n : Nat) (l : List D) (i : Int) (s : List UInt8) :
    evBody cx T2 n 50 [.ptr 0 0, .d (.str s)] [(0, .val 2 (.d (.agg [.sl 3 l, .int .i64 i])))] =
  optK (Sp.tok l i) fun p =>
    bif !Sp.isS p s then
      optK (Sp.tok l i) fun p =>
        some
          (Out.pan (V.d (D.iface 79 (D.agg [D.int IntKind.i64 p.snd.snd, D.int IntKind.i64 (61 : Int)]))),
            [(0, Ob.val 2 (V.d (D.agg [D.sl 3 l, D.int IntKind.i64 i])))])
    else
      some
        (Out.ret (V.tup []),
          [(0, Ob.val 2 (V.d (D.agg [D.sl 3 l, D.int IntKind.i64 (IntKind.i64.wrap (i + (1 : Int)))])))]) := by kernel_rfl

theorem b57 (n : Nat) (l : List D) (i : Int) :
    evBody cx T2 n 57 [.ptr 0 0] [(0, .val 2 (.d (.agg [.sl 3 l, .int .i64 i])))] =
  optK (Sp.tok l i) fun p =>
    bif !decide (p.fst = (1 : Int)) then
      optK (Sp.tok l i) fun p =>
        some
          (Out.pan (V.d (D.iface 79 (D.agg [D.int IntKind.i64 p.snd.snd, D.int IntKind.i64 (61 : Int)]))),
            [(0, Ob.val 2 (V.d (D.agg [D.sl 3 l, D.int IntKind.i64 i])))])
    else
      optK (Sp.tok l i) fun p =>
        some (Out.ret (V.d (D.str p.snd.1)), [(0, Ob.val 2 (V.d (D.agg [D.sl 3 l, D.int IntKind.i64 (up i)])))]) := by kernel_rfl

theorem b47 (n : Nat) (l : List D) (i v : Int) :
    evBody cx T2 n 47 [.ptr 0 0, .d (.int .i64 v)] [(0, .val 2 (.d (.agg [.sl 3 l, .int .i64 i])))] =
  bif decide ((200 : Int) < v) then
    optK (Sp.tok l i) fun p =>
      some
        (Out.pan (V.d (D.iface 79 (D.agg [D.int IntKind.i64 p.snd.snd, D.int IntKind.i64 (62 : Int)]))),
          [(0, Ob.val 2 (V.d (D.agg [D.sl 3 l, D.int IntKind.i64 i])))])
  else some (Out.ret (V.tup []), [(0, Ob.val 2 (V.d (D.agg [D.sl 3 l, D.int IntKind.i64 i])))]) := by kernel_rfl

theorem b53 (n : Nat) (l : List D) (i : Int) :
    evBody cx T2 n 53 [.ptr 0 0] [(0, .val 2 (.d (.agg [.sl 3 l, .int .i64 i])))] =
  optK (Sp.tok l i) fun p =>
    bif Sp.isS p [45, 62] then
      some
        (Out.ret (V.d (D.int IntKind.i64 (4 : Int))), [(0, Ob.val 2 (V.d (D.agg [D.sl 3 l, D.int IntKind.i64 i])))])
    else
      optK (Sp.tok l i) fun p =>
        bif Sp.isS p [42] then
          some
            (Out.ret (V.d (D.int IntKind.i64 (5 : Int))),
              [(0, Ob.val 2 (V.d (D.agg [D.sl 3 l, D.int IntKind.i64 i])))])
        else
          some
            (Out.ret (V.d (D.int IntKind.i64 (0 : Int))),
              [(0, Ob.val 2 (V.d (D.agg [D.sl 3 l, D.int IntKind.i64 i])))]) := by kernel_rfl

theorem b51 (n : Nat) (l : List D) (i : Int) :
    evBody cx T2 n 51 [.ptr 0 0] [(0, .val 2 (.d (.agg [.sl 3 l, .int .i64 i])))] =
  optK (Sp.tok l i) fun p =>
    bif Sp.isS p [40] then
      must
        (decide (0 ≤ IntKind.i64.wrap (i + (1 : Int))) &&
          decide (IntKind.i64.wrap (i + (1 : Int)) < (↑l.length : Int)))
        (nthD l (IntKind.i64.wrap (i + (1 : Int))).toNat fun y =>
          nthD y.cells 0 fun c =>
            match c with
            | D.int k' n =>
              bif decide (k' = IntKind.i64) then
                bif decide (n = (1 : Int)) then
                  must
                    (decide (0 ≤ IntKind.i64.wrap (i + (2 : Int))) &&
                      decide (IntKind.i64.wrap (i + (2 : Int)) < (↑l.length : Int)))
                    (nthD l (IntKind.i64.wrap (i + (2 : Int))).toNat fun y =>
                      nthD y.cells 1 fun c =>
                        match c with
                        | D.str s =>
                          some
                            (Out.ret (V.d (D.bool (decide (s = [58])))),
                              [(0, Ob.val 2 (V.d (D.agg [D.sl 3 l, D.int IntKind.i64 i])))])
                        | x => none)
                else some (Out.ret (V.d (D.bool false)), [(0, Ob.val 2 (V.d (D.agg [D.sl 3 l, D.int IntKind.i64 i])))])
              else none
            | x => none)
    else some (Out.ret (V.d (D.bool false)), [(0, Ob.val 2 (V.d (D.agg [D.sl 3 l, D.int IntKind.i64 i])))]) := by kernel_rfl

theorem d27 (n : Nat) (S : CK R1) (l : List D) (i k : Int) (t : List UInt8) (a : Int) :
    DRW cx S n 27 1 1 9 [{ i := 8, fp := [], w := [] }, { i := 7, fp := [0], w := [] }, { i := 6, fp := [], w := [] }, { i := 5, fp := [], w := [] }, { i := 4, fp := [], w := [] }, { i := 3, fp := [0], w := [] }, { i := 2, fp := [], w := [] }, { i := 1, fp := [], w := [] }, { i := 0, fp := [], w := [] }] [(11, V.eptr (tokD k t a) 0), (10, V.d (D.int IntKind.i64 i)), (9, V.ptr 0 1), (8, V.ptr 0 0), (7, V.ptr 0 0), (6, V.d (D.sl 3 l)), (5, V.ptr 0 0), (4, V.ptr 0 0), (3, V.ptr 0 0), (2, V.ptr 3 0), (0, V.ptr 0 0)] [(0, Ob.val 2 (V.d (D.agg [D.sl 3 l, D.int IntKind.i64 i]))), (3, Ob.val 3 (V.d (D.agg [D.int IntKind.i64 (0 : Int), D.str [], D.int IntKind.i64 (0 : Int)])))] (AR cx S n 27 1 1 (EK cx 27 1)) =
  some
    (Out.ret (V.d (D.agg [D.int IntKind.i64 k, D.str t, D.int IntKind.i64 a])),
      [(0, Ob.val 2 (V.d (D.agg [D.sl 3 l, D.int IntKind.i64 i])))]) := by kernel_rfl

theorem nthD_at {R : Type} {l : List D} {i : Nat} {x : D} {K : D → Option R} (h : l[i]? = some x) : nthD l i K = K x := by unfold nthD; rw [h]

theorem in_l {l : List D} {i : Int} {p : Tk3} (h : Sp.tok l i = some p) : (decide (0 ≤ i) && decide (i < (l.length : Int))) = true := by
  obtain ⟨h1, h2, _⟩ := tok_spec h
  rw [decide_eq_true h1, decide_eq_true h2]; rfl

theorem none1K_knows : knows cx (CK.plain (R := R1) none1).S (evLim cx) := none1_knows cx

theorem lim27 (l : List D) (i : Int) (x : Unit) (r : R1) (a : List V) (hd : dec0 a = some x) (h : F27.go l i x (fun o j => some (o, rdSt l j)) = some r) : evLim cx 27 (.ptr 0 0 :: a) (rdSt l i) = some r := by
  rw [dec0_some hd]
  obtain ⟨p, hp, h⟩ := optK_some h
  refine lim_bodyK (call := CK.plain none1) none1K_knows (N := 0) ?_
  rw [b27, in_l hp, must, cond_true, nthD_at (tok_spec hp).2.2.2, d27]
  exact h

theorem T1_knows : knows cx T1.S (evLim cx) := rdr_knows none1K_knows lim27

theorem lim48 (l : List D) (i : Int) (s : List UInt8) (r : R1) (a : List V) (hd : decS a = some s) (h : F48.go l i s (fun o j => some (o, rdSt l j)) = some r) : evLim cx 48 (.ptr 0 0 :: a) (rdSt l i) = some r := by
  rw [decS_some hd]
  obtain ⟨p, hp, h⟩ := optK_some h
  refine lim_bodyK T1_knows (N := 0) ?_
  rw [b48, hp]
  simp only [optK, hp]
  rw [← h]
  unfold Sp.isS
  cases decide (p.1 = 2) <;> rfl

theorem lim46 (l : List D) (i : Int) (s : Int) (r : R1) (a : List V) (hd : decI a = some s) (h : F46.go l i s (fun o j => some (o, rdSt l j)) = some r) : evLim cx 46 (.ptr 0 0 :: a) (rdSt l i) = some r := by
  rw [decI_some hd]
  obtain ⟨p, hp, h⟩ := optK_some h
  refine lim_bodyK T1_knows (N := 0) ?_
  rw [b46, hp]
  exact h

theorem lim52 (l : List D) (i : Int) (s : Unit) (r : R1) (a : List V) (hd : dec0 a = some s) (h : F52.go l i s (fun o j => some (o, rdSt l j)) = some r) : evLim cx 52 (.ptr 0 0 :: a) (rdSt l i) = some r := by
  rw [dec0_some hd]
  obtain ⟨p, hp, h⟩ := optK_some h
  refine lim_bodyK T1_knows (N := 0) ?_
  rw [b52, hp]
  exact h

theorem T2_knows : knows cx T2.S (evLim cx) := rdr_knows (rdr_knows (rdr_knows T1_knows lim52) lim48) lim46

theorem lim50 (l : List D) (i : Int) (s : List UInt8) (r : R1) (a : List V) (hd : decS a = some s) (h : F50.go l i s (fun o j => some (o, rdSt l j)) = some r) : evLim cx 50 (.ptr 0 0 :: a) (rdSt l i) = some r := by
  rw [decS_some hd]
  obtain ⟨p, hp, h⟩ := optK_some h
  refine lim_bodyK T2_knows (N := 0) ?_
  rw [b50, hp]
  simp only [optK, hp]
  rw [← h]
  cases Sp.isS p s <;> rfl

theorem lim57 (l : List D) (i : Int) (s : Unit) (r : R1) (a : List V) (hd : dec0 a = some s) (h : F57.go l i s (fun o j => some (o, rdSt l j)) = some r) : evLim cx 57 (.ptr 0 0 :: a) (rdSt l i) = some r := by
  rw [dec0_some hd]
  obtain ⟨p, hp, h⟩ := optK_some h
  refine lim_bodyK T2_knows (N := 0) ?_
  rw [b57, hp]
  simp only [optK, hp]
  rw [← h]
  cases decide (p.1 = 1) <;> rfl

theorem lim47 (l : List D) (i : Int) (s : Int) (r : R1) (a : List V) (hd : decI a = some s) (h : F47.go l i s (fun o j => some (o, rdSt l j)) = some r) : evLim cx 47 (.ptr 0 0 :: a) (rdSt l i) = some r := by
  rw [decI_some hd]
  refine lim_bodyK T2_knows (N := 0) ?_
  rw [b47]
  exact h

theorem lim53 (l : List D) (i : Int) (s : Unit) (r : R1) (a : List V) (hd : dec0 a = some s) (h : F53.go l i s (fun o j => some (o, rdSt l j)) = some r) : evLim cx 53 (.ptr 0 0 :: a) (rdSt l i) = some r := by
  rw [dec0_some hd]
  obtain ⟨p, hp, h⟩ := optK_some h
  refine lim_bodyK T2_knows (N := 0) ?_
  rw [b53, hp]
  simp only [optK, hp]
  rw [← h]
  unfold Sp.arr
  cases Sp.isS p [45, 62] <;> cases Sp.isS p [42] <;> rfl

theorem lim51 (l : List D) (i : Int) (s : Unit) (r : R1) (a : List V) (hd : dec0 a = some s) (h : F51.go l i s (fun o j => some (o, rdSt l j)) = some r) : evLim cx 51 (.ptr 0 0 :: a) (rdSt l i) = some r := by
  rw [dec0_some hd]
  obtain ⟨b, hb, h⟩ := optK_some h
  obtain ⟨p, hp, hb⟩ := optK_some hb
  refine lim_bodyK T2_knows (N := 0) ?_
  have h0 := tok_spec hp
  rw [b51, hp]
  simp only [optK]
  cases hs : Sp.isS p [40] <;> rw [hs] at hb
  · cases hb; exact h
  · simp only [cond_true] at hb ⊢
    obtain ⟨q, hq, hb⟩ := optK_some hb
    have e1 : IntKind.i64.wrap (i + 1) = i + 1 := up_tok hp
    rw [e1, in_l hq, must, cond_true, nthD_at (tok_spec hq).2.2.2]
    show (bif decide (q.1 = 1) then _ else _) = _
    cases hk : decide (q.1 = 1) <;> rw [hk] at hb
    · cases hb; exact h
    · simp only [cond_true] at hb ⊢
      obtain ⟨t, ht, hb⟩ := optK_some hb
      have e2 : IntKind.i64.wrap (i + 2) = i + 2 := IntWalk.i64_in _ (by have := tok_spec ht; omega)
      rw [e2, in_l ht, must, cond_true, nthD_at (tok_spec ht).2.2.2]
      cases hb
      exact h

theorem T3_knows : knows cx T3.S (evLim cx) := rdr_knows (rdr_knows (rdr_knows (rdr_knows (rdr_knows T2_knows lim51) lim53) lim57) lim50) lim47

end Go.Vai
end

section
namespace Go.Vai
open Go.Proofs

/-- A tree. -/
structure Tr where
  k : Int
  nm : List UInt8
  kids : List D
  nms : List D
  pl : Int
instance : Inhabited Tr := ⟨⟨0, [], [], [], 0⟩⟩
def trD (t : Tr) : D := .agg [.int .i64 t.k, .str t.nm, .sl 5 t.kids, .sl 1 t.nms, .int .i64 t.pl]

/-- What is read: a tree, and what comes; or where it fails, and why. -/
inductive PR where
  | ok (t : Tr) (j : Int)
  | bad (a e j : Int)
def Sp.okQ : PR → Bool | .ok _ _ => true | _ => false
def Sp.trOf : PR → Tr | .ok t _ => t | _ => default
def Sp.nxt : PR → Int | .ok _ j => j | .bad _ _ j => j
def Sp.bAt : PR → Int | .bad a _ _ => a | _ => 0
def Sp.bE : PR → Int | .bad _ e _ => e | _ => 0
inductive PN where
  | ok (l : List D) (j : Int)
  | bad (a e j : Int)
def Sp.okN : PN → Bool | .ok _ _ => true | _ => false
def Sp.lN : PN → List D | .ok l _ => l | _ => []
def Sp.nxtN : PN → Int | .ok _ j => j | .bad _ _ j => j
def Sp.bAtN : PN → Int | .bad a _ _ => a | _ => 0
def Sp.bEN : PN → Int | .bad _ e _ => e | _ => 0

def Sp.call (o : Option PR) (K : Tr → Int → Option PR) : Option PR := optK o fun p => bif Sp.okQ p then K (Sp.trOf p) (Sp.nxt p) else some (.bad (Sp.bAt p) (Sp.bE p) (Sp.nxt p))
def Sp.callN (o : Option PN) (K : List D → Int → Option PR) : Option PR := optK o fun p => bif Sp.okN p then K (Sp.lN p) (Sp.nxtN p) else some (.bad (Sp.bAtN p) (Sp.bEN p) (Sp.nxtN p))
def Sp.want (l : List D) (i : Int) (s : List UInt8) (K : Int → Option PR) : Option PR := optK (Sp.tok l i) fun p => bif Sp.isS p s then K (up i) else some (.bad p.2.2 61 i)
def Sp.name (l : List D) (i : Int) (K : List UInt8 → Int → Option PR) : Option PR := optK (Sp.tok l i) fun p => bif decide (p.1 = 1) then K p.2.1 (up i) else some (.bad p.2.2 61 i)

/-- The functions, with some fuel. -/
structure Tb where
  names : List D → Int → Option PN
  face : List D → Int → Option PR
  term : List D → Int → Int → Option PR
  after : List D → Int → Int → Tr → Option PR
  atom : List D → Int → Int → Option PR
  box : List D → Int → Int → Option PR
  join : List D → Int → Int → Option PR
  meet : List D → Int → Int → Option PR
  dim : List D → Int → Int → Option PR

def Sp.short (l : List D) : Bool := decide (l.length < 4294967296)

def Sp.namesL : Nat → List D → Int → List D → Option PN
  | 0, _, _, _ => none
  | r + 1, l, i, ns => optK (Sp.tok l i) fun p => bif decide (p.1 = 1) then must (Sp.short ns) (Sp.namesL r l (up i) (ns ++ [.str p.2.1])) else some (.ok ns i)
def Sp.namesG (r : Nat) (l : List D) (i : Int) : Option PN := optK (Sp.tok l i) fun p => bif decide (p.1 = 1) then Sp.namesL r l (up i) [.str p.2.1] else some (.bad p.2.2 61 i)

def Sp.termG (g : Tb) (l : List D) (i v : Int) : Option PR := optK (Sp.tok l i) fun p =>
  bif decide (200 < v) then some (.bad p.2.2 62 i)
  else bif Sp.isS p [92] then Sp.callN (g.names l (up i)) fun ns j => Sp.want l j [46] fun j => Sp.call (g.term l j (up v)) fun t j => some (.ok ⟨2, [], [trD t], ns, p.2.2⟩ j)
  else bif Sp.isS p [60] then Sp.callN (g.names l (up i)) fun ns j => Sp.want l j [62] fun j => Sp.call (g.term l j (up v)) fun t j => some (.ok ⟨3, [], [trD t], ns, p.2.2⟩ j)
  else optK (Sp.binds l i) fun b => bif b
    then optK (Sp.tok l (up i)) fun x => Sp.call (g.term l (up (up (up i))) (up v)) fun a j => Sp.want l j [41] fun j => optK (Sp.tok l j) fun q =>
      bif !decide (Sp.arr q = 0) then Sp.call (g.term l (up j) (up v)) fun t j => some (.ok ⟨Sp.arr q, [], [trD a, trD t], [.str x.2.1], p.2.2⟩ j)
      else g.after l j v ⟨9, [], [trD ⟨1, x.2.1, [], [], x.2.2⟩, trD a], [], p.2.2⟩
    else Sp.call (g.atom l i v) fun t j => g.after l j v t

def Sp.afterG (g : Tb) : Nat → List D → Int → Int → Tr → Option PR
  | 0, _, _, _, _ => none
  | r + 1, l, i, v, t => optK (Sp.tok l i) fun p =>
    bif Sp.isS p [64] then Sp.call (g.dim l (up i) (up v)) fun u j => Sp.afterG g r l j v ⟨7, [], [trD t, trD u], [], t.pl⟩
    else bif decide (p.1 = 1) || Sp.isS p [40] || Sp.isS p [91] then Sp.call (g.atom l i v) fun u j => Sp.afterG g r l j v ⟨6, [], [trD t, trD u], [], t.pl⟩
    else bif !decide (Sp.arr p = 0) then Sp.call (g.term l (up i) (up v)) fun u j => some (.ok ⟨Sp.arr p, [], [trD t, trD u], [], t.pl⟩ j)
    else some (.ok t i)

def Sp.atomG (g : Tb) (l : List D) (i v : Int) : Option PR := optK (Sp.tok l i) fun p =>
  bif decide (p.1 = 1) then some (.ok ⟨1, p.2.1, [], [], p.2.2⟩ (up i))
  else bif Sp.isS p [91] then g.box l i v
  else bif Sp.isS p [40] then Sp.call (g.term l (up i) (up v)) fun t j => optK (Sp.tok l j) fun q =>
    bif Sp.isS q [44] then Sp.call (g.term l (up j) (up v)) fun u j => Sp.want l j [41] fun j => some (.ok ⟨8, [], [trD t, trD u], [], p.2.2⟩ j)
    else bif Sp.isS q [58] then Sp.call (g.term l (up j) (up v)) fun u j => Sp.want l j [41] fun j => some (.ok ⟨9, [], [trD t, trD u], [], p.2.2⟩ j)
    else bif Sp.isS q [41] then some (.ok t (up j)) else some (.bad q.2.2 61 j)
  else some (.bad p.2.2 61 i)

def Sp.comma (kids l : List D) (i : Int) (K : Int → Option PR) : Option PR := bif decide ((0 : Int) < (kids.length : Int)) then Sp.want l i [44] K else K i
def Sp.boxL (g : Tb) : Nat → List D → Int → Int → List D → Int → Option PR
  | 0, _, _, _, _, _ => none
  | r + 1, l, i, v, kids, a => optK (Sp.tok l i) fun p =>
    bif Sp.isS p [93] then some (.ok ⟨10, [], kids, [], a⟩ (up i))
    else Sp.comma kids l i fun j => optK (Sp.tok l j) fun q => Sp.call (g.face l j) fun f j => optK (Sp.tok l j) fun u =>
      bif Sp.isS u [45, 62] then Sp.call (g.term l (up j) (up v)) fun t j => must (Sp.short kids) (Sp.boxL g r l j v (kids ++ [trD ⟨11, [], [trD f, trD t], [], q.2.2⟩]) a)
      else must (Sp.short kids) (Sp.boxL g r l j v (kids ++ [trD ⟨11, [], [trD f], [], q.2.2⟩]) a)
def Sp.boxG (g : Tb) (r : Nat) (l : List D) (i v : Int) : Option PR := optK (Sp.tok l i) fun p => Sp.boxL g r l (up i) v [] p.2.2

def Sp.faceL : Nat → List D → Int → List D → Int → Option PR
  | 0, _, _, _, _ => none
  | r + 1, l, i, kids, a => optK (Sp.tok l i) fun p =>
    bif Sp.isS p [40] then Sp.name l (up i) fun s j => Sp.want l j [61] fun j => optK (Sp.tok l j) fun q =>
      bif Sp.isS q [48] || Sp.isS q [49] then Sp.want l (up j) [41] fun j => must (Sp.short kids) <| optK (Sp.tok l j) fun u =>
        bif Sp.isS u [40] then Sp.faceL r l j (kids ++ [trD ⟨13, s, [], [.str q.2.1], p.2.2⟩]) a
        else some (.ok ⟨12, [], kids ++ [trD ⟨13, s, [], [.str q.2.1], p.2.2⟩], [], a⟩ j)
      else some (.bad q.2.2 61 j)
    else some (.bad p.2.2 61 i)
def Sp.faceG (r : Nat) (l : List D) (i : Int) : Option PR := optK (Sp.tok l i) fun p => bif Sp.isS p [49] then some (.ok ⟨12, [], [], [], p.2.2⟩ (up i)) else Sp.faceL r l i [] p.2.2

def Sp.joinL (g : Tb) : Nat → List D → Int → Int → Tr → Option PR
  | 0, _, _, _, _ => none
  | r + 1, l, i, v, t => optK (Sp.tok l i) fun p => bif Sp.isS p [92, 47] then Sp.call (g.meet l (up i) v) fun u j => Sp.joinL g r l j v ⟨14, [], [trD t, trD u], [], t.pl⟩ else some (.ok t i)
def Sp.joinG (g : Tb) (r : Nat) (l : List D) (i v : Int) : Option PR := Sp.call (g.meet l i v) fun t j => Sp.joinL g r l j v t
def Sp.meetL (g : Tb) : Nat → List D → Int → Int → Tr → Option PR
  | 0, _, _, _, _ => none
  | r + 1, l, i, v, t => optK (Sp.tok l i) fun p => bif Sp.isS p [47, 92] then Sp.call (g.dim l (up i) v) fun u j => Sp.meetL g r l j v ⟨15, [], [trD t, trD u], [], t.pl⟩ else some (.ok t i)
def Sp.meetG (g : Tb) (r : Nat) (l : List D) (i v : Int) : Option PR := Sp.call (g.dim l i v) fun t j => Sp.meetL g r l j v t

def Sp.dimG (g : Tb) (l : List D) (i v : Int) : Option PR := optK (Sp.tok l i) fun p =>
  bif decide (200 < v) then some (.bad p.2.2 62 i)
  else bif decide (p.1 = 1) then some (.ok ⟨1, p.2.1, [], [], p.2.2⟩ (up i))
  else bif Sp.isS p [48] || Sp.isS p [49] then some (.ok ⟨17, p.2.1, [], [], p.2.2⟩ (up i))
  else bif Sp.isS p [126] then Sp.call (g.dim l (up i) (up v)) fun t j => some (.ok ⟨16, [], [trD t], [], p.2.2⟩ j)
  else bif Sp.isS p [40] then Sp.call (g.join l (up i) (up v)) fun t j => Sp.want l j [41] fun j => some (.ok t j)
  else some (.bad p.2.2 61 i)

def Sp.declG (g : Tb) (l : List D) (i : Int) : Option PR := optK (Sp.tok l i) fun p => Sp.name l i fun s j => Sp.want l j [58] fun j => Sp.call (g.term l j 1) fun a j => Sp.want l j [61] fun j => Sp.call (g.term l j 1) fun t j => Sp.want l j [59] fun j => some (.ok ⟨18, s, [trD a, trD t], [], p.2.2⟩ j)

def Sp.tbl : Nat → Tb
  | 0 => ⟨fun _ _ => none, fun _ _ => none, fun _ _ _ => none, fun _ _ _ _ => none, fun _ _ _ => none, fun _ _ _ => none, fun _ _ _ => none, fun _ _ _ => none, fun _ _ _ => none⟩
  | k + 1 => ⟨Sp.namesG k, Sp.faceG k, Sp.termG (Sp.tbl k), Sp.afterG (Sp.tbl k) k, Sp.atomG (Sp.tbl k), Sp.boxG (Sp.tbl k) k, Sp.joinG (Sp.tbl k) k, Sp.meetG (Sp.tbl k) k, Sp.dimG (Sp.tbl k)⟩
def Sp.names (k : Nat) (l : List D) (i : Int) : Option PN := (Sp.tbl k).names l i
def Sp.face (k : Nat) (l : List D) (i : Int) : Option PR := (Sp.tbl k).face l i
def Sp.term (k : Nat) (l : List D) (i v : Int) : Option PR := (Sp.tbl k).term l i v
def Sp.after (k : Nat) (l : List D) (i v : Int) (t : Tr) : Option PR := (Sp.tbl k).after l i v t
def Sp.atom (k : Nat) (l : List D) (i v : Int) : Option PR := (Sp.tbl k).atom l i v
def Sp.box (k : Nat) (l : List D) (i v : Int) : Option PR := (Sp.tbl k).box l i v
def Sp.join (k : Nat) (l : List D) (i v : Int) : Option PR := (Sp.tbl k).join l i v
def Sp.meet (k : Nat) (l : List D) (i v : Int) : Option PR := (Sp.tbl k).meet l i v
def Sp.dim (k : Nat) (l : List D) (i v : Int) : Option PR := (Sp.tbl k).dim l i v
def Sp.decl (k : Nat) (l : List D) (i : Int) : Option PR := Sp.declG (Sp.tbl k) l i

def prGo (o : Option PR) (K : Out → Int → Option R1) : Option R1 := optK o fun p => bif Sp.okQ p then K (.ret (.d (trD (Sp.trOf p)))) (Sp.nxt p) else K (.pan (wrongV (Sp.bAt p) (Sp.bE p))) (Sp.nxt p)
theorem prGo_ok (o : Option PR) (l : List D) (K : Out → St → Option R1) : prGo o (fun o j => K o (rdSt l j)) = optP (prGo o fun o j => some (o, rdSt l j)) K := by
  unfold prGo; simp only [optP_optK, optP_cond, optP_some]
def decT : List V → Option (Int × Tr) | [.d (.int .i64 s), .d (.agg [.int .i64 k, .str n, .sl 5 kids, .sl 1 nms, .int .i64 a])] => some (s, ⟨k, n, kids, nms, a⟩) | _ => none
theorem decT_some {a : List V} {x : Int × Tr} (h : decT a = some x) : a = [.d (.int .i64 x.1), .d (trD x.2)] := by
  unfold decT at h; split at h <;> cases h; rfl
def F49 (n : Nat) : RF := ⟨Unit, dec0, fun l i _ K => optK (Sp.names n l i) fun p => bif Sp.okN p then K (.ret (.d (.sl 1 (Sp.lN p)))) (Sp.nxtN p) else K (.pan (wrongV (Sp.bAtN p) (Sp.bEN p))) (Sp.nxtN p), by intros; simp only [optP_optK, optP_cond, optP_some]⟩
def F25 (n : Nat) : RF := ⟨Int, decI, fun l i v K => prGo (Sp.term n l i v) K, fun l i v K => prGo_ok _ l K⟩
def afG (n : Nat) (l : List D) (i : Int) (K : Out → Int → Option R1) : Int × Tr → Option R1 | (v, t) => prGo (Sp.after n l i v t) K
def F54 (n : Nat) : RF := ⟨Int × Tr, decT, fun l i v K => afG n l i K v, fun l i v K => prGo_ok _ l K⟩
def F56 (n : Nat) : RF := ⟨Int, decI, fun l i v K => prGo (Sp.atom n l i v) K, fun l i v K => prGo_ok _ l K⟩
def F81 (n : Nat) : RF := ⟨Int, decI, fun l i v K => prGo (Sp.box n l i v) K, fun l i v K => prGo_ok _ l K⟩
def F102 (n : Nat) : RF := ⟨Unit, dec0, fun l i _ K => prGo (Sp.face n l i) K, fun l i v K => prGo_ok _ l K⟩
def F101 (n : Nat) : RF := ⟨Int, decI, fun l i v K => prGo (Sp.join n l i v) K, fun l i v K => prGo_ok _ l K⟩
def F110 (n : Nat) : RF := ⟨Int, decI, fun l i v K => prGo (Sp.meet n l i v) K, fun l i v K => prGo_ok _ l K⟩
def F80 (n : Nat) : RF := ⟨Int, decI, fun l i v K => prGo (Sp.dim n l i v) K, fun l i v K => prGo_ok _ l K⟩
def F28 (n : Nat) : RF := ⟨Unit, dec0, fun l i _ K => prGo (Sp.decl n l i) K, fun l i v K => prGo_ok _ l K⟩

/-- `of`: its kids are given over. -/
def dec55 : List V → St → Option (Int × Int × List D × Option Nat)
  | [.d (.int .i64 k), .d (.int .i64 a), .d (.sl 5 l)], [] => some (k, a, l, none)
  | [.d (.int .i64 k), .d (.int .i64 a), .sl 5 l 0], [(0, .tok m)] => some (k, a, l, some m)
  | _, _ => none
def go55 (K : Out → St → Option R1) : Int × Int × List D × Option Nat → Option R1
  | (k, a, l, some m) => K (.ret (.agg [.d (.int .i64 k), .d (.str []), .sl 5 l 0, .d (.sl 1 []), .d (.int .i64 a)])) [(0, .tok m)]
  | (k, a, l, none) => K (.ret (.d (.agg [.int .i64 k, .str [], .sl 5 l, .sl 1 [], .int .i64 a]))) []
def of55 (S : CK R1) : CK R1 where
  S := fun g args σ => bif Nat.beq g 55 then optK (dec55 args σ) fun q => go55 (fun o s => some (o, s)) q else S.S g args σ
  run := fun g args σ K => bif Nat.beq g 55 then optK (dec55 args σ) fun q => go55 K q else S.run g args σ K
  ok := fun g a σ K => by
    show _ = optP _ K
    rw [optP_cond, optP_optK]
    cases Nat.beq g 55
    · exact S.ok g a σ K
    · simp only [cond_true]
      congr 1
      funext q
      obtain ⟨k, p, l, b⟩ := q
      cases b <;> rfl

noncomputable def T4 (n : Nat) : CK R1 := rdr 25 (F25 n) (rdr 54 (F54 n) (rdr 56 (F56 n) (rdr 81 (F81 n) (rdr 102 (F102 n) (rdr 101 (F101 n) (rdr 110 (F110 n) (rdr 80 (F80 n) (rdr 49 (F49 n) (of55 T3)))))))))

end Go.Vai
end

section
namespace Go.Vai
open Go.Proofs

theorem g49 (n k : Nat) (l : List D) (i : Int) :
    evBody cx (T4 k) n 49 [.ptr 0 0] [(0, .val 2 (.d (.agg [.sl 3 l, .int .i64 i])))] =
  optK (Sp.tok l i) fun p =>
    bif decide (p.fst = 1) then
      LP cx (T4 k) n 49 1 2 n [(0, V.ptr 0 0), (3, V.sl 1 [D.str p.snd.1] 7)]
        [(0, Ob.val 2 (V.d (D.agg [D.sl 3 l, D.int IntKind.i64 (up i)]))), (7, Ob.tok 1)]
        (AK cx (T4 k) n 49 1 2 (EK cx 49 1))
    else
      some
        (Out.pan (V.d (D.iface 79 (D.agg [D.int IntKind.i64 p.snd.snd, D.int IntKind.i64 (61 : Int)]))),
          [(0, Ob.val 2 (V.d (D.agg [D.sl 3 l, D.int IntKind.i64 i])))]) := by kernel_rfl

theorem g25 (n k : Nat) (l : List D) (i v : Int) :
    evBody cx (T4 k) n 25 [.ptr 0 0, .d (.int .i64 v)] [(0, .val 2 (.d (.agg [.sl 3 l, .int .i64 i])))] =
  bif decide (200 < v) then
    optK (Sp.tok l i) fun p =>
      some
        (Out.pan (V.d (D.iface 79 (D.agg [D.int IntKind.i64 p.snd.snd, D.int IntKind.i64 (62 : Int)]))),
          [(0, Ob.val 2 (V.d (D.agg [D.sl 3 l, D.int IntKind.i64 i])))])
  else
    optK (Sp.tok l i) fun p =>
      optK (Sp.tok l i) fun p_1 =>
        bif Sp.isS p_1 [92] then
          optK (Sp.names k l (IntKind.i64.wrap (i + (1 : Int)))) fun p_2 =>
            bif Sp.okN p_2 then
              optK (Sp.tok l (Sp.nxtN p_2)) fun p_3 =>
                bif Sp.isS p_3 [46] then
                  optK (Sp.term k l (up (Sp.nxtN p_2)) (IntKind.i64.wrap (v + (1 : Int)))) fun p_4 =>
                    bif Sp.okQ p_4 then
                      some
                        (Out.ret
                            (V.d
                              (D.agg
                                [D.int IntKind.i64 (2 : Int), D.str [],
                                  D.sl 5
                                    [D.agg
                                        [D.int IntKind.i64 (Sp.trOf p_4).k, D.str (Sp.trOf p_4).2,
                                          D.sl 5 (Sp.trOf p_4).3, D.sl 1 (Sp.trOf p_4).4,
                                          D.int IntKind.i64 (Sp.trOf p_4).pl]],
                                  D.sl 1 (Sp.lN p_2), D.int IntKind.i64 p.snd.snd])),
                          [(0, Ob.val 2 (V.d (D.agg [D.sl 3 l, D.int IntKind.i64 (Sp.nxt p_4)])))])
                    else
                      some
                        (Out.pan
                            (V.d (D.iface 79 (D.agg [D.int IntKind.i64 (Sp.bAt p_4), D.int IntKind.i64 (Sp.bE p_4)]))),
                          [(0, Ob.val 2 (V.d (D.agg [D.sl 3 l, D.int IntKind.i64 (Sp.nxt p_4)])))])
                else
                  some
                    (Out.pan
                        (V.d (D.iface 79 (D.agg [D.int IntKind.i64 p_3.snd.snd, D.int IntKind.i64 (61 : Int)]))),
                      [(0, Ob.val 2 (V.d (D.agg [D.sl 3 l, D.int IntKind.i64 (Sp.nxtN p_2)])))])
            else
              some
                (Out.pan (V.d (D.iface 79 (D.agg [D.int IntKind.i64 (Sp.bAtN p_2), D.int IntKind.i64 (Sp.bEN p_2)]))),
                  [(0, Ob.val 2 (V.d (D.agg [D.sl 3 l, D.int IntKind.i64 (Sp.nxtN p_2)])))])
        else
          optK (Sp.tok l i) fun p_2 =>
            bif Sp.isS p_2 [60] then
              optK (Sp.names k l (IntKind.i64.wrap (i + (1 : Int)))) fun p_3 =>
                bif Sp.okN p_3 then
                  optK (Sp.tok l (Sp.nxtN p_3)) fun p_4 =>
                    bif Sp.isS p_4 [62] then
                      optK (Sp.term k l (up (Sp.nxtN p_3)) (IntKind.i64.wrap (v + (1 : Int)))) fun p_5 =>
                        bif Sp.okQ p_5 then
                          some
                            (Out.ret
                                (V.d
                                  (D.agg
                                    [D.int IntKind.i64 (3 : Int), D.str [],
                                      D.sl 5
                                        [D.agg
                                            [D.int IntKind.i64 (Sp.trOf p_5).k, D.str (Sp.trOf p_5).2,
                                              D.sl 5 (Sp.trOf p_5).3, D.sl 1 (Sp.trOf p_5).4,
                                              D.int IntKind.i64 (Sp.trOf p_5).pl]],
                                      D.sl 1 (Sp.lN p_3), D.int IntKind.i64 p.snd.snd])),
                              [(0, Ob.val 2 (V.d (D.agg [D.sl 3 l, D.int IntKind.i64 (Sp.nxt p_5)])))])
                        else
                          some
                            (Out.pan
                                (V.d
                                  (D.iface 79 (D.agg [D.int IntKind.i64 (Sp.bAt p_5), D.int IntKind.i64 (Sp.bE p_5)]))),
                              [(0, Ob.val 2 (V.d (D.agg [D.sl 3 l, D.int IntKind.i64 (Sp.nxt p_5)])))])
                    else
                      some
                        (Out.pan
                            (V.d
                              (D.iface 79 (D.agg [D.int IntKind.i64 p_4.snd.snd, D.int IntKind.i64 (61 : Int)]))),
                          [(0, Ob.val 2 (V.d (D.agg [D.sl 3 l, D.int IntKind.i64 (Sp.nxtN p_3)])))])
                else
                  some
                    (Out.pan
                        (V.d (D.iface 79 (D.agg [D.int IntKind.i64 (Sp.bAtN p_3), D.int IntKind.i64 (Sp.bEN p_3)]))),
                      [(0, Ob.val 2 (V.d (D.agg [D.sl 3 l, D.int IntKind.i64 (Sp.nxtN p_3)])))])
            else
              optK (Sp.binds l i) fun b =>
                bif b then
                  optK (Sp.tok l (IntKind.i64.wrap (i + (1 : Int)))) fun p_3 =>
                    optK
                      (Sp.term k l (IntKind.i64.wrap (up (IntKind.i64.wrap (i + (1 : Int))) + (1 : Int)))
                        (IntKind.i64.wrap (v + (1 : Int))))
                      fun p_4 =>
                      bif Sp.okQ p_4 then
                        optK (Sp.tok l (Sp.nxt p_4)) fun p_5 =>
                          bif Sp.isS p_5 [41] then
                            optK (Sp.tok l (up (Sp.nxt p_4))) fun p_6 =>
                              bif !decide (Sp.arr p_6 = (0 : Int)) then
                                optK
                                  (Sp.term k l (IntKind.i64.wrap (up (Sp.nxt p_4) + (1 : Int)))
                                    (IntKind.i64.wrap (v + (1 : Int))))
                                  fun p_7 =>
                                  bif Sp.okQ p_7 then
                                    some
                                      (Out.ret
                                          (V.d
                                            (D.agg
                                              [D.int IntKind.i64 (Sp.arr p_6), D.str [],
                                                D.sl 5
                                                  [D.agg
                                                      [D.int IntKind.i64 (Sp.trOf p_4).k, D.str (Sp.trOf p_4).2,
                                                        D.sl 5 (Sp.trOf p_4).3, D.sl 1 (Sp.trOf p_4).4,
                                                        D.int IntKind.i64 (Sp.trOf p_4).pl],
                                                    D.agg
                                                      [D.int IntKind.i64 (Sp.trOf p_7).k, D.str (Sp.trOf p_7).2,
                                                        D.sl 5 (Sp.trOf p_7).3, D.sl 1 (Sp.trOf p_7).4,
                                                        D.int IntKind.i64 (Sp.trOf p_7).pl]],
                                                D.sl 1 [D.str p_3.snd.1], D.int IntKind.i64 p.snd.snd])),
                                        [(0, Ob.val 2 (V.d (D.agg [D.sl 3 l, D.int IntKind.i64 (Sp.nxt p_7)])))])
                                  else
                                    some
                                      (Out.pan
                                          (V.d
                                            (D.iface 79
                                              (D.agg [D.int IntKind.i64 (Sp.bAt p_7), D.int IntKind.i64 (Sp.bE p_7)]))),
                                        [(0, Ob.val 2 (V.d (D.agg [D.sl 3 l, D.int IntKind.i64 (Sp.nxt p_7)])))])
                              else
                                optK
                                  (Sp.after k l (up (Sp.nxt p_4)) v
                                    { k := (9 : Int), nm := [],
                                      kids :=
                                        [D.agg
                                            [D.int IntKind.i64 (1 : Int), D.str p_3.snd.1, D.sl 5 [], D.sl 1 [],
                                              D.int IntKind.i64 p_3.snd.snd],
                                          D.agg
                                            [D.int IntKind.i64 (Sp.trOf p_4).k, D.str (Sp.trOf p_4).2,
                                              D.sl 5 (Sp.trOf p_4).3, D.sl 1 (Sp.trOf p_4).4,
                                              D.int IntKind.i64 (Sp.trOf p_4).pl]],
                                      nms := [], pl := p.snd.snd })
                                  fun p =>
                                  bif Sp.okQ p then
                                    some
                                      (Out.ret
                                          (V.d
                                            (D.agg
                                              [D.int IntKind.i64 (Sp.trOf p).k, D.str (Sp.trOf p).2,
                                                D.sl 5 (Sp.trOf p).3, D.sl 1 (Sp.trOf p).4,
                                                D.int IntKind.i64 (Sp.trOf p).pl])),
                                        [(0, Ob.val 2 (V.d (D.agg [D.sl 3 l, D.int IntKind.i64 (Sp.nxt p)])))])
                                  else
                                    some
                                      (Out.pan
                                          (V.d
                                            (D.iface 79
                                              (D.agg [D.int IntKind.i64 (Sp.bAt p), D.int IntKind.i64 (Sp.bE p)]))),
                                        [(0, Ob.val 2 (V.d (D.agg [D.sl 3 l, D.int IntKind.i64 (Sp.nxt p)])))])
                          else
                            some
                              (Out.pan
                                  (V.d
                                    (D.iface 79
                                      (D.agg [D.int IntKind.i64 p_5.snd.snd, D.int IntKind.i64 (61 : Int)]))),
                                [(0, Ob.val 2 (V.d (D.agg [D.sl 3 l, D.int IntKind.i64 (Sp.nxt p_4)])))])
                      else
                        some
                          (Out.pan
                              (V.d
                                (D.iface 79 (D.agg [D.int IntKind.i64 (Sp.bAt p_4), D.int IntKind.i64 (Sp.bE p_4)]))),
                            [(0, Ob.val 2 (V.d (D.agg [D.sl 3 l, D.int IntKind.i64 (Sp.nxt p_4)])))])
                else
                  optK (Sp.atom k l i v) fun p =>
                    bif Sp.okQ p then
                      optK
                        (Sp.after k l (Sp.nxt p) v
                          { k := (Sp.trOf p).k, nm := (Sp.trOf p).2, kids := (Sp.trOf p).3, nms := (Sp.trOf p).4,
                            pl := (Sp.trOf p).pl })
                        fun p =>
                        bif Sp.okQ p then
                          some
                            (Out.ret
                                (V.d
                                  (D.agg
                                    [D.int IntKind.i64 (Sp.trOf p).k, D.str (Sp.trOf p).2, D.sl 5 (Sp.trOf p).3,
                                      D.sl 1 (Sp.trOf p).4, D.int IntKind.i64 (Sp.trOf p).pl])),
                              [(0, Ob.val 2 (V.d (D.agg [D.sl 3 l, D.int IntKind.i64 (Sp.nxt p)])))])
                        else
                          some
                            (Out.pan
                                (V.d (D.iface 79 (D.agg [D.int IntKind.i64 (Sp.bAt p), D.int IntKind.i64 (Sp.bE p)]))),
                              [(0, Ob.val 2 (V.d (D.agg [D.sl 3 l, D.int IntKind.i64 (Sp.nxt p)])))])
                    else
                      some
                        (Out.pan (V.d (D.iface 79 (D.agg [D.int IntKind.i64 (Sp.bAt p), D.int IntKind.i64 (Sp.bE p)]))),
                          [(0, Ob.val 2 (V.d (D.agg [D.sl 3 l, D.int IntKind.i64 (Sp.nxt p)])))]) := by kernel_rfl

theorem g56 (n k : Nat) (l : List D) (i v : Int) :
    evBody cx (T4 k) n 56 [.ptr 0 0, .d (.int .i64 v)] [(0, .val 2 (.d (.agg [.sl 3 l, .int .i64 i])))] =
  optK (Sp.tok l i) fun p =>
    optK (Sp.tok l i) fun p_1 =>
      bif decide (p_1.fst = (1 : Int)) then
        optK (Sp.tok l i) fun p_2 =>
          bif decide (p_2.fst = 1) then
            some
              (Out.ret
                  (V.d
                    (D.agg
                      [D.int IntKind.i64 (1 : Int), D.str p_2.snd.1, D.sl 5 [], D.sl 1 [],
                        D.int IntKind.i64 p.snd.snd])),
                [(0, Ob.val 2 (V.d (D.agg [D.sl 3 l, D.int IntKind.i64 (up i)])))])
          else
            some
              (Out.pan (V.d (D.iface 79 (D.agg [D.int IntKind.i64 p_2.snd.snd, D.int IntKind.i64 (61 : Int)]))),
                [(0, Ob.val 2 (V.d (D.agg [D.sl 3 l, D.int IntKind.i64 i])))])
      else
        optK (Sp.tok l i) fun p_2 =>
          bif Sp.isS p_2 [91] then
            optK (Sp.box k l i v) fun p =>
              bif Sp.okQ p then
                some
                  (Out.ret
                      (V.d
                        (D.agg
                          [D.int IntKind.i64 (Sp.trOf p).k, D.str (Sp.trOf p).2, D.sl 5 (Sp.trOf p).3,
                            D.sl 1 (Sp.trOf p).4, D.int IntKind.i64 (Sp.trOf p).pl])),
                    [(0, Ob.val 2 (V.d (D.agg [D.sl 3 l, D.int IntKind.i64 (Sp.nxt p)])))])
              else
                some
                  (Out.pan (V.d (D.iface 79 (D.agg [D.int IntKind.i64 (Sp.bAt p), D.int IntKind.i64 (Sp.bE p)]))),
                    [(0, Ob.val 2 (V.d (D.agg [D.sl 3 l, D.int IntKind.i64 (Sp.nxt p)])))])
          else
            optK (Sp.tok l i) fun p_3 =>
              bif Sp.isS p_3 [40] then
                optK (Sp.term k l (up i) (IntKind.i64.wrap (v + (1 : Int)))) fun p_4 =>
                  bif Sp.okQ p_4 then
                    optK (Sp.tok l (Sp.nxt p_4)) fun p_5 =>
                      bif Sp.isS p_5 [44] then
                        optK
                          (Sp.term k l (IntKind.i64.wrap (Sp.nxt p_4 + (1 : Int)))
                            (IntKind.i64.wrap (v + (1 : Int))))
                          fun p_6 =>
                          bif Sp.okQ p_6 then
                            optK (Sp.tok l (Sp.nxt p_6)) fun p_7 =>
                              bif Sp.isS p_7 [41] then
                                some
                                  (Out.ret
                                      (V.d
                                        (D.agg
                                          [D.int IntKind.i64 (8 : Int), D.str [],
                                            D.sl 5
                                              [D.agg
                                                  [D.int IntKind.i64 (Sp.trOf p_4).k, D.str (Sp.trOf p_4).2,
                                                    D.sl 5 (Sp.trOf p_4).3, D.sl 1 (Sp.trOf p_4).4,
                                                    D.int IntKind.i64 (Sp.trOf p_4).pl],
                                                D.agg
                                                  [D.int IntKind.i64 (Sp.trOf p_6).k, D.str (Sp.trOf p_6).2,
                                                    D.sl 5 (Sp.trOf p_6).3, D.sl 1 (Sp.trOf p_6).4,
                                                    D.int IntKind.i64 (Sp.trOf p_6).pl]],
                                            D.sl 1 [], D.int IntKind.i64 p.snd.snd])),
                                    [(0, Ob.val 2 (V.d (D.agg [D.sl 3 l, D.int IntKind.i64 (up (Sp.nxt p_6))])))])
                              else
                                some
                                  (Out.pan
                                      (V.d
                                        (D.iface 79
                                          (D.agg [D.int IntKind.i64 p_7.snd.snd, D.int IntKind.i64 (61 : Int)]))),
                                    [(0, Ob.val 2 (V.d (D.agg [D.sl 3 l, D.int IntKind.i64 (Sp.nxt p_6)])))])
                          else
                            some
                              (Out.pan
                                  (V.d
                                    (D.iface 79
                                      (D.agg [D.int IntKind.i64 (Sp.bAt p_6), D.int IntKind.i64 (Sp.bE p_6)]))),
                                [(0, Ob.val 2 (V.d (D.agg [D.sl 3 l, D.int IntKind.i64 (Sp.nxt p_6)])))])
                      else
                        optK (Sp.tok l (Sp.nxt p_4)) fun p_6 =>
                          bif Sp.isS p_6 [58] then
                            optK
                              (Sp.term k l (IntKind.i64.wrap (Sp.nxt p_4 + (1 : Int)))
                                (IntKind.i64.wrap (v + (1 : Int))))
                              fun p_7 =>
                              bif Sp.okQ p_7 then
                                optK (Sp.tok l (Sp.nxt p_7)) fun p_8 =>
                                  bif Sp.isS p_8 [41] then
                                    some
                                      (Out.ret
                                          (V.d
                                            (D.agg
                                              [D.int IntKind.i64 (9 : Int), D.str [],
                                                D.sl 5
                                                  [D.agg
                                                      [D.int IntKind.i64 (Sp.trOf p_4).k, D.str (Sp.trOf p_4).2,
                                                        D.sl 5 (Sp.trOf p_4).3, D.sl 1 (Sp.trOf p_4).4,
                                                        D.int IntKind.i64 (Sp.trOf p_4).pl],
                                                    D.agg
                                                      [D.int IntKind.i64 (Sp.trOf p_7).k, D.str (Sp.trOf p_7).2,
                                                        D.sl 5 (Sp.trOf p_7).3, D.sl 1 (Sp.trOf p_7).4,
                                                        D.int IntKind.i64 (Sp.trOf p_7).pl]],
                                                D.sl 1 [], D.int IntKind.i64 p.snd.snd])),
                                        [(0, Ob.val 2 (V.d (D.agg [D.sl 3 l, D.int IntKind.i64 (up (Sp.nxt p_7))])))])
                                  else
                                    some
                                      (Out.pan
                                          (V.d
                                            (D.iface 79
                                              (D.agg
                                                [D.int IntKind.i64 p_8.snd.snd, D.int IntKind.i64 (61 : Int)]))),
                                        [(0, Ob.val 2 (V.d (D.agg [D.sl 3 l, D.int IntKind.i64 (Sp.nxt p_7)])))])
                              else
                                some
                                  (Out.pan
                                      (V.d
                                        (D.iface 79
                                          (D.agg [D.int IntKind.i64 (Sp.bAt p_7), D.int IntKind.i64 (Sp.bE p_7)]))),
                                    [(0, Ob.val 2 (V.d (D.agg [D.sl 3 l, D.int IntKind.i64 (Sp.nxt p_7)])))])
                          else
                            optK (Sp.tok l (Sp.nxt p_4)) fun p =>
                              bif Sp.isS p [41] then
                                some
                                  (Out.ret
                                      (V.d
                                        (D.agg
                                          [D.int IntKind.i64 (Sp.trOf p_4).k, D.str (Sp.trOf p_4).2,
                                            D.sl 5 (Sp.trOf p_4).3, D.sl 1 (Sp.trOf p_4).4,
                                            D.int IntKind.i64 (Sp.trOf p_4).pl])),
                                    [(0, Ob.val 2 (V.d (D.agg [D.sl 3 l, D.int IntKind.i64 (up (Sp.nxt p_4))])))])
                              else
                                some
                                  (Out.pan
                                      (V.d
                                        (D.iface 79
                                          (D.agg [D.int IntKind.i64 p.snd.snd, D.int IntKind.i64 (61 : Int)]))),
                                    [(0, Ob.val 2 (V.d (D.agg [D.sl 3 l, D.int IntKind.i64 (Sp.nxt p_4)])))])
                  else
                    some
                      (Out.pan
                          (V.d (D.iface 79 (D.agg [D.int IntKind.i64 (Sp.bAt p_4), D.int IntKind.i64 (Sp.bE p_4)]))),
                        [(0, Ob.val 2 (V.d (D.agg [D.sl 3 l, D.int IntKind.i64 (Sp.nxt p_4)])))])
              else
                some
                  (Out.pan (V.d (D.iface 79 (D.agg [D.int IntKind.i64 p_3.snd.snd, D.int IntKind.i64 (61 : Int)]))),
                    [(0, Ob.val 2 (V.d (D.agg [D.sl 3 l, D.int IntKind.i64 i])))]) := by kernel_rfl

theorem g80 (n k : Nat) (l : List D) (i v : Int) :
    evBody cx (T4 k) n 80 [.ptr 0 0, .d (.int .i64 v)] [(0, .val 2 (.d (.agg [.sl 3 l, .int .i64 i])))] =
  bif decide (200 < v) then
    optK (Sp.tok l i) fun p =>
      some
        (Out.pan (V.d (D.iface 79 (D.agg [D.int IntKind.i64 p.snd.snd, D.int IntKind.i64 (62 : Int)]))),
          [(0, Ob.val 2 (V.d (D.agg [D.sl 3 l, D.int IntKind.i64 i])))])
  else
    optK (Sp.tok l i) fun p =>
      optK (Sp.tok l i) fun p_1 =>
        bif decide (p_1.fst = (1 : Int)) then
          optK (Sp.tok l i) fun p_2 =>
            bif decide (p_2.fst = 1) then
              some
                (Out.ret
                    (V.d
                      (D.agg
                        [D.int IntKind.i64 (1 : Int), D.str p_2.snd.1, D.sl 5 [], D.sl 1 [],
                          D.int IntKind.i64 p.snd.snd])),
                  [(0, Ob.val 2 (V.d (D.agg [D.sl 3 l, D.int IntKind.i64 (up i)])))])
            else
              some
                (Out.pan (V.d (D.iface 79 (D.agg [D.int IntKind.i64 p_2.snd.snd, D.int IntKind.i64 (61 : Int)]))),
                  [(0, Ob.val 2 (V.d (D.agg [D.sl 3 l, D.int IntKind.i64 i])))])
        else
          optK (Sp.tok l i) fun p_2 =>
            bif Sp.isS p_2 [48] then
              optK (Sp.tok l i) fun p_3 =>
                some
                  (Out.ret
                      (V.d
                        (D.agg
                          [D.int IntKind.i64 (17 : Int), D.str p_3.snd.1, D.sl 5 [], D.sl 1 [],
                            D.int IntKind.i64 p.snd.snd])),
                    [(0, Ob.val 2 (V.d (D.agg [D.sl 3 l, D.int IntKind.i64 (up i)])))])
            else
              optK (Sp.tok l i) fun p_3 =>
                bif Sp.isS p_3 [49] then
                  optK (Sp.tok l i) fun p_4 =>
                    some
                      (Out.ret
                          (V.d
                            (D.agg
                              [D.int IntKind.i64 (17 : Int), D.str p_4.snd.1, D.sl 5 [], D.sl 1 [],
                                D.int IntKind.i64 p.snd.snd])),
                        [(0, Ob.val 2 (V.d (D.agg [D.sl 3 l, D.int IntKind.i64 (up i)])))])
                else
                  optK (Sp.tok l i) fun p_4 =>
                    bif Sp.isS p_4 [126] then
                      optK (Sp.dim k l (IntKind.i64.wrap (i + (1 : Int))) (IntKind.i64.wrap (v + (1 : Int))))
                        fun p_5 =>
                        bif Sp.okQ p_5 then
                          some
                            (Out.ret
                                (V.d
                                  (D.agg
                                    [D.int IntKind.i64 (16 : Int), D.str [],
                                      D.sl 5
                                        [D.agg
                                            [D.int IntKind.i64 (Sp.trOf p_5).k, D.str (Sp.trOf p_5).2,
                                              D.sl 5 (Sp.trOf p_5).3, D.sl 1 (Sp.trOf p_5).4,
                                              D.int IntKind.i64 (Sp.trOf p_5).pl]],
                                      D.sl 1 [], D.int IntKind.i64 p.snd.snd])),
                              [(0, Ob.val 2 (V.d (D.agg [D.sl 3 l, D.int IntKind.i64 (Sp.nxt p_5)])))])
                        else
                          some
                            (Out.pan
                                (V.d
                                  (D.iface 79 (D.agg [D.int IntKind.i64 (Sp.bAt p_5), D.int IntKind.i64 (Sp.bE p_5)]))),
                              [(0, Ob.val 2 (V.d (D.agg [D.sl 3 l, D.int IntKind.i64 (Sp.nxt p_5)])))])
                    else
                      optK (Sp.tok l i) fun p =>
                        bif Sp.isS p [40] then
                          optK (Sp.join k l (up i) (IntKind.i64.wrap (v + (1 : Int)))) fun p =>
                            bif Sp.okQ p then
                              optK (Sp.tok l (Sp.nxt p)) fun p_5 =>
                                bif Sp.isS p_5 [41] then
                                  some
                                    (Out.ret
                                        (V.d
                                          (D.agg
                                            [D.int IntKind.i64 (Sp.trOf p).k, D.str (Sp.trOf p).2, D.sl 5 (Sp.trOf p).3,
                                              D.sl 1 (Sp.trOf p).4, D.int IntKind.i64 (Sp.trOf p).pl])),
                                      [(0, Ob.val 2 (V.d (D.agg [D.sl 3 l, D.int IntKind.i64 (up (Sp.nxt p))])))])
                                else
                                  some
                                    (Out.pan
                                        (V.d
                                          (D.iface 79
                                            (D.agg [D.int IntKind.i64 p_5.snd.snd, D.int IntKind.i64 (61 : Int)]))),
                                      [(0, Ob.val 2 (V.d (D.agg [D.sl 3 l, D.int IntKind.i64 (Sp.nxt p)])))])
                            else
                              some
                                (Out.pan
                                    (V.d
                                      (D.iface 79 (D.agg [D.int IntKind.i64 (Sp.bAt p), D.int IntKind.i64 (Sp.bE p)]))),
                                  [(0, Ob.val 2 (V.d (D.agg [D.sl 3 l, D.int IntKind.i64 (Sp.nxt p)])))])
                        else
                          some
                            (Out.pan
                                (V.d
                                  (D.iface 79 (D.agg [D.int IntKind.i64 p.snd.snd, D.int IntKind.i64 (61 : Int)]))),
                              [(0, Ob.val 2 (V.d (D.agg [D.sl 3 l, D.int IntKind.i64 i])))]) := by kernel_rfl

theorem g101 (n k : Nat) (l : List D) (i v : Int) :
    evBody cx (T4 k) n 101 [.ptr 0 0, .d (.int .i64 v)] [(0, .val 2 (.d (.agg [.sl 3 l, .int .i64 i])))] =
  optK (Sp.meet k l i v) fun p =>
    bif Sp.okQ p then
      LP cx (T4 k) n 101 1 2 n [(0, V.ptr 0 0), (1, V.d (D.int IntKind.i64 v)), (4, V.ptr 5 0), (5, V.ptr 6 0)]
        [(0, Ob.val 2 (V.d (D.agg [D.sl 3 l, D.int IntKind.i64 (Sp.nxt p)]))),
          (5,
            Ob.val 5
              (V.d
                (D.agg
                  [D.int IntKind.i64 (0 : Int), D.str [], D.sl 5 [], D.sl 1 [], D.int IntKind.i64 (0 : Int)]))),
          (6,
            Ob.val 5
              (V.d
                (D.agg
                  [D.int IntKind.i64 (Sp.trOf p).k, D.str (Sp.trOf p).2, D.sl 5 (Sp.trOf p).3, D.sl 1 (Sp.trOf p).4,
                    D.int IntKind.i64 (Sp.trOf p).pl])))]
        (AK cx (T4 k) n 101 1 2 (EK cx 101 1))
    else
      some
        (Out.pan (V.d (D.iface 79 (D.agg [D.int IntKind.i64 (Sp.bAt p), D.int IntKind.i64 (Sp.bE p)]))),
          [(0, Ob.val 2 (V.d (D.agg [D.sl 3 l, D.int IntKind.i64 (Sp.nxt p)])))]) := by kernel_rfl

theorem g110 (n k : Nat) (l : List D) (i v : Int) :
    evBody cx (T4 k) n 110 [.ptr 0 0, .d (.int .i64 v)] [(0, .val 2 (.d (.agg [.sl 3 l, .int .i64 i])))] =
  optK (Sp.dim k l i v) fun p =>
    bif Sp.okQ p then
      LP cx (T4 k) n 110 1 2 n [(0, V.ptr 0 0), (1, V.d (D.int IntKind.i64 v)), (4, V.ptr 5 0), (5, V.ptr 6 0)]
        [(0, Ob.val 2 (V.d (D.agg [D.sl 3 l, D.int IntKind.i64 (Sp.nxt p)]))),
          (5,
            Ob.val 5
              (V.d
                (D.agg
                  [D.int IntKind.i64 (0 : Int), D.str [], D.sl 5 [], D.sl 1 [], D.int IntKind.i64 (0 : Int)]))),
          (6,
            Ob.val 5
              (V.d
                (D.agg
                  [D.int IntKind.i64 (Sp.trOf p).k, D.str (Sp.trOf p).2, D.sl 5 (Sp.trOf p).3, D.sl 1 (Sp.trOf p).4,
                    D.int IntKind.i64 (Sp.trOf p).pl])))]
        (AK cx (T4 k) n 110 1 2 (EK cx 110 1))
    else
      some
        (Out.pan (V.d (D.iface 79 (D.agg [D.int IntKind.i64 (Sp.bAt p), D.int IntKind.i64 (Sp.bE p)]))),
          [(0, Ob.val 2 (V.d (D.agg [D.sl 3 l, D.int IntKind.i64 (Sp.nxt p)])))]) := by kernel_rfl

theorem g102 (n k : Nat) (l : List D) (i : Int) :
    evBody cx (T4 k) n 102 [.ptr 0 0] [(0, .val 2 (.d (.agg [.sl 3 l, .int .i64 i])))] =
  optK (Sp.tok l i) fun p =>
    optK (Sp.tok l i) fun p_1 =>
      bif Sp.isS p_1 [49] then
        some
          (Out.ret
              (V.d
                (D.agg
                  [D.int IntKind.i64 (12 : Int), D.str [], D.sl 5 [], D.sl 1 [], D.int IntKind.i64 p.snd.snd])),
            [(0, Ob.val 2 (V.d (D.agg [D.sl 3 l, D.int IntKind.i64 (IntKind.i64.wrap (i + (1 : Int)))])))])
      else
        LP cx (T4 k) n 102 1 5 n [(0, V.ptr 0 0), (2, V.ptr 3 0), (3, V.ptr 4 0)]
          [(0, Ob.val 2 (V.d (D.agg [D.sl 3 l, D.int IntKind.i64 i]))),
            (3,
              Ob.val 5
                (V.d
                  (D.agg
                    [D.int IntKind.i64 (0 : Int), D.str [], D.sl 5 [], D.sl 1 [],
                      D.int IntKind.i64 (0 : Int)]))),
            (4,
              Ob.val 5
                (V.agg
                  [V.d (D.int IntKind.i64 (12 : Int)), V.d (D.str []), V.sl 5 [] 10, V.d (D.sl 1 []),
                    V.d (D.int IntKind.i64 p.snd.snd)])),
            (10, Ob.tok 0)]
          (AK cx (T4 k) n 102 1 5 (EK cx 102 1)) := by kernel_rfl

theorem g81 (n k : Nat) (l : List D) (i v : Int) :
    evBody cx (T4 k) n 81 [.ptr 0 0, .d (.int .i64 v)] [(0, .val 2 (.d (.agg [.sl 3 l, .int .i64 i])))] =
  optK (Sp.tok l i) fun p =>
    LP cx (T4 k) n 81 1 2 n [(0, V.ptr 0 0), (1, V.d (D.int IntKind.i64 v)), (4, V.ptr 5 0), (5, V.ptr 6 0)]
      [(0, Ob.val 2 (V.d (D.agg [D.sl 3 l, D.int IntKind.i64 (up i)]))),
        (5,
          Ob.val 5
            (V.d
              (D.agg
                [D.int IntKind.i64 (0 : Int), D.str [], D.sl 5 [], D.sl 1 [], D.int IntKind.i64 (0 : Int)]))),
        (6,
          Ob.val 5
            (V.agg
              [V.d (D.int IntKind.i64 (10 : Int)), V.d (D.str []), V.sl 5 [] 11, V.d (D.sl 1 []),
                V.d (D.int IntKind.i64 p.snd.snd)])),
        (11, Ob.tok 0)]
      (AK cx (T4 k) n 81 1 2 (EK cx 81 1)) := by kernel_rfl

theorem g28 (n k : Nat) (l : List D) (i : Int) :
    evBody cx (T4 k) n 28 [.ptr 0 0] [(0, .val 2 (.d (.agg [.sl 3 l, .int .i64 i])))] =
  optK (Sp.tok l i) fun p =>
    optK (Sp.tok l i) fun p_1 =>
      bif decide (p_1.fst = 1) then
        optK (Sp.tok l (up i)) fun p_2 =>
          bif Sp.isS p_2 [58] then
            optK (Sp.term k l (up (up i)) (1 : Int)) fun p_3 =>
              bif Sp.okQ p_3 then
                optK (Sp.tok l (Sp.nxt p_3)) fun p_4 =>
                  bif Sp.isS p_4 [61] then
                    optK (Sp.term k l (up (Sp.nxt p_3)) (1 : Int)) fun p_5 =>
                      bif Sp.okQ p_5 then
                        optK (Sp.tok l (Sp.nxt p_5)) fun p_6 =>
                          bif Sp.isS p_6 [59] then
                            some
                              (Out.ret
                                  (V.d
                                    (D.agg
                                      [D.int IntKind.i64 (18 : Int), D.str p_1.snd.1,
                                        D.sl 5
                                          [D.agg
                                              [D.int IntKind.i64 (Sp.trOf p_3).k, D.str (Sp.trOf p_3).2,
                                                D.sl 5 (Sp.trOf p_3).3, D.sl 1 (Sp.trOf p_3).4,
                                                D.int IntKind.i64 (Sp.trOf p_3).pl],
                                            D.agg
                                              [D.int IntKind.i64 (Sp.trOf p_5).k, D.str (Sp.trOf p_5).2,
                                                D.sl 5 (Sp.trOf p_5).3, D.sl 1 (Sp.trOf p_5).4,
                                                D.int IntKind.i64 (Sp.trOf p_5).pl]],
                                        D.sl 1 [], D.int IntKind.i64 p.snd.snd])),
                                [(0, Ob.val 2 (V.d (D.agg [D.sl 3 l, D.int IntKind.i64 (up (Sp.nxt p_5))])))])
                          else
                            some
                              (Out.pan
                                  (V.d
                                    (D.iface 79
                                      (D.agg [D.int IntKind.i64 p_6.snd.snd, D.int IntKind.i64 (61 : Int)]))),
                                [(0, Ob.val 2 (V.d (D.agg [D.sl 3 l, D.int IntKind.i64 (Sp.nxt p_5)])))])
                      else
                        some
                          (Out.pan
                              (V.d
                                (D.iface 79 (D.agg [D.int IntKind.i64 (Sp.bAt p_5), D.int IntKind.i64 (Sp.bE p_5)]))),
                            [(0, Ob.val 2 (V.d (D.agg [D.sl 3 l, D.int IntKind.i64 (Sp.nxt p_5)])))])
                  else
                    some
                      (Out.pan
                          (V.d (D.iface 79 (D.agg [D.int IntKind.i64 p_4.snd.snd, D.int IntKind.i64 (61 : Int)]))),
                        [(0, Ob.val 2 (V.d (D.agg [D.sl 3 l, D.int IntKind.i64 (Sp.nxt p_3)])))])
              else
                some
                  (Out.pan (V.d (D.iface 79 (D.agg [D.int IntKind.i64 (Sp.bAt p_3), D.int IntKind.i64 (Sp.bE p_3)]))),
                    [(0, Ob.val 2 (V.d (D.agg [D.sl 3 l, D.int IntKind.i64 (Sp.nxt p_3)])))])
          else
            some
              (Out.pan (V.d (D.iface 79 (D.agg [D.int IntKind.i64 p_2.snd.snd, D.int IntKind.i64 (61 : Int)]))),
                [(0, Ob.val 2 (V.d (D.agg [D.sl 3 l, D.int IntKind.i64 (up i)])))])
      else
        some
          (Out.pan (V.d (D.iface 79 (D.agg [D.int IntKind.i64 p_1.snd.snd, D.int IntKind.i64 (61 : Int)]))),
            [(0, Ob.val 2 (V.d (D.agg [D.sl 3 l, D.int IntKind.i64 i])))]) := by kernel_rfl

theorem g54 (n k : Nat) (l : List D) (i v : Int) (t : Tr) :
    evBody cx (T4 k) n 54 [.ptr 0 0, .d (.int .i64 v), .d (trD t)] [(0, .val 2 (.d (.agg [.sl 3 l, .int .i64 i])))] =
  LP cx (T4 k) n 54 1 6 n [(0, V.ptr 0 0), (1, V.d (D.int IntKind.i64 v)), (5, V.ptr 6 0), (6, V.ptr 7 0)]
    [(0, Ob.val 2 (V.d (D.agg [D.sl 3 l, D.int IntKind.i64 i]))),
      (6, Ob.val 5 (V.d (D.agg [D.int IntKind.i64 t.k, D.str t.2, D.sl 5 t.3, D.sl 1 t.4, D.int IntKind.i64 t.pl]))),
      (7,
        Ob.val 5
          (V.d
            (D.agg
              [D.int IntKind.i64 (0 : Int), D.str [], D.sl 5 [], D.sl 1 [], D.int IntKind.i64 (0 : Int)])))]
    (AK cx (T4 k) n 54 1 6 (EK cx 54 1)) := by kernel_rfl

theorem h49 (n k r : Nat) (l ns : List D) (i : Int) :
    LP cx (T4 k) n 49 1 2 (r + 1) [(0, V.ptr 0 0), (3, V.sl 1 ns 7)] [(0, Ob.val 2 (V.d (D.agg [D.sl 3 l, D.int IntKind.i64 i]))), (7, Ob.tok ns.length)] (AK cx (T4 k) n 49 1 2 (EK cx 49 1)) =
  optK (Sp.tok l i) fun p =>
    bif decide (p.fst = (1 : Int)) then
      optK (Sp.tok l i) fun p =>
        bif decide (p.fst = 1) then
          must (decide (ns.length = ns.length) && decide (ns.length + [D.str p.snd.1].length ≤ 4294967296))
            (LP cx (T4 k) n 49 1 2 r [(0, V.ptr 0 0), (3, V.sl 1 (ns ++ [D.str p.snd.1]) 7)]
              [(0, Ob.val 2 (V.d (D.agg [D.sl 3 l, D.int IntKind.i64 (up i)]))),
                (7, Ob.tok (ns.length + [D.str p.snd.1].length))]
              (AK cx (T4 k) n 49 1 2 (EK cx 49 1)))
        else
          some
            (Out.pan (V.d (D.iface 79 (D.agg [D.int IntKind.i64 p.snd.snd, D.int IntKind.i64 (61 : Int)]))),
              [(0, Ob.val 2 (V.d (D.agg [D.sl 3 l, D.int IntKind.i64 i])))])
    else some (Out.ret (V.d (D.sl 1 ns)), [(0, Ob.val 2 (V.d (D.agg [D.sl 3 l, D.int IntKind.i64 i])))]) := by kernel_rfl

theorem h101 (n k r : Nat) (l : List D) (i v : Int) (t u : Tr) :
    LP cx (T4 k) n 101 1 2 (r + 1) [(0, V.ptr 0 0), (1, V.d (D.int IntKind.i64 v)), (4, V.ptr 5 0), (5, V.ptr 6 0)] [(0, Ob.val 2 (V.d (D.agg [D.sl 3 l, D.int IntKind.i64 i]))), (5, Ob.val 5 (V.d (trD u))), (6, Ob.val 5 (V.d (trD t)))] (AK cx (T4 k) n 101 1 2 (EK cx 101 1)) =
  optK (Sp.tok l i) fun p =>
    bif Sp.isS p [92, 47] then
      optK (Sp.meet k l (IntKind.i64.wrap (i + (1 : Int))) v) fun p =>
        bif Sp.okQ p then
          LP cx (T4 k) n 101 1 2 r [(0, V.ptr 0 0), (1, V.d (D.int IntKind.i64 v)), (4, V.ptr 5 0), (5, V.ptr 6 0)]
            [(0, Ob.val 2 (V.d (D.agg [D.sl 3 l, D.int IntKind.i64 (Sp.nxt p)]))),
              (5,
                Ob.val 5
                  (V.d (D.agg [D.int IntKind.i64 u.k, D.str u.2, D.sl 5 u.3, D.sl 1 u.4, D.int IntKind.i64 u.pl]))),
              (6,
                Ob.val 5
                  (V.d
                    (D.agg
                      [D.int IntKind.i64 (14 : Int), D.str [],
                        D.sl 5
                          [D.agg [D.int IntKind.i64 t.k, D.str t.2, D.sl 5 t.3, D.sl 1 t.4, D.int IntKind.i64 t.pl],
                            D.agg
                              [D.int IntKind.i64 (Sp.trOf p).k, D.str (Sp.trOf p).2, D.sl 5 (Sp.trOf p).3,
                                D.sl 1 (Sp.trOf p).4, D.int IntKind.i64 (Sp.trOf p).pl]],
                        D.sl 1 [], D.int IntKind.i64 t.pl])))]
            (AK cx (T4 k) n 101 1 2 (EK cx 101 1))
        else
          some
            (Out.pan (V.d (D.iface 79 (D.agg [D.int IntKind.i64 (Sp.bAt p), D.int IntKind.i64 (Sp.bE p)]))),
              [(0, Ob.val 2 (V.d (D.agg [D.sl 3 l, D.int IntKind.i64 (Sp.nxt p)])))])
    else
      some
        (Out.ret (V.d (D.agg [D.int IntKind.i64 t.k, D.str t.2, D.sl 5 t.3, D.sl 1 t.4, D.int IntKind.i64 t.pl])),
          [(0, Ob.val 2 (V.d (D.agg [D.sl 3 l, D.int IntKind.i64 i])))]) := by kernel_rfl

theorem h110 (n k r : Nat) (l : List D) (i v : Int) (t u : Tr) :
    LP cx (T4 k) n 110 1 2 (r + 1) [(0, V.ptr 0 0), (1, V.d (D.int IntKind.i64 v)), (4, V.ptr 5 0), (5, V.ptr 6 0)] [(0, Ob.val 2 (V.d (D.agg [D.sl 3 l, D.int IntKind.i64 i]))), (5, Ob.val 5 (V.d (trD u))), (6, Ob.val 5 (V.d (trD t)))] (AK cx (T4 k) n 110 1 2 (EK cx 110 1)) =
  optK (Sp.tok l i) fun p =>
    bif Sp.isS p [47, 92] then
      optK (Sp.dim k l (IntKind.i64.wrap (i + (1 : Int))) v) fun p =>
        bif Sp.okQ p then
          LP cx (T4 k) n 110 1 2 r [(0, V.ptr 0 0), (1, V.d (D.int IntKind.i64 v)), (4, V.ptr 5 0), (5, V.ptr 6 0)]
            [(0, Ob.val 2 (V.d (D.agg [D.sl 3 l, D.int IntKind.i64 (Sp.nxt p)]))),
              (5,
                Ob.val 5
                  (V.d (D.agg [D.int IntKind.i64 u.k, D.str u.2, D.sl 5 u.3, D.sl 1 u.4, D.int IntKind.i64 u.pl]))),
              (6,
                Ob.val 5
                  (V.d
                    (D.agg
                      [D.int IntKind.i64 (15 : Int), D.str [],
                        D.sl 5
                          [D.agg [D.int IntKind.i64 t.k, D.str t.2, D.sl 5 t.3, D.sl 1 t.4, D.int IntKind.i64 t.pl],
                            D.agg
                              [D.int IntKind.i64 (Sp.trOf p).k, D.str (Sp.trOf p).2, D.sl 5 (Sp.trOf p).3,
                                D.sl 1 (Sp.trOf p).4, D.int IntKind.i64 (Sp.trOf p).pl]],
                        D.sl 1 [], D.int IntKind.i64 t.pl])))]
            (AK cx (T4 k) n 110 1 2 (EK cx 110 1))
        else
          some
            (Out.pan (V.d (D.iface 79 (D.agg [D.int IntKind.i64 (Sp.bAt p), D.int IntKind.i64 (Sp.bE p)]))),
              [(0, Ob.val 2 (V.d (D.agg [D.sl 3 l, D.int IntKind.i64 (Sp.nxt p)])))])
    else
      some
        (Out.ret (V.d (D.agg [D.int IntKind.i64 t.k, D.str t.2, D.sl 5 t.3, D.sl 1 t.4, D.int IntKind.i64 t.pl])),
          [(0, Ob.val 2 (V.d (D.agg [D.sl 3 l, D.int IntKind.i64 i])))]) := by kernel_rfl

theorem h54 (n k r : Nat) (l : List D) (i v : Int) (t u : Tr) :
    LP cx (T4 k) n 54 1 6 (r + 1) [(0, V.ptr 0 0), (1, V.d (D.int IntKind.i64 v)), (5, V.ptr 6 0), (6, V.ptr 7 0)] [(0, Ob.val 2 (V.d (D.agg [D.sl 3 l, D.int IntKind.i64 i]))), (6, Ob.val 5 (V.d (trD t))), (7, Ob.val 5 (V.d (trD u)))] (AK cx (T4 k) n 54 1 6 (EK cx 54 1)) =
  optK (Sp.tok l i) fun p =>
    bif Sp.isS p [64] then
      optK (Sp.dim k l (IntKind.i64.wrap (i + (1 : Int))) (IntKind.i64.wrap (v + (1 : Int)))) fun p =>
        bif Sp.okQ p then
          LP cx (T4 k) n 54 1 6 r [(0, V.ptr 0 0), (1, V.d (D.int IntKind.i64 v)), (5, V.ptr 6 0), (6, V.ptr 7 0)]
            [(0, Ob.val 2 (V.d (D.agg [D.sl 3 l, D.int IntKind.i64 (Sp.nxt p)]))),
              (6,
                Ob.val 5
                  (V.d
                    (D.agg
                      [D.int IntKind.i64 (7 : Int), D.str [],
                        D.sl 5
                          [D.agg [D.int IntKind.i64 t.k, D.str t.2, D.sl 5 t.3, D.sl 1 t.4, D.int IntKind.i64 t.pl],
                            D.agg
                              [D.int IntKind.i64 (Sp.trOf p).k, D.str (Sp.trOf p).2, D.sl 5 (Sp.trOf p).3,
                                D.sl 1 (Sp.trOf p).4, D.int IntKind.i64 (Sp.trOf p).pl]],
                        D.sl 1 [], D.int IntKind.i64 t.pl]))),
              (7,
                Ob.val 5
                  (V.d (D.agg [D.int IntKind.i64 u.k, D.str u.2, D.sl 5 u.3, D.sl 1 u.4, D.int IntKind.i64 u.pl])))]
            (AK cx (T4 k) n 54 1 6 (EK cx 54 1))
        else
          some
            (Out.pan (V.d (D.iface 79 (D.agg [D.int IntKind.i64 (Sp.bAt p), D.int IntKind.i64 (Sp.bE p)]))),
              [(0, Ob.val 2 (V.d (D.agg [D.sl 3 l, D.int IntKind.i64 (Sp.nxt p)])))])
    else
      optK (Sp.tok l i) fun p =>
        bif decide (p.fst = (1 : Int)) then
          optK (Sp.atom k l i v) fun p =>
            bif Sp.okQ p then
              LP cx (T4 k) n 54 1 6 r [(0, V.ptr 0 0), (1, V.d (D.int IntKind.i64 v)), (5, V.ptr 6 0), (6, V.ptr 7 0)]
                [(0, Ob.val 2 (V.d (D.agg [D.sl 3 l, D.int IntKind.i64 (Sp.nxt p)]))),
                  (6,
                    Ob.val 5
                      (V.d
                        (D.agg
                          [D.int IntKind.i64 (6 : Int), D.str [],
                            D.sl 5
                              [D.agg [D.int IntKind.i64 t.k, D.str t.2, D.sl 5 t.3, D.sl 1 t.4, D.int IntKind.i64 t.pl],
                                D.agg
                                  [D.int IntKind.i64 (Sp.trOf p).k, D.str (Sp.trOf p).2, D.sl 5 (Sp.trOf p).3,
                                    D.sl 1 (Sp.trOf p).4, D.int IntKind.i64 (Sp.trOf p).pl]],
                            D.sl 1 [], D.int IntKind.i64 t.pl]))),
                  (7,
                    Ob.val 5
                      (V.d (D.agg [D.int IntKind.i64 u.k, D.str u.2, D.sl 5 u.3, D.sl 1 u.4, D.int IntKind.i64 u.pl])))]
                (AK cx (T4 k) n 54 1 6 (EK cx 54 1))
            else
              some
                (Out.pan (V.d (D.iface 79 (D.agg [D.int IntKind.i64 (Sp.bAt p), D.int IntKind.i64 (Sp.bE p)]))),
                  [(0, Ob.val 2 (V.d (D.agg [D.sl 3 l, D.int IntKind.i64 (Sp.nxt p)])))])
        else
          optK (Sp.tok l i) fun p =>
            bif Sp.isS p [40] then
              optK (Sp.atom k l i v) fun p =>
                bif Sp.okQ p then
                  LP cx (T4 k) n 54 1 6 r
                    [(0, V.ptr 0 0), (1, V.d (D.int IntKind.i64 v)), (5, V.ptr 6 0), (6, V.ptr 7 0)]
                    [(0, Ob.val 2 (V.d (D.agg [D.sl 3 l, D.int IntKind.i64 (Sp.nxt p)]))),
                      (6,
                        Ob.val 5
                          (V.d
                            (D.agg
                              [D.int IntKind.i64 (6 : Int), D.str [],
                                D.sl 5
                                  [D.agg
                                      [D.int IntKind.i64 t.k, D.str t.2, D.sl 5 t.3, D.sl 1 t.4,
                                        D.int IntKind.i64 t.pl],
                                    D.agg
                                      [D.int IntKind.i64 (Sp.trOf p).k, D.str (Sp.trOf p).2, D.sl 5 (Sp.trOf p).3,
                                        D.sl 1 (Sp.trOf p).4, D.int IntKind.i64 (Sp.trOf p).pl]],
                                D.sl 1 [], D.int IntKind.i64 t.pl]))),
                      (7,
                        Ob.val 5
                          (V.d
                            (D.agg
                              [D.int IntKind.i64 u.k, D.str u.2, D.sl 5 u.3, D.sl 1 u.4, D.int IntKind.i64 u.pl])))]
                    (AK cx (T4 k) n 54 1 6 (EK cx 54 1))
                else
                  some
                    (Out.pan (V.d (D.iface 79 (D.agg [D.int IntKind.i64 (Sp.bAt p), D.int IntKind.i64 (Sp.bE p)]))),
                      [(0, Ob.val 2 (V.d (D.agg [D.sl 3 l, D.int IntKind.i64 (Sp.nxt p)])))])
            else
              optK (Sp.tok l i) fun p =>
                bif Sp.isS p [91] then
                  optK (Sp.atom k l i v) fun p =>
                    bif Sp.okQ p then
                      LP cx (T4 k) n 54 1 6 r
                        [(0, V.ptr 0 0), (1, V.d (D.int IntKind.i64 v)), (5, V.ptr 6 0), (6, V.ptr 7 0)]
                        [(0, Ob.val 2 (V.d (D.agg [D.sl 3 l, D.int IntKind.i64 (Sp.nxt p)]))),
                          (6,
                            Ob.val 5
                              (V.d
                                (D.agg
                                  [D.int IntKind.i64 (6 : Int), D.str [],
                                    D.sl 5
                                      [D.agg
                                          [D.int IntKind.i64 t.k, D.str t.2, D.sl 5 t.3, D.sl 1 t.4,
                                            D.int IntKind.i64 t.pl],
                                        D.agg
                                          [D.int IntKind.i64 (Sp.trOf p).k, D.str (Sp.trOf p).2, D.sl 5 (Sp.trOf p).3,
                                            D.sl 1 (Sp.trOf p).4, D.int IntKind.i64 (Sp.trOf p).pl]],
                                    D.sl 1 [], D.int IntKind.i64 t.pl]))),
                          (7,
                            Ob.val 5
                              (V.d
                                (D.agg
                                  [D.int IntKind.i64 u.k, D.str u.2, D.sl 5 u.3, D.sl 1 u.4, D.int IntKind.i64 u.pl])))]
                        (AK cx (T4 k) n 54 1 6 (EK cx 54 1))
                    else
                      some
                        (Out.pan (V.d (D.iface 79 (D.agg [D.int IntKind.i64 (Sp.bAt p), D.int IntKind.i64 (Sp.bE p)]))),
                          [(0, Ob.val 2 (V.d (D.agg [D.sl 3 l, D.int IntKind.i64 (Sp.nxt p)])))])
                else
                  optK (Sp.tok l i) fun p =>
                    bif !decide (Sp.arr p = (0 : Int)) then
                      optK (Sp.term k l (IntKind.i64.wrap (i + (1 : Int))) (IntKind.i64.wrap (v + (1 : Int))))
                        fun p_1 =>
                        bif Sp.okQ p_1 then
                          some
                            (Out.ret
                                (V.d
                                  (D.agg
                                    [D.int IntKind.i64 (Sp.arr p), D.str [],
                                      D.sl 5
                                        [D.agg
                                            [D.int IntKind.i64 t.k, D.str t.2, D.sl 5 t.3, D.sl 1 t.4,
                                              D.int IntKind.i64 t.pl],
                                          D.agg
                                            [D.int IntKind.i64 (Sp.trOf p_1).k, D.str (Sp.trOf p_1).2,
                                              D.sl 5 (Sp.trOf p_1).3, D.sl 1 (Sp.trOf p_1).4,
                                              D.int IntKind.i64 (Sp.trOf p_1).pl]],
                                      D.sl 1 [], D.int IntKind.i64 t.pl])),
                              [(0, Ob.val 2 (V.d (D.agg [D.sl 3 l, D.int IntKind.i64 (Sp.nxt p_1)])))])
                        else
                          some
                            (Out.pan
                                (V.d
                                  (D.iface 79 (D.agg [D.int IntKind.i64 (Sp.bAt p_1), D.int IntKind.i64 (Sp.bE p_1)]))),
                              [(0, Ob.val 2 (V.d (D.agg [D.sl 3 l, D.int IntKind.i64 (Sp.nxt p_1)])))])
                    else
                      some
                        (Out.ret
                            (V.d
                              (D.agg
                                [D.int IntKind.i64 t.k, D.str t.2, D.sl 5 t.3, D.sl 1 t.4, D.int IntKind.i64 t.pl])),
                          [(0, Ob.val 2 (V.d (D.agg [D.sl 3 l, D.int IntKind.i64 i])))]) := by kernel_rfl

theorem h102 (n k r : Nat) (l kids : List D) (i a : Int) (u : Tr) :
    LP cx (T4 k) n 102 1 5 (r + 1) [(0, V.ptr 0 0), (2, V.ptr 3 0), (3, V.ptr 4 0)] [(0, Ob.val 2 (V.d (D.agg [D.sl 3 l, D.int IntKind.i64 i]))), (3, Ob.val 5 (V.d (trD u))), (4, Ob.val 5 (V.agg [V.d (D.int IntKind.i64 (12 : Int)), V.d (D.str []), V.sl 5 kids 10, V.d (D.sl 1 []), V.d (D.int IntKind.i64 a)])), (10, Ob.tok kids.length)] (AK cx (T4 k) n 102 1 5 (EK cx 102 1)) =
  optK (Sp.tok l i) fun p =>
    optK (Sp.tok l i) fun p_1 =>
      bif Sp.isS p_1 [40] then
        optK (Sp.tok l (up i)) fun p_2 =>
          bif decide (p_2.fst = 1) then
            optK (Sp.tok l (up (up i))) fun p_3 =>
              bif Sp.isS p_3 [61] then
                optK (Sp.tok l (up (up (up i)))) fun p_4 =>
                  bif !Sp.isS p_4 [48] then
                    optK (Sp.tok l (up (up (up i)))) fun p_5 =>
                      bif !Sp.isS p_5 [49] then
                        optK (Sp.tok l (up (up (up i)))) fun p =>
                          some
                            (Out.pan
                                (V.d
                                  (D.iface 79 (D.agg [D.int IntKind.i64 p.snd.snd, D.int IntKind.i64 (61 : Int)]))),
                              [(0, Ob.val 2 (V.d (D.agg [D.sl 3 l, D.int IntKind.i64 (up (up (up i)))])))])
                      else
                        optK (Sp.tok l (up (up (up i)))) fun p_6 =>
                          optK (Sp.tok l (up (up (up (up i))))) fun p_7 =>
                            bif Sp.isS p_7 [41] then
                              must
                                (decide (kids.length = kids.length) &&
                                  decide
                                    (kids.length +
                                        [D.agg
                                              [D.int IntKind.i64 (13 : Int), D.str p_2.snd.1, D.sl 5 [],
                                                D.sl 1 [D.str p_6.snd.1], D.int IntKind.i64 p.snd.snd]].length ≤
                                      4294967296))
                                (optK (Sp.tok l (up (up (up (up (up i)))))) fun p_8 =>
                                  bif !Sp.isS p_8 [40] then
                                    some
                                      (Out.ret
                                          (V.d
                                            (D.agg
                                              [D.int IntKind.i64 (12 : Int), D.str [],
                                                D.sl 5
                                                  (kids ++
                                                    [D.agg
                                                        [D.int IntKind.i64 (13 : Int), D.str p_2.snd.1, D.sl 5 [],
                                                          D.sl 1 [D.str p_6.snd.1], D.int IntKind.i64 p.snd.snd]]),
                                                D.sl 1 [], D.int IntKind.i64 a])),
                                        [(0,
                                            Ob.val 2
                                              (V.d (D.agg [D.sl 3 l, D.int IntKind.i64 (up (up (up (up (up i)))))])))])
                                  else
                                    LP cx (T4 k) n 102 1 5 r [(0, V.ptr 0 0), (2, V.ptr 3 0), (3, V.ptr 4 0)]
                                      [(0,
                                          Ob.val 2
                                            (V.d (D.agg [D.sl 3 l, D.int IntKind.i64 (up (up (up (up (up i)))))]))),
                                        (3,
                                          Ob.val 5
                                            (V.d
                                              (D.agg
                                                [D.int IntKind.i64 u.k, D.str u.2, D.sl 5 u.3, D.sl 1 u.4,
                                                  D.int IntKind.i64 u.pl]))),
                                        (4,
                                          Ob.val 5
                                            (V.agg
                                              [V.d (D.int IntKind.i64 (12 : Int)), V.d (D.str []),
                                                V.sl 5
                                                  (kids ++
                                                    [D.agg
                                                        [D.int IntKind.i64 (13 : Int), D.str p_2.snd.1, D.sl 5 [],
                                                          D.sl 1 [D.str p_6.snd.1], D.int IntKind.i64 p.snd.snd]])
                                                  10,
                                                V.d (D.sl 1 []), V.d (D.int IntKind.i64 a)])),
                                        (10,
                                          Ob.tok
                                            (kids.length +
                                              [D.agg
                                                    [D.int IntKind.i64 (13 : Int), D.str p_2.snd.1, D.sl 5 [],
                                                      D.sl 1 [D.str p_6.snd.1], D.int IntKind.i64 p.snd.snd]].length))]
                                      (AK cx (T4 k) n 102 1 5 (EK cx 102 1)))
                            else
                              some
                                (Out.pan
                                    (V.d
                                      (D.iface 79
                                        (D.agg [D.int IntKind.i64 p_7.snd.snd, D.int IntKind.i64 (61 : Int)]))),
                                  [(0, Ob.val 2 (V.d (D.agg [D.sl 3 l, D.int IntKind.i64 (up (up (up (up i))))])))])
                  else
                    optK (Sp.tok l (up (up (up i)))) fun p_5 =>
                      optK (Sp.tok l (up (up (up (up i))))) fun p_6 =>
                        bif Sp.isS p_6 [41] then
                          must
                            (decide (kids.length = kids.length) &&
                              decide
                                (kids.length +
                                    [D.agg
                                          [D.int IntKind.i64 (13 : Int), D.str p_2.snd.1, D.sl 5 [],
                                            D.sl 1 [D.str p_5.snd.1], D.int IntKind.i64 p.snd.snd]].length ≤
                                  4294967296))
                            (optK (Sp.tok l (up (up (up (up (up i)))))) fun p_7 =>
                              bif !Sp.isS p_7 [40] then
                                some
                                  (Out.ret
                                      (V.d
                                        (D.agg
                                          [D.int IntKind.i64 (12 : Int), D.str [],
                                            D.sl 5
                                              (kids ++
                                                [D.agg
                                                    [D.int IntKind.i64 (13 : Int), D.str p_2.snd.1, D.sl 5 [],
                                                      D.sl 1 [D.str p_5.snd.1], D.int IntKind.i64 p.snd.snd]]),
                                            D.sl 1 [], D.int IntKind.i64 a])),
                                    [(0,
                                        Ob.val 2
                                          (V.d (D.agg [D.sl 3 l, D.int IntKind.i64 (up (up (up (up (up i)))))])))])
                              else
                                LP cx (T4 k) n 102 1 5 r [(0, V.ptr 0 0), (2, V.ptr 3 0), (3, V.ptr 4 0)]
                                  [(0, Ob.val 2 (V.d (D.agg [D.sl 3 l, D.int IntKind.i64 (up (up (up (up (up i)))))]))),
                                    (3,
                                      Ob.val 5
                                        (V.d
                                          (D.agg
                                            [D.int IntKind.i64 u.k, D.str u.2, D.sl 5 u.3, D.sl 1 u.4,
                                              D.int IntKind.i64 u.pl]))),
                                    (4,
                                      Ob.val 5
                                        (V.agg
                                          [V.d (D.int IntKind.i64 (12 : Int)), V.d (D.str []),
                                            V.sl 5
                                              (kids ++
                                                [D.agg
                                                    [D.int IntKind.i64 (13 : Int), D.str p_2.snd.1, D.sl 5 [],
                                                      D.sl 1 [D.str p_5.snd.1], D.int IntKind.i64 p.snd.snd]])
                                              10,
                                            V.d (D.sl 1 []), V.d (D.int IntKind.i64 a)])),
                                    (10,
                                      Ob.tok
                                        (kids.length +
                                          [D.agg
                                                [D.int IntKind.i64 (13 : Int), D.str p_2.snd.1, D.sl 5 [],
                                                  D.sl 1 [D.str p_5.snd.1], D.int IntKind.i64 p.snd.snd]].length))]
                                  (AK cx (T4 k) n 102 1 5 (EK cx 102 1)))
                        else
                          some
                            (Out.pan
                                (V.d
                                  (D.iface 79
                                    (D.agg [D.int IntKind.i64 p_6.snd.snd, D.int IntKind.i64 (61 : Int)]))),
                              [(0, Ob.val 2 (V.d (D.agg [D.sl 3 l, D.int IntKind.i64 (up (up (up (up i))))])))])
              else
                some
                  (Out.pan (V.d (D.iface 79 (D.agg [D.int IntKind.i64 p_3.snd.snd, D.int IntKind.i64 (61 : Int)]))),
                    [(0, Ob.val 2 (V.d (D.agg [D.sl 3 l, D.int IntKind.i64 (up (up i))])))])
          else
            some
              (Out.pan (V.d (D.iface 79 (D.agg [D.int IntKind.i64 p_2.snd.snd, D.int IntKind.i64 (61 : Int)]))),
                [(0, Ob.val 2 (V.d (D.agg [D.sl 3 l, D.int IntKind.i64 (up i)])))])
      else
        some
          (Out.pan (V.d (D.iface 79 (D.agg [D.int IntKind.i64 p_1.snd.snd, D.int IntKind.i64 (61 : Int)]))),
            [(0, Ob.val 2 (V.d (D.agg [D.sl 3 l, D.int IntKind.i64 i])))]) := by kernel_rfl

theorem h81 (n k r : Nat) (l kids : List D) (i v a : Int) (u : Tr) :
    LP cx (T4 k) n 81 1 2 (r + 1) [(0, V.ptr 0 0), (1, V.d (D.int IntKind.i64 v)), (4, V.ptr 5 0), (5, V.ptr 6 0)] [(0, Ob.val 2 (V.d (D.agg [D.sl 3 l, D.int IntKind.i64 i]))), (5, Ob.val 5 (V.d (trD u))), (6, Ob.val 5 (V.agg [V.d (D.int IntKind.i64 (10 : Int)), V.d (D.str []), V.sl 5 kids 11, V.d (D.sl 1 []), V.d (D.int IntKind.i64 a)])), (11, Ob.tok kids.length)] (AK cx (T4 k) n 81 1 2 (EK cx 81 1)) =
  optK (Sp.tok l i) fun p =>
    bif !Sp.isS p [93] then
      bif decide ((0 : Int) < (↑kids.length : Int)) then
        optK (Sp.tok l i) fun p =>
          bif Sp.isS p [44] then
            optK (Sp.tok l (up i)) fun p =>
              optK (Sp.face k l (up i)) fun p_1 =>
                bif Sp.okQ p_1 then
                  optK (Sp.tok l (Sp.nxt p_1)) fun p_2 =>
                    bif Sp.isS p_2 [45, 62] then
                      optK
                        (Sp.term k l (IntKind.i64.wrap (Sp.nxt p_1 + (1 : Int))) (IntKind.i64.wrap (v + (1 : Int))))
                        fun p_3 =>
                        bif Sp.okQ p_3 then
                          must
                            (decide (kids.length = kids.length) &&
                              decide
                                (kids.length +
                                    [D.agg
                                          [D.int IntKind.i64 (11 : Int), D.str [],
                                            D.sl 5
                                              [D.agg
                                                  [D.int IntKind.i64 (Sp.trOf p_1).k, D.str (Sp.trOf p_1).2,
                                                    D.sl 5 (Sp.trOf p_1).3, D.sl 1 (Sp.trOf p_1).4,
                                                    D.int IntKind.i64 (Sp.trOf p_1).pl],
                                                D.agg
                                                  [D.int IntKind.i64 (Sp.trOf p_3).k, D.str (Sp.trOf p_3).2,
                                                    D.sl 5 (Sp.trOf p_3).3, D.sl 1 (Sp.trOf p_3).4,
                                                    D.int IntKind.i64 (Sp.trOf p_3).pl]],
                                            D.sl 1 [], D.int IntKind.i64 p.snd.snd]].length ≤
                                  4294967296))
                            (LP cx (T4 k) n 81 1 2 r
                              [(0, V.ptr 0 0), (1, V.d (D.int IntKind.i64 v)), (4, V.ptr 5 0), (5, V.ptr 6 0)]
                              [(0, Ob.val 2 (V.d (D.agg [D.sl 3 l, D.int IntKind.i64 (Sp.nxt p_3)]))),
                                (5,
                                  Ob.val 5
                                    (V.d
                                      (D.agg
                                        [D.int IntKind.i64 u.k, D.str u.2, D.sl 5 u.3, D.sl 1 u.4,
                                          D.int IntKind.i64 u.pl]))),
                                (6,
                                  Ob.val 5
                                    (V.agg
                                      [V.d (D.int IntKind.i64 (10 : Int)), V.d (D.str []),
                                        V.sl 5
                                          (kids ++
                                            [D.agg
                                                [D.int IntKind.i64 (11 : Int), D.str [],
                                                  D.sl 5
                                                    [D.agg
                                                        [D.int IntKind.i64 (Sp.trOf p_1).k, D.str (Sp.trOf p_1).2,
                                                          D.sl 5 (Sp.trOf p_1).3, D.sl 1 (Sp.trOf p_1).4,
                                                          D.int IntKind.i64 (Sp.trOf p_1).pl],
                                                      D.agg
                                                        [D.int IntKind.i64 (Sp.trOf p_3).k, D.str (Sp.trOf p_3).2,
                                                          D.sl 5 (Sp.trOf p_3).3, D.sl 1 (Sp.trOf p_3).4,
                                                          D.int IntKind.i64 (Sp.trOf p_3).pl]],
                                                  D.sl 1 [], D.int IntKind.i64 p.snd.snd]])
                                          11,
                                        V.d (D.sl 1 []), V.d (D.int IntKind.i64 a)])),
                                (11,
                                  Ob.tok
                                    (kids.length +
                                      [D.agg
                                            [D.int IntKind.i64 (11 : Int), D.str [],
                                              D.sl 5
                                                [D.agg
                                                    [D.int IntKind.i64 (Sp.trOf p_1).k, D.str (Sp.trOf p_1).2,
                                                      D.sl 5 (Sp.trOf p_1).3, D.sl 1 (Sp.trOf p_1).4,
                                                      D.int IntKind.i64 (Sp.trOf p_1).pl],
                                                  D.agg
                                                    [D.int IntKind.i64 (Sp.trOf p_3).k, D.str (Sp.trOf p_3).2,
                                                      D.sl 5 (Sp.trOf p_3).3, D.sl 1 (Sp.trOf p_3).4,
                                                      D.int IntKind.i64 (Sp.trOf p_3).pl]],
                                              D.sl 1 [], D.int IntKind.i64 p.snd.snd]].length))]
                              (AK cx (T4 k) n 81 1 2 (EK cx 81 1)))
                        else
                          some
                            (Out.pan
                                (V.d
                                  (D.iface 79 (D.agg [D.int IntKind.i64 (Sp.bAt p_3), D.int IntKind.i64 (Sp.bE p_3)]))),
                              [(0, Ob.val 2 (V.d (D.agg [D.sl 3 l, D.int IntKind.i64 (Sp.nxt p_3)])))])
                    else
                      must
                        (decide (kids.length = kids.length) &&
                          decide
                            (kids.length +
                                [D.agg
                                      [D.int IntKind.i64 (11 : Int), D.str [],
                                        D.sl 5
                                          [D.agg
                                              [D.int IntKind.i64 (Sp.trOf p_1).k, D.str (Sp.trOf p_1).2,
                                                D.sl 5 (Sp.trOf p_1).3, D.sl 1 (Sp.trOf p_1).4,
                                                D.int IntKind.i64 (Sp.trOf p_1).pl]],
                                        D.sl 1 [], D.int IntKind.i64 p.snd.snd]].length ≤
                              4294967296))
                        (LP cx (T4 k) n 81 1 2 r
                          [(0, V.ptr 0 0), (1, V.d (D.int IntKind.i64 v)), (4, V.ptr 5 0), (5, V.ptr 6 0)]
                          [(0, Ob.val 2 (V.d (D.agg [D.sl 3 l, D.int IntKind.i64 (Sp.nxt p_1)]))),
                            (5,
                              Ob.val 5
                                (V.d
                                  (D.agg
                                    [D.int IntKind.i64 u.k, D.str u.2, D.sl 5 u.3, D.sl 1 u.4,
                                      D.int IntKind.i64 u.pl]))),
                            (6,
                              Ob.val 5
                                (V.agg
                                  [V.d (D.int IntKind.i64 (10 : Int)), V.d (D.str []),
                                    V.sl 5
                                      (kids ++
                                        [D.agg
                                            [D.int IntKind.i64 (11 : Int), D.str [],
                                              D.sl 5
                                                [D.agg
                                                    [D.int IntKind.i64 (Sp.trOf p_1).k, D.str (Sp.trOf p_1).2,
                                                      D.sl 5 (Sp.trOf p_1).3, D.sl 1 (Sp.trOf p_1).4,
                                                      D.int IntKind.i64 (Sp.trOf p_1).pl]],
                                              D.sl 1 [], D.int IntKind.i64 p.snd.snd]])
                                      11,
                                    V.d (D.sl 1 []), V.d (D.int IntKind.i64 a)])),
                            (11,
                              Ob.tok
                                (kids.length +
                                  [D.agg
                                        [D.int IntKind.i64 (11 : Int), D.str [],
                                          D.sl 5
                                            [D.agg
                                                [D.int IntKind.i64 (Sp.trOf p_1).k, D.str (Sp.trOf p_1).2,
                                                  D.sl 5 (Sp.trOf p_1).3, D.sl 1 (Sp.trOf p_1).4,
                                                  D.int IntKind.i64 (Sp.trOf p_1).pl]],
                                          D.sl 1 [], D.int IntKind.i64 p.snd.snd]].length))]
                          (AK cx (T4 k) n 81 1 2 (EK cx 81 1)))
                else
                  some
                    (Out.pan (V.d (D.iface 79 (D.agg [D.int IntKind.i64 (Sp.bAt p_1), D.int IntKind.i64 (Sp.bE p_1)]))),
                      [(0, Ob.val 2 (V.d (D.agg [D.sl 3 l, D.int IntKind.i64 (Sp.nxt p_1)])))])
          else
            some
              (Out.pan (V.d (D.iface 79 (D.agg [D.int IntKind.i64 p.snd.snd, D.int IntKind.i64 (61 : Int)]))),
                [(0, Ob.val 2 (V.d (D.agg [D.sl 3 l, D.int IntKind.i64 i])))])
      else
        optK (Sp.tok l i) fun p =>
          optK (Sp.face k l i) fun p_1 =>
            bif Sp.okQ p_1 then
              optK (Sp.tok l (Sp.nxt p_1)) fun p_2 =>
                bif Sp.isS p_2 [45, 62] then
                  optK (Sp.term k l (IntKind.i64.wrap (Sp.nxt p_1 + (1 : Int))) (IntKind.i64.wrap (v + (1 : Int))))
                    fun p_3 =>
                    bif Sp.okQ p_3 then
                      must
                        (decide (kids.length = kids.length) &&
                          decide
                            (kids.length +
                                [D.agg
                                      [D.int IntKind.i64 (11 : Int), D.str [],
                                        D.sl 5
                                          [D.agg
                                              [D.int IntKind.i64 (Sp.trOf p_1).k, D.str (Sp.trOf p_1).2,
                                                D.sl 5 (Sp.trOf p_1).3, D.sl 1 (Sp.trOf p_1).4,
                                                D.int IntKind.i64 (Sp.trOf p_1).pl],
                                            D.agg
                                              [D.int IntKind.i64 (Sp.trOf p_3).k, D.str (Sp.trOf p_3).2,
                                                D.sl 5 (Sp.trOf p_3).3, D.sl 1 (Sp.trOf p_3).4,
                                                D.int IntKind.i64 (Sp.trOf p_3).pl]],
                                        D.sl 1 [], D.int IntKind.i64 p.snd.snd]].length ≤
                              4294967296))
                        (LP cx (T4 k) n 81 1 2 r
                          [(0, V.ptr 0 0), (1, V.d (D.int IntKind.i64 v)), (4, V.ptr 5 0), (5, V.ptr 6 0)]
                          [(0, Ob.val 2 (V.d (D.agg [D.sl 3 l, D.int IntKind.i64 (Sp.nxt p_3)]))),
                            (5,
                              Ob.val 5
                                (V.d
                                  (D.agg
                                    [D.int IntKind.i64 u.k, D.str u.2, D.sl 5 u.3, D.sl 1 u.4,
                                      D.int IntKind.i64 u.pl]))),
                            (6,
                              Ob.val 5
                                (V.agg
                                  [V.d (D.int IntKind.i64 (10 : Int)), V.d (D.str []),
                                    V.sl 5
                                      (kids ++
                                        [D.agg
                                            [D.int IntKind.i64 (11 : Int), D.str [],
                                              D.sl 5
                                                [D.agg
                                                    [D.int IntKind.i64 (Sp.trOf p_1).k, D.str (Sp.trOf p_1).2,
                                                      D.sl 5 (Sp.trOf p_1).3, D.sl 1 (Sp.trOf p_1).4,
                                                      D.int IntKind.i64 (Sp.trOf p_1).pl],
                                                  D.agg
                                                    [D.int IntKind.i64 (Sp.trOf p_3).k, D.str (Sp.trOf p_3).2,
                                                      D.sl 5 (Sp.trOf p_3).3, D.sl 1 (Sp.trOf p_3).4,
                                                      D.int IntKind.i64 (Sp.trOf p_3).pl]],
                                              D.sl 1 [], D.int IntKind.i64 p.snd.snd]])
                                      11,
                                    V.d (D.sl 1 []), V.d (D.int IntKind.i64 a)])),
                            (11,
                              Ob.tok
                                (kids.length +
                                  [D.agg
                                        [D.int IntKind.i64 (11 : Int), D.str [],
                                          D.sl 5
                                            [D.agg
                                                [D.int IntKind.i64 (Sp.trOf p_1).k, D.str (Sp.trOf p_1).2,
                                                  D.sl 5 (Sp.trOf p_1).3, D.sl 1 (Sp.trOf p_1).4,
                                                  D.int IntKind.i64 (Sp.trOf p_1).pl],
                                              D.agg
                                                [D.int IntKind.i64 (Sp.trOf p_3).k, D.str (Sp.trOf p_3).2,
                                                  D.sl 5 (Sp.trOf p_3).3, D.sl 1 (Sp.trOf p_3).4,
                                                  D.int IntKind.i64 (Sp.trOf p_3).pl]],
                                          D.sl 1 [], D.int IntKind.i64 p.snd.snd]].length))]
                          (AK cx (T4 k) n 81 1 2 (EK cx 81 1)))
                    else
                      some
                        (Out.pan
                            (V.d (D.iface 79 (D.agg [D.int IntKind.i64 (Sp.bAt p_3), D.int IntKind.i64 (Sp.bE p_3)]))),
                          [(0, Ob.val 2 (V.d (D.agg [D.sl 3 l, D.int IntKind.i64 (Sp.nxt p_3)])))])
                else
                  must
                    (decide (kids.length = kids.length) &&
                      decide
                        (kids.length +
                            [D.agg
                                  [D.int IntKind.i64 (11 : Int), D.str [],
                                    D.sl 5
                                      [D.agg
                                          [D.int IntKind.i64 (Sp.trOf p_1).k, D.str (Sp.trOf p_1).2,
                                            D.sl 5 (Sp.trOf p_1).3, D.sl 1 (Sp.trOf p_1).4,
                                            D.int IntKind.i64 (Sp.trOf p_1).pl]],
                                    D.sl 1 [], D.int IntKind.i64 p.snd.snd]].length ≤
                          4294967296))
                    (LP cx (T4 k) n 81 1 2 r
                      [(0, V.ptr 0 0), (1, V.d (D.int IntKind.i64 v)), (4, V.ptr 5 0), (5, V.ptr 6 0)]
                      [(0, Ob.val 2 (V.d (D.agg [D.sl 3 l, D.int IntKind.i64 (Sp.nxt p_1)]))),
                        (5,
                          Ob.val 5
                            (V.d
                              (D.agg
                                [D.int IntKind.i64 u.k, D.str u.2, D.sl 5 u.3, D.sl 1 u.4, D.int IntKind.i64 u.pl]))),
                        (6,
                          Ob.val 5
                            (V.agg
                              [V.d (D.int IntKind.i64 (10 : Int)), V.d (D.str []),
                                V.sl 5
                                  (kids ++
                                    [D.agg
                                        [D.int IntKind.i64 (11 : Int), D.str [],
                                          D.sl 5
                                            [D.agg
                                                [D.int IntKind.i64 (Sp.trOf p_1).k, D.str (Sp.trOf p_1).2,
                                                  D.sl 5 (Sp.trOf p_1).3, D.sl 1 (Sp.trOf p_1).4,
                                                  D.int IntKind.i64 (Sp.trOf p_1).pl]],
                                          D.sl 1 [], D.int IntKind.i64 p.snd.snd]])
                                  11,
                                V.d (D.sl 1 []), V.d (D.int IntKind.i64 a)])),
                        (11,
                          Ob.tok
                            (kids.length +
                              [D.agg
                                    [D.int IntKind.i64 (11 : Int), D.str [],
                                      D.sl 5
                                        [D.agg
                                            [D.int IntKind.i64 (Sp.trOf p_1).k, D.str (Sp.trOf p_1).2,
                                              D.sl 5 (Sp.trOf p_1).3, D.sl 1 (Sp.trOf p_1).4,
                                              D.int IntKind.i64 (Sp.trOf p_1).pl]],
                                      D.sl 1 [], D.int IntKind.i64 p.snd.snd]].length))]
                      (AK cx (T4 k) n 81 1 2 (EK cx 81 1)))
            else
              some
                (Out.pan (V.d (D.iface 79 (D.agg [D.int IntKind.i64 (Sp.bAt p_1), D.int IntKind.i64 (Sp.bE p_1)]))),
                  [(0, Ob.val 2 (V.d (D.agg [D.sl 3 l, D.int IntKind.i64 (Sp.nxt p_1)])))])
    else
      some
        (Out.ret
            (V.d (D.agg [D.int IntKind.i64 (10 : Int), D.str [], D.sl 5 kids, D.sl 1 [], D.int IntKind.i64 a])),
          [(0, Ob.val 2 (V.d (D.agg [D.sl 3 l, D.int IntKind.i64 (IntKind.i64.wrap (i + (1 : Int)))])))]) := by kernel_rfl

theorem g55 (n : Nat) (l : List D) (k a : Int) :
    evBody cx T3 n 55 [.d (.int .i64 k), .d (.int .i64 a), .d (.sl 5 l)] [] =
  some (Out.ret (V.d (D.agg [D.int IntKind.i64 k, D.str [], D.sl 5 l, D.sl 1 [], D.int IntKind.i64 a])), []) := by kernel_rfl

theorem g55k (n m : Nat) (l : List D) (k a : Int) :
    evBody cx T3 n 55 [.d (.int .i64 k), .d (.int .i64 a), .sl 5 l 0] [(0, .tok m)] =
  some
    (Out.ret
        (V.agg [V.d (D.int IntKind.i64 k), V.d (D.str []), V.sl 5 l 0, V.d (D.sl 1 []), V.d (D.int IntKind.i64 a)]),
      [(0, Ob.tok m)]) := by kernel_rfl

theorem optK_congr {α R : Type} {o : Option α} {F G : α → Option R} (h : ∀ x, o = some x → F x = G x) : optK o F = optK o G := by
  cases o with
  | none => rfl
  | some x => exact h x rfl
theorem optK_now {α R : Type} {x : α} {F : α → Option R} : optK (some x) F = F x := rfl
theorem cond_congr {R : Type} {c : Bool} {a b a' b' : Option R} (h : c = true → a = a') (h' : c = false → b = b') : (bif c then a else b) = bif c then a' else b' := by
  cases c
  · exact h' rfl
  · exact h rfl
theorem must_congr {R : Type} {c : Bool} {a a' : Option R} (h : a = a') : must c a = must c a' := by rw [h]
theorem c_not {R : Type} {c : Bool} {a b : Option R} : (bif !c then a else b) = bif c then b else a := by cases c <;> rfl
theorem c_or {R : Type} {c d : Bool} {a b : Option R} : (bif c || d then a else b) = bif c then a else bif d then a else b := by cases c <;> rfl
theorem short_eq2 (l : List D) (x : D) : decide (l.length + [x].length ≤ 4294967296) = Sp.short l := by
  unfold Sp.short
  simp only [List.length_singleton]
  exact decide_eq_decide.2 (by omega)
theorem t_names (k : Nat) (l : List D) (i : Int) : (Sp.tbl k).names l i = Sp.names k l i := rfl
theorem t_face (k : Nat) (l : List D) (i : Int) : (Sp.tbl k).face l i = Sp.face k l i := rfl
theorem t_term (k : Nat) (l : List D) (i v : Int) : (Sp.tbl k).term l i v = Sp.term k l i v := rfl
theorem t_after (k : Nat) (l : List D) (i v : Int) (t : Tr) : (Sp.tbl k).after l i v t = Sp.after k l i v t := rfl
theorem t_atom (k : Nat) (l : List D) (i v : Int) : (Sp.tbl k).atom l i v = Sp.atom k l i v := rfl
theorem t_box (k : Nat) (l : List D) (i v : Int) : (Sp.tbl k).box l i v = Sp.box k l i v := rfl
theorem t_join (k : Nat) (l : List D) (i v : Int) : (Sp.tbl k).join l i v = Sp.join k l i v := rfl
theorem t_meet (k : Nat) (l : List D) (i v : Int) : (Sp.tbl k).meet l i v = Sp.meet k l i v := rfl
theorem t_dim (k : Nat) (l : List D) (i v : Int) : (Sp.tbl k).dim l i v = Sp.dim k l i v := rfl

theorem s25 (n k : Nat) (l : List D) (i v : Int) : evBody cx (T4 k) n 25 [.ptr 0 0, .d (.int .i64 v)] (rdSt l i) = prGo (Sp.termG (Sp.tbl k) l i v) fun o j => some (o, rdSt l j) := by
  rw [g25]
  unfold prGo Sp.termG Sp.callN Sp.want Sp.call
  simp only [optK_optK, optK_cond, optK_must, optK_now, t_names, t_face, t_term, t_after, t_atom, t_box, t_join, t_meet, t_dim, c_not, c_or, decide_true, Bool.true_and, short_eq2]
  cases hp : Sp.tok l i with
  | none => first | rfl | (simp only [optK]; done) | (simp only [optK]; cases decide (200 < v) <;> rfl)
  | some p =>
    simp only [hp, optK_now]
    repeat' (first | (with_reducible refine optK_congr fun x hx => ?_; try simp only [hx, optK_now]) | (with_reducible refine cond_congr (fun h => ?_) (fun h => ?_) <;> try simp only [h, cond_true, cond_false, optK_now]) | (with_reducible refine must_congr ?_) | rfl)

theorem s56 (n k : Nat) (l : List D) (i v : Int) : evBody cx (T4 k) n 56 [.ptr 0 0, .d (.int .i64 v)] (rdSt l i) = prGo (Sp.atomG (Sp.tbl k) l i v) fun o j => some (o, rdSt l j) := by
  rw [g56]
  unfold prGo Sp.atomG Sp.want Sp.call
  simp only [optK_optK, optK_cond, optK_must, optK_now, t_names, t_face, t_term, t_after, t_atom, t_box, t_join, t_meet, t_dim, c_not, c_or, decide_true, Bool.true_and, short_eq2]
  cases hp : Sp.tok l i with
  | none => first | rfl | (simp only [optK]; done) | (simp only [optK]; cases decide (200 < v) <;> rfl)
  | some p =>
    simp only [hp, optK_now]
    repeat' (first | (with_reducible refine optK_congr fun x hx => ?_; try simp only [hx, optK_now]) | (with_reducible refine cond_congr (fun h => ?_) (fun h => ?_) <;> try simp only [h, cond_true, cond_false, optK_now]) | (with_reducible refine must_congr ?_) | rfl)

theorem s80 (n k : Nat) (l : List D) (i v : Int) : evBody cx (T4 k) n 80 [.ptr 0 0, .d (.int .i64 v)] (rdSt l i) = prGo (Sp.dimG (Sp.tbl k) l i v) fun o j => some (o, rdSt l j) := by
  rw [g80]
  unfold prGo Sp.dimG Sp.want Sp.call
  simp only [optK_optK, optK_cond, optK_must, optK_now, t_names, t_face, t_term, t_after, t_atom, t_box, t_join, t_meet, t_dim, c_not, c_or, decide_true, Bool.true_and, short_eq2]
  cases hp : Sp.tok l i with
  | none => first | rfl | (simp only [optK]; done) | (simp only [optK]; cases decide (200 < v) <;> rfl)
  | some p =>
    simp only [hp, optK_now]
    repeat' (first | (with_reducible refine optK_congr fun x hx => ?_; try simp only [hx, optK_now]) | (with_reducible refine cond_congr (fun h => ?_) (fun h => ?_) <;> try simp only [h, cond_true, cond_false, optK_now]) | (with_reducible refine must_congr ?_) | rfl)

theorem s28 (n k : Nat) (l : List D) (i : Int) : evBody cx (T4 k) n 28 [.ptr 0 0] (rdSt l i) = prGo (Sp.declG (Sp.tbl k) l i) fun o j => some (o, rdSt l j) := by
  rw [g28]
  unfold prGo Sp.declG Sp.name Sp.want Sp.call
  simp only [optK_optK, optK_cond, optK_must, optK_now, t_names, t_face, t_term, t_after, t_atom, t_box, t_join, t_meet, t_dim, c_not, c_or, decide_true, Bool.true_and, short_eq2]
  cases hp : Sp.tok l i with
  | none => first | rfl | (simp only [optK]; done) | (simp only [optK]; cases decide (200 < v) <;> rfl)
  | some p =>
    simp only [hp, optK_now]
    repeat' (first | (with_reducible refine optK_congr fun x hx => ?_; try simp only [hx, optK_now]) | (with_reducible refine cond_congr (fun h => ?_) (fun h => ?_) <;> try simp only [h, cond_true, cond_false, optK_now]) | (with_reducible refine must_congr ?_) | rfl)


theorem u101 (n k : Nat) (l : List D) (v : Int) : ∀ (r : Nat) (i : Int) (t u : Tr), LP cx (T4 k) n 101 1 2 r [(0, V.ptr 0 0), (1, V.d (D.int IntKind.i64 v)), (4, V.ptr 5 0), (5, V.ptr 6 0)] [(0, Ob.val 2 (V.d (D.agg [D.sl 3 l, D.int IntKind.i64 i]))), (5, Ob.val 5 (V.d (trD u))), (6, Ob.val 5 (V.d (trD t)))] (AK cx (T4 k) n 101 1 2 (EK cx 101 1)) = prGo (Sp.joinL (Sp.tbl k) r l i v t) fun o j => some (o, rdSt l j)
  | 0, i, t, u => rfl
  | r + 1, i, t, u => by
    rw [h101]
    unfold prGo Sp.joinL
    simp only [Sp.call]
    simp only [optK_optK, optK_cond, optK_must, optK_now, t_names, t_face, t_term, t_after, t_atom, t_box, t_join, t_meet, t_dim, c_not, c_or, decide_true, Bool.true_and, short_eq2]
    repeat' (first | (exact u101 n k l v r _ ⟨14, [], [trD t, trD (Sp.trOf _)], [], t.pl⟩ u) | (with_reducible refine optK_congr fun x hx => ?_; try simp only [hx, optK_now]) | (with_reducible refine cond_congr (fun h => ?_) (fun h => ?_) <;> try simp only [h, cond_true, cond_false, optK_now]) | (with_reducible refine must_congr ?_) | rfl)

theorem u110 (n k : Nat) (l : List D) (v : Int) : ∀ (r : Nat) (i : Int) (t u : Tr), LP cx (T4 k) n 110 1 2 r [(0, V.ptr 0 0), (1, V.d (D.int IntKind.i64 v)), (4, V.ptr 5 0), (5, V.ptr 6 0)] [(0, Ob.val 2 (V.d (D.agg [D.sl 3 l, D.int IntKind.i64 i]))), (5, Ob.val 5 (V.d (trD u))), (6, Ob.val 5 (V.d (trD t)))] (AK cx (T4 k) n 110 1 2 (EK cx 110 1)) = prGo (Sp.meetL (Sp.tbl k) r l i v t) fun o j => some (o, rdSt l j)
  | 0, i, t, u => rfl
  | r + 1, i, t, u => by
    rw [h110]
    unfold prGo Sp.meetL
    simp only [Sp.call]
    simp only [optK_optK, optK_cond, optK_must, optK_now, t_names, t_face, t_term, t_after, t_atom, t_box, t_join, t_meet, t_dim, c_not, c_or, decide_true, Bool.true_and, short_eq2]
    repeat' (first | (exact u110 n k l v r _ ⟨15, [], [trD t, trD (Sp.trOf _)], [], t.pl⟩ u) | (with_reducible refine optK_congr fun x hx => ?_; try simp only [hx, optK_now]) | (with_reducible refine cond_congr (fun h => ?_) (fun h => ?_) <;> try simp only [h, cond_true, cond_false, optK_now]) | (with_reducible refine must_congr ?_) | rfl)

theorem u54 (n k : Nat) (l : List D) (v : Int) : ∀ (r : Nat) (i : Int) (t u : Tr), LP cx (T4 k) n 54 1 6 r [(0, V.ptr 0 0), (1, V.d (D.int IntKind.i64 v)), (5, V.ptr 6 0), (6, V.ptr 7 0)] [(0, Ob.val 2 (V.d (D.agg [D.sl 3 l, D.int IntKind.i64 i]))), (6, Ob.val 5 (V.d (trD t))), (7, Ob.val 5 (V.d (trD u)))] (AK cx (T4 k) n 54 1 6 (EK cx 54 1)) = prGo (Sp.afterG (Sp.tbl k) r l i v t) fun o j => some (o, rdSt l j)
  | 0, i, t, u => rfl
  | r + 1, i, t, u => by
    rw [h54]
    unfold prGo Sp.afterG
    simp only [Sp.call]
    simp only [optK_optK, optK_cond, optK_must, optK_now, t_names, t_face, t_term, t_after, t_atom, t_box, t_join, t_meet, t_dim, c_not, c_or, decide_true, Bool.true_and, short_eq2]
    repeat' (first | (exact u54 n k l v r _ ⟨7, [], [trD t, trD (Sp.trOf _)], [], t.pl⟩ u) | (exact u54 n k l v r _ ⟨6, [], [trD t, trD (Sp.trOf _)], [], t.pl⟩ u) | (with_reducible refine optK_congr fun x hx => ?_; try simp only [hx, optK_now]) | (with_reducible refine cond_congr (fun h => ?_) (fun h => ?_) <;> try simp only [h, cond_true, cond_false, optK_now]) | (with_reducible refine must_congr ?_) | rfl)


theorem u49 (n k : Nat) (l : List D)  : ∀ (r : Nat) (i : Int) (ns : List D), LP cx (T4 k) n 49 1 2 r [(0, V.ptr 0 0), (3, V.sl 1 ns 7)] [(0, Ob.val 2 (V.d (D.agg [D.sl 3 l, D.int IntKind.i64 i]))), (7, Ob.tok ns.length)] (AK cx (T4 k) n 49 1 2 (EK cx 49 1)) = optK (Sp.namesL r l i ns) fun p => bif Sp.okN p then some (.ret (.d (.sl 1 (Sp.lN p))), rdSt l (Sp.nxtN p)) else some (.pan (wrongV (Sp.bAtN p) (Sp.bEN p)), rdSt l (Sp.nxtN p))
  | 0, _, _ => rfl
  | r + 1, i, ns => by
    rw [h49]
    skip
    simp only [Sp.namesL]
    simp only [optK_optK, optK_cond, optK_must, optK_now, t_names, t_face, t_term, t_after, t_atom, t_box, t_join, t_meet, t_dim, c_not, c_or, decide_true, Bool.true_and, short_eq2]
    try simp only [← List.length_append]
    repeat' (first | (exact u49 n k l r _ _) | (with_reducible refine optK_congr fun x hx => ?_; try simp only [hx, optK_now]) | (with_reducible refine cond_congr (fun h => ?_) (fun h => ?_) <;> try simp only [h, cond_true, cond_false, optK_now]) | (with_reducible refine must_congr ?_) | rfl)

theorem u102 (n k : Nat) (l : List D) (a : Int) (u : Tr) : ∀ (r : Nat) (i : Int) (kids : List D), LP cx (T4 k) n 102 1 5 r [(0, V.ptr 0 0), (2, V.ptr 3 0), (3, V.ptr 4 0)] [(0, Ob.val 2 (V.d (D.agg [D.sl 3 l, D.int IntKind.i64 i]))), (3, Ob.val 5 (V.d (trD u))), (4, Ob.val 5 (V.agg [V.d (D.int IntKind.i64 (12 : Int)), V.d (D.str []), V.sl 5 kids 10, V.d (D.sl 1 []), V.d (D.int IntKind.i64 a)])), (10, Ob.tok kids.length)] (AK cx (T4 k) n 102 1 5 (EK cx 102 1)) = prGo (Sp.faceL r l i kids a) fun o j => some (o, rdSt l j)
  | 0, _, _ => rfl
  | r + 1, i, kids => by
    rw [h102]
    unfold prGo
    simp only [Sp.faceL, Sp.name, Sp.want, Sp.call]
    simp only [optK_optK, optK_cond, optK_must, optK_now, t_names, t_face, t_term, t_after, t_atom, t_box, t_join, t_meet, t_dim, c_not, c_or, decide_true, Bool.true_and, short_eq2]
    try simp only [← List.length_append]
    repeat' (first | (exact u102 n k l a u r _ _) | (with_reducible refine optK_congr fun x hx => ?_; try simp only [hx, optK_now]) | (with_reducible refine cond_congr (fun h => ?_) (fun h => ?_) <;> try simp only [h, cond_true, cond_false, optK_now]) | (with_reducible refine must_congr ?_) | rfl)

theorem u81 (n k : Nat) (l : List D) (v a : Int) (u : Tr) : ∀ (r : Nat) (i : Int) (kids : List D), LP cx (T4 k) n 81 1 2 r [(0, V.ptr 0 0), (1, V.d (D.int IntKind.i64 v)), (4, V.ptr 5 0), (5, V.ptr 6 0)] [(0, Ob.val 2 (V.d (D.agg [D.sl 3 l, D.int IntKind.i64 i]))), (5, Ob.val 5 (V.d (trD u))), (6, Ob.val 5 (V.agg [V.d (D.int IntKind.i64 (10 : Int)), V.d (D.str []), V.sl 5 kids 11, V.d (D.sl 1 []), V.d (D.int IntKind.i64 a)])), (11, Ob.tok kids.length)] (AK cx (T4 k) n 81 1 2 (EK cx 81 1)) = prGo (Sp.boxL (Sp.tbl k) r l i v kids a) fun o j => some (o, rdSt l j)
  | 0, _, _ => rfl
  | r + 1, i, kids => by
    rw [h81]
    unfold prGo
    simp only [Sp.boxL, Sp.comma, Sp.want, Sp.call]
    simp only [optK_optK, optK_cond, optK_must, optK_now, t_names, t_face, t_term, t_after, t_atom, t_box, t_join, t_meet, t_dim, c_not, c_or, decide_true, Bool.true_and, short_eq2]
    try simp only [← List.length_append]
    repeat' (first | (exact u81 n k l v a u r _ _) | (with_reducible refine optK_congr fun x hx => ?_; try simp only [hx, optK_now]) | (with_reducible refine cond_congr (fun h => ?_) (fun h => ?_) <;> try simp only [h, cond_true, cond_false, optK_now]) | (with_reducible refine must_congr ?_) | rfl)


theorem s101 (n k : Nat) (l : List D) (i v : Int) : evBody cx (T4 k) n 101 [.ptr 0 0, .d (.int .i64 v)] (rdSt l i) = prGo (Sp.joinG (Sp.tbl k) n l i v) fun o j => some (o, rdSt l j) := by
  rw [g101]
  unfold prGo Sp.joinG Sp.call
  simp only [optK_optK, optK_cond, optK_must, optK_now, t_names, t_face, t_term, t_after, t_atom, t_box, t_join, t_meet, t_dim, c_not, c_or, decide_true, Bool.true_and, short_eq2]
  repeat' (first | (exact u101 n k l v n _ (Sp.trOf _) ⟨0, [], [], [], 0⟩) | (with_reducible refine optK_congr fun x hx => ?_; try simp only [hx, optK_now]) | (with_reducible refine cond_congr (fun h => ?_) (fun h => ?_) <;> try simp only [h, cond_true, cond_false, optK_now]) | (with_reducible refine must_congr ?_) | rfl)

theorem s110 (n k : Nat) (l : List D) (i v : Int) : evBody cx (T4 k) n 110 [.ptr 0 0, .d (.int .i64 v)] (rdSt l i) = prGo (Sp.meetG (Sp.tbl k) n l i v) fun o j => some (o, rdSt l j) := by
  rw [g110]
  unfold prGo Sp.meetG Sp.call
  simp only [optK_optK, optK_cond, optK_must, optK_now, t_names, t_face, t_term, t_after, t_atom, t_box, t_join, t_meet, t_dim, c_not, c_or, decide_true, Bool.true_and, short_eq2]
  repeat' (first | (exact u110 n k l v n _ (Sp.trOf _) ⟨0, [], [], [], 0⟩) | (with_reducible refine optK_congr fun x hx => ?_; try simp only [hx, optK_now]) | (with_reducible refine cond_congr (fun h => ?_) (fun h => ?_) <;> try simp only [h, cond_true, cond_false, optK_now]) | (with_reducible refine must_congr ?_) | rfl)

theorem s102 (n k : Nat) (l : List D) (i : Int) : evBody cx (T4 k) n 102 [.ptr 0 0] (rdSt l i) = prGo (Sp.faceG n l i) fun o j => some (o, rdSt l j) := by
  rw [g102]
  unfold prGo Sp.faceG
  simp only [optK_optK, optK_cond, optK_must, optK_now, t_names, t_face, t_term, t_after, t_atom, t_box, t_join, t_meet, t_dim, c_not, c_or, decide_true, Bool.true_and, short_eq2]
  repeat' (first | (exact u102 n k l _ ⟨0, [], [], [], 0⟩ n _ _) | (with_reducible refine optK_congr fun x hx => ?_; try simp only [hx, optK_now]) | (with_reducible refine cond_congr (fun h => ?_) (fun h => ?_) <;> try simp only [h, cond_true, cond_false, optK_now]) | (with_reducible refine must_congr ?_) | rfl)

theorem s81 (n k : Nat) (l : List D) (i v : Int) : evBody cx (T4 k) n 81 [.ptr 0 0, .d (.int .i64 v)] (rdSt l i) = prGo (Sp.boxG (Sp.tbl k) n l i v) fun o j => some (o, rdSt l j) := by
  rw [g81]
  unfold prGo Sp.boxG
  simp only [optK_optK, optK_cond, optK_must, optK_now, t_names, t_face, t_term, t_after, t_atom, t_box, t_join, t_meet, t_dim, c_not, c_or, decide_true, Bool.true_and, short_eq2]
  repeat' (first | (exact u81 n k l v _ ⟨0, [], [], [], 0⟩ n _ _) | (with_reducible refine optK_congr fun x hx => ?_; try simp only [hx, optK_now]) | (with_reducible refine cond_congr (fun h => ?_) (fun h => ?_) <;> try simp only [h, cond_true, cond_false, optK_now]) | (with_reducible refine must_congr ?_) | rfl)

theorem s54 (n k : Nat) (l : List D) (i v : Int) (t : Tr) : evBody cx (T4 k) n 54 [.ptr 0 0, .d (.int .i64 v), .d (trD t)] (rdSt l i) = prGo (Sp.afterG (Sp.tbl k) n l i v t) fun o j => some (o, rdSt l j) := by
  rw [g54]
  exact u54 n k l v n i t ⟨0, [], [], [], 0⟩

theorem s49 (n k : Nat) (l : List D) (i : Int) : evBody cx (T4 k) n 49 [.ptr 0 0] (rdSt l i) = optK (Sp.namesG n l i) fun p => bif Sp.okN p then some (.ret (.d (.sl 1 (Sp.lN p))), rdSt l (Sp.nxtN p)) else some (.pan (wrongV (Sp.bAtN p) (Sp.bEN p)), rdSt l (Sp.nxtN p)) := by
  rw [g49]
  unfold Sp.namesG
  simp only [optK_optK, optK_cond, optK_must, optK_now, t_names, t_face, t_term, t_after, t_atom, t_box, t_join, t_meet, t_dim, c_not, c_or, decide_true, Bool.true_and, short_eq2]
  repeat' (first | (exact u49 n k l n _ [_]) | (with_reducible refine optK_congr fun x hx => ?_; try simp only [hx, optK_now]) | (with_reducible refine cond_congr (fun h => ?_) (fun h => ?_) <;> try simp only [h, cond_true, cond_false, optK_now]) | (with_reducible refine must_congr ?_) | rfl)

theorem dec55_some {a : List V} {σ : St} {q : Int × Int × List D × Option Nat} (h : dec55 a σ = some q) : (∃ k p l, q = (k, p, l, none) ∧ a = [.d (.int .i64 k), .d (.int .i64 p), .d (.sl 5 l)] ∧ σ = []) ∨ ∃ k p l m, q = (k, p, l, some m) ∧ a = [.d (.int .i64 k), .d (.int .i64 p), .sl 5 l 0] ∧ σ = [(0, .tok m)] := by
  unfold dec55 at h
  split at h
  · cases h; exact .inl ⟨_, _, _, rfl, rfl, rfl⟩
  · cases h; exact .inr ⟨_, _, _, _, rfl, rfl, rfl⟩
  · cases h

theorem of55_knows : knows cx (of55 T3).S (evLim cx) := by
  intro g args σ r hd h
  simp only [of55] at h
  cases hg : Nat.beq g 55 <;> rw [hg] at h
  · exact T3_knows g args σ r hd h
  · obtain rfl := Nat.eq_of_beq_eq_true hg
    simp only [cond_true] at h
    obtain ⟨q, hq, h⟩ := optK_some h
    refine lim_bodyK T3_knows (N := 0) ?_
    rcases dec55_some hq with ⟨k, p, l, rfl, rfl, rfl⟩ | ⟨k, p, l, m, rfl, rfl, rfl⟩
    · rw [g55]; exact h
    · rw [g55k]; exact h

theorem prGo_none (K : Out → Int → Option R1) : prGo none K = none := rfl

/-- What is said of the great functions is so. -/
theorem T4_knows : ∀ k, knows cx (T4 k).S (evLim cx)
  | 0 => by
    unfold T4
    refine rdr_knows (rdr_knows (rdr_knows (rdr_knows (rdr_knows (rdr_knows (rdr_knows (rdr_knows (rdr_knows of55_knows ?_) ?_) ?_) ?_) ?_) ?_) ?_) ?_) ?_ <;> (intro l i x r a hd h; cases h)
  | k + 1 => by
    have hT := T4_knows k
    unfold T4
    refine rdr_knows (rdr_knows (rdr_knows (rdr_knows (rdr_knows (rdr_knows (rdr_knows (rdr_knows (rdr_knows of55_knows ?_) ?_) ?_) ?_) ?_) ?_) ?_) ?_) ?_
    · intro l i x r a hd h
      rw [dec0_some hd]; refine lim_bodyK hT (N := k) ?_; exact (s49 k k l i).trans h
    · intro l i x r a hd h
      rw [decI_some hd]; refine lim_bodyK hT (N := k) ?_; exact (s80 k k l i x).trans h
    · intro l i x r a hd h
      rw [decI_some hd]; refine lim_bodyK hT (N := k) ?_; exact (s110 k k l i x).trans h
    · intro l i x r a hd h
      rw [decI_some hd]; refine lim_bodyK hT (N := k) ?_; exact (s101 k k l i x).trans h
    · intro l i x r a hd h
      rw [dec0_some hd]; refine lim_bodyK hT (N := k) ?_; exact (s102 k k l i).trans h
    · intro l i x r a hd h
      rw [decI_some hd]; refine lim_bodyK hT (N := k) ?_; exact (s81 k k l i x).trans h
    · intro l i x r a hd h
      rw [decI_some hd]; refine lim_bodyK hT (N := k) ?_; exact (s56 k k l i x).trans h
    · intro l i x r a hd h
      rw [decT_some hd]; refine lim_bodyK hT (N := k) ?_; exact (s54 k k l i x.1 x.2).trans h
    · intro l i x r a hd h
      rw [decI_some hd]; refine lim_bodyK hT (N := k) ?_; exact (s25 k k l i x).trans h

theorem limDecl (k : Nat) (l : List D) (i : Int) {r : R1} (h : prGo (Sp.decl k l i) (fun o j => some (o, rdSt l j)) = some r) : evLim cx 28 [.ptr 0 0] (rdSt l i) = some r :=
  lim_bodyK (T4_knows k) (N := 0) (by rw [s28]; exact h)
theorem limTerm (k : Nat) (l : List D) (i v : Int) {r : R1} (h : prGo (Sp.term k l i v) (fun o j => some (o, rdSt l j)) = some r) : evLim cx 25 [.ptr 0 0, .d (.int .i64 v)] (rdSt l i) = some r := by
  cases k with
  | zero => cases h
  | succ k => exact lim_bodyK (T4_knows k) (N := 0) (by rw [s25]; exact h)

end Go.Vai
end

section
namespace Go.Vai
open Go.Proofs

noncomputable def T5 (k : Nat) : CK R1 := rdr 28 (F28 k) (T4 k)
theorem T5_knows (k : Nat) : knows cx (T5 k).S (evLim cx) := rdr_knows (T4_knows k) fun l i x r a hd h => by
  rw [dec0_some hd]
  exact limDecl k l i h

/-- The declarations that are read; or where that fails, and why. -/
inductive PL where
  | ok (ds : List D) (j : Int)
  | bad (a e j : Int) (ds : List D)
def Sp.okL : PL → Bool | .ok _ _ => true | _ => false
def Sp.dsL : PL → List D | .ok ds _ => ds | .bad _ _ _ ds => ds
def Sp.nxtL : PL → Int | .ok _ j => j | .bad _ _ j _ => j
def Sp.bAtL : PL → Int | .bad a _ _ _ => a | _ => 0
def Sp.bEL : PL → Int | .bad _ e _ _ => e | _ => 0
def Sp.parseL (k : Nat) : Nat → List D → Int → List D → Option PL
  | 0, _, _, _ => none
  | r + 1, l, i, ds => optK (Sp.tok l i) fun p => bif decide (p.1 = 0) then some (.ok ds i)
    else optK (Sp.decl k l i) fun q => bif Sp.okQ q then must (Sp.short ds) (Sp.parseL k r l (Sp.nxt q) (ds ++ [trD (Sp.trOf q)])) else some (.bad (Sp.bAt q) (Sp.bE q) (Sp.nxt q) ds)
def Sp.decls (k : Nat) (l : List D) : Option PL := Sp.parseL k k l 0 []

def rdD (l : List D) (i : Int) : V := .d (.agg [.sl 3 l, .int .i64 i])

/-- The closure that reads a term. -/
def dec24 : List V → St → Option (List D × Int × Int × List UInt8 × Int × Nat × Nat)
  | [.ptr 0 0, .ptr 1 0], [(0, .val 2 (.d (.agg [.sl 3 l, .int .i64 i]))), (1, .val 5 (.agg [.d (.int .i64 z), .d (.str e), .sl 5 [] 2, .sl 1 [] 3, .d (.int .i64 y)])), (2, .tok a), (3, .tok b)] => some (l, i, z, e, y, a, b)
  | _, _ => none
def go24 (k : Nat) (K : Out → St → Option R1) : List D × Int × Int × List UInt8 × Int × Nat × Nat → Option R1
  | (l, i, z, e, y, a, b) => optK (Sp.term k l i 1) fun p => bif Sp.okQ p then K (.ret (.tup [])) [(0, .val 2 (.d (.agg [.sl 3 l, .int .i64 (Sp.nxt p)]))), (1, .val 5 (.d (trD (Sp.trOf p)))), (2, .tok a), (3, .tok b)]
    else K (.pan (wrongV (Sp.bAt p) (Sp.bE p))) [(0, .val 2 (.d (.agg [.sl 3 l, .int .i64 (Sp.nxt p)]))), (1, .val 5 (.agg [.d (.int .i64 z), .d (.str e), .sl 5 [] 2, .sl 1 [] 3, .d (.int .i64 y)])), (2, .tok a), (3, .tok b)]
theorem go24_ok (k : Nat) (K : Out → St → Option R1) (q : List D × Int × Int × List UInt8 × Int × Nat × Nat) : go24 k K q = optP (go24 k (fun o s => some (o, s)) q) K := by
  obtain ⟨l, i, z, e, y, a, b⟩ := q
  show optK _ _ = optP (optK _ _) K
  rw [optP_optK]
  congr 1
  funext p
  rw [optP_cond]
  rfl
/-- The closure that reads declarations. -/
def dec26 : List V → St → Option (List D × Int)
  | [.ptr 0 0, .ptr 1 0], [(0, .val 2 (.d (.agg [.sl 3 l, .int .i64 i]))), (1, .val 1 (.sl 5 [] 2)), (2, .tok 0)] => some (l, i)
  | _, _ => none
def go26 (k : Nat) (K : Out → St → Option R1) : List D × Int → Option R1
  | (l, i) => optK (Sp.parseL k k l i []) fun p => bif Sp.okL p then K (.ret (.tup [])) [(0, .val 2 (.d (.agg [.sl 3 l, .int .i64 (Sp.nxtL p)]))), (1, .val 1 (.sl 5 (Sp.dsL p) 2)), (2, .tok (Sp.dsL p).length)]
    else K (.pan (wrongV (Sp.bAtL p) (Sp.bEL p))) [(0, .val 2 (.d (.agg [.sl 3 l, .int .i64 (Sp.nxtL p)]))), (1, .val 1 (.sl 5 (Sp.dsL p) 2)), (2, .tok (Sp.dsL p).length)]
theorem go26_ok (k : Nat) (K : Out → St → Option R1) (q : List D × Int) : go26 k K q = optP (go26 k (fun o s => some (o, s)) q) K := by
  obtain ⟨l, i⟩ := q
  show optK _ _ = optP (optK _ _) K
  rw [optP_optK]
  congr 1
  funext p
  rw [optP_cond]
  rfl
/-- lex.Scan. -/
def Sp.scL (s : List UInt8) : List D := (Sp.scan s).1
def Sp.scA (s : List UInt8) : Int := (Sp.scan s).2.1
def Sp.scE (s : List UInt8) : Int := (Sp.scan s).2.2
def dec13 : List V → St → Option (List UInt8)
  | [.d (.str s)], [(0, .tok 0)] => some s
  | _, _ => none
def go13 (K : Out → St → Option R1) (s : List UInt8) : Option R1 :=
  bif decide (Sp.scE s = 0) then K (.ret (.tup [.sl 3 (Sp.scL s) 0, .d (.int .i64 (Sp.scA s)), .d (.int .i64 0)])) [(0, .tok (Sp.scL s).length)]
  else K (.ret (.tup [.d (.sl 3 []), .d (.int .i64 (Sp.scA s)), .d (.int .i64 (Sp.scE s))])) [(0, .tok 0)]
theorem go13_ok (K : Out → St → Option R1) (s : List UInt8) : go13 K s = optP (go13 (fun o s => some (o, s)) s) K := by
  unfold go13
  rw [optP_cond]
  rfl

/-- A function with state more, by what it decodes and what it goes on with. -/
def more {α : Type} (f : Nat) (dec : List V → St → Option α) (go : (Out → St → Option R1) → α → Option R1) (ok : ∀ K q, go K q = optP (go (fun o s => some (o, s)) q) K) (S : CK R1) : CK R1 where
  S := fun g args σ => bif Nat.beq g f then optK (dec args σ) fun q => go (fun o s => some (o, s)) q else S.S g args σ
  run := fun g args σ K => bif Nat.beq g f then optK (dec args σ) fun q => go K q else S.run g args σ K
  ok := fun g a σ K => by
    show _ = optP _ K
    rw [optP_cond, optP_optK]
    cases Nat.beq g f
    · exact S.ok g a σ K
    · simp only [cond_true]
      congr 1
      funext q
      exact ok K q
theorem more_knows {α : Type} {f : Nat} {dec : List V → St → Option α} {go : (Out → St → Option R1) → α → Option R1} {ok : ∀ K q, go K q = optP (go (fun o s => some (o, s)) q) K} {S : CK R1} (hS : knows cx S.S (evLim cx))
    (hf : ∀ a σ q r, dec a σ = some q → go (fun o s => some (o, s)) q = some r → evLim cx f a σ = some r) : knows cx (more f dec go ok S).S (evLim cx) := by
  intro g args σ r hd h
  simp only [more] at h
  cases hg : Nat.beq g f <;> rw [hg] at h
  · exact hS g args σ r hd h
  · obtain rfl := Nat.eq_of_beq_eq_true hg
    simp only [cond_true] at h
    obtain ⟨q, hq, h⟩ := optK_some h
    exact hf args σ q r hq h

noncomputable def T6 (k : Nat) : CK R1 := more 13 dec13 go13 go13_ok (more 24 dec24 (go24 k) (go24_ok k) (more 26 dec26 (go26 k) (go26_ok k) (T5 k)))

/-- The end of a function that has put a call off. -/
def ED (cx : Cx) (call : CK (Out × St)) (n f m g : Nat) (cap : List V) : Ex → Fr → St → Option (Out × St) := endD cx (evRecC cx call.S n) f m (resOf cx f) g cap
theorem g24 (n k a b : Nat) (l : List D) (i z y : Int) (e : List UInt8) :
    evBody cx (T5 k) n 24 [.ptr 0 0, .ptr 1 0] [(0, .val 2 (.d (.agg [.sl 3 l, .int .i64 i]))), (1, .val 5 (.agg [.d (.int .i64 z), .d (.str e), .sl 5 [] 2, .sl 1 [] 3, .d (.int .i64 y)])), (2, .tok a), (3, .tok b)] =
  optK (Sp.term k l i (1 : Int)) fun p =>
    bif Sp.okQ p then
      some
        (Out.ret (V.tup []),
          [(0, Ob.val 2 (V.d (D.agg [D.sl 3 l, D.int IntKind.i64 (Sp.nxt p)]))),
            (1,
              Ob.val 5
                (V.d
                  (D.agg
                    [D.int IntKind.i64 (Sp.trOf p).k, D.str (Sp.trOf p).2, D.sl 5 (Sp.trOf p).3, D.sl 1 (Sp.trOf p).4,
                      D.int IntKind.i64 (Sp.trOf p).pl]))),
            (2, Ob.tok a), (3, Ob.tok b)])
    else
      some
        (Out.pan (V.d (D.iface 79 (D.agg [D.int IntKind.i64 (Sp.bAt p), D.int IntKind.i64 (Sp.bE p)]))),
          [(0, Ob.val 2 (V.d (D.agg [D.sl 3 l, D.int IntKind.i64 (Sp.nxt p)]))),
            (1,
              Ob.val 5
                (V.agg
                  [V.d (D.int IntKind.i64 z), V.d (D.str e), V.sl 5 [] 2, V.sl 1 [] 3, V.d (D.int IntKind.i64 y)])),
            (2, Ob.tok a), (3, Ob.tok b)]) := by kernel_rfl

theorem g26 (n k : Nat) (l : List D) (i : Int) :
    evBody cx (T5 k) n 26 [.ptr 0 0, .ptr 1 0] [(0, .val 2 (.d (.agg [.sl 3 l, .int .i64 i]))), (1, .val 1 (.sl 5 [] 2)), (2, .tok 0)] =
  LP cx (T5 k) n 26 3 0 n [(0, V.ptr 0 0), (1, V.ptr 1 0)]
    [(0, Ob.val 2 (V.d (D.agg [D.sl 3 l, D.int IntKind.i64 i]))), (1, Ob.val 1 (V.sl 5 [] 2)), (2, Ob.tok 0)]
    (AK cx (T5 k) n 26 3 0 (EK cx 26 3)) := by kernel_rfl

theorem h26 (n k r : Nat) (l ds : List D) (i : Int) :
    LP cx (T5 k) n 26 3 0 (r + 1) [(0, V.ptr 0 0), (1, V.ptr 1 0)] [(0, Ob.val 2 (V.d (D.agg [D.sl 3 l, D.int IntKind.i64 i]))), (1, Ob.val 1 (V.sl 5 ds 2)), (2, Ob.tok ds.length)] (AK cx (T5 k) n 26 3 0 (EK cx 26 3)) =
  optK (Sp.tok l i) fun p =>
    bif !decide (p.fst = (0 : Int)) then
      optK (Sp.decl k l i) fun p =>
        bif Sp.okQ p then
          must
            (decide (ds.length = ds.length) && decide ((↑ds.length : Int) = (↑ds.length : Int)) &&
                  decide (ds.length + 1 ≤ 4294967296) &&
                true &&
              true)
            (LP cx (T5 k) n 26 3 0 r [(0, V.ptr 0 0), (1, V.ptr 1 0)]
              [(0, Ob.val 2 (V.d (D.agg [D.sl 3 l, D.int IntKind.i64 (Sp.nxt p)]))),
                (1,
                  Ob.val 1
                    (V.sl 5
                      (ds ++
                        [D.agg
                            [D.int IntKind.i64 (Sp.trOf p).k, D.str (Sp.trOf p).2, D.sl 5 (Sp.trOf p).3,
                              D.sl 1 (Sp.trOf p).4, D.int IntKind.i64 (Sp.trOf p).pl]])
                      2)),
                (2, Ob.tok (ds.length + 1))]
              (AK cx (T5 k) n 26 3 0 (EK cx 26 3)))
        else
          some
            (Out.pan (V.d (D.iface 79 (D.agg [D.int IntKind.i64 (Sp.bAt p), D.int IntKind.i64 (Sp.bE p)]))),
              [(0, Ob.val 2 (V.d (D.agg [D.sl 3 l, D.int IntKind.i64 (Sp.nxt p)]))), (1, Ob.val 1 (V.sl 5 ds 2)),
                (2, Ob.tok ds.length)])
    else
      some
        (Out.ret (V.tup []),
          [(0, Ob.val 2 (V.d (D.agg [D.sl 3 l, D.int IntKind.i64 i]))), (1, Ob.val 1 (V.sl 5 ds 2)),
            (2, Ob.tok ds.length)]) := by kernel_rfl

theorem g23a (n k a b : Nat) (s e : List UInt8) (z y : Int) :
    evBody cx (T6 k) n 23 [V.d (D.str s), V.func 24 [V.ptr 0 0]] [(0, Ob.val 5 (V.agg [V.d (D.int IntKind.i64 z), V.d (D.str e), V.sl 5 [] 1, V.sl 1 [] 2, V.d (D.int IntKind.i64 y)])), (1, Ob.tok a), (2, Ob.tok b)] =
  must (decide (s.length ≤ big))
    (bif decide (Sp.scE s = 0) then
      must
        (decide (0 ≤ IntKind.i64.wrap ((↑(Sp.scL s).length : Int) - (1 : Int))) &&
          decide (IntKind.i64.wrap ((↑(Sp.scL s).length : Int) - (1 : Int)) < (↑(Sp.scL s).length : Int)))
        (nthD (Sp.scL s) (IntKind.i64.wrap ((↑(Sp.scL s).length : Int) - (1 : Int))).toNat fun y_1 =>
          OPS cx (T6 k) n 23 3 5 5
            [(24, V.eptr y_1 0),
              (23, V.d (D.int IntKind.i64 (IntKind.i64.wrap ((↑(Sp.scL s).length : Int) - (1 : Int))))),
              (22, V.d (D.int IntKind.i64 (↑(Sp.scL s).length : Int))), (21, V.sl 3 (Sp.scL s) 14),
              (20, V.sl 3 (Sp.scL s) 14), (19, V.func 45 [V.ptr 7 0, V.ptr 8 0]), (16, V.d (D.bool false)),
              (15, V.d (D.int IntKind.i64 (0 : Int))), (6, V.sl 3 (Sp.scL s) 14),
              (14, V.d (D.int IntKind.i64 (0 : Int))), (13, V.d (D.int IntKind.i64 (Sp.scA s))),
              (12, V.sl 3 (Sp.scL s) 14),
              (9,
                V.tup
                  [V.sl 3 (Sp.scL s) 14, V.d (D.int IntKind.i64 (Sp.scA s)), V.d (D.int IntKind.i64 (0 : Int))]),
              (11,
                V.tup
                  [V.sl 3 (Sp.scL s) 14, V.d (D.int IntKind.i64 (Sp.scA s)), V.d (D.int IntKind.i64 (0 : Int))]),
              (10, V.d (D.str s)), (5, V.ptr 8 0), (4, V.ptr 7 0), (0, V.d (D.str s)), (1, V.func 24 [V.ptr 0 0])]
            [(0,
                Ob.val 5
                  (V.agg
                    [V.d (D.int IntKind.i64 z), V.d (D.str e), V.sl 5 [] 1, V.sl 1 [] 2, V.d (D.int IntKind.i64 y)])),
              (1, Ob.tok a), (2, Ob.tok b), (7, Ob.val 1 (V.d (D.int IntKind.i64 (Sp.scA s)))),
              (8, Ob.val 1 (V.d (D.int IntKind.i64 (0 : Int)))), (14, Ob.tok (Sp.scL s).length)]
            (AR cx (T6 k) n 23 3 5 (ED cx (T6 k) n 23 3 45 [V.ptr 7 0, V.ptr 8 0])))
    else
      bif !decide (Sp.scE s = (0 : Int)) then
        some
          (Out.ret (V.tup [V.d (D.int IntKind.i64 (Sp.scA s)), V.d (D.int IntKind.i64 (Sp.scE s))]),
            [(0,
                Ob.val 5
                  (V.agg
                    [V.d (D.int IntKind.i64 z), V.d (D.str e), V.sl 5 [] 1, V.sl 1 [] 2, V.d (D.int IntKind.i64 y)])),
              (1, Ob.tok a), (2, Ob.tok b)])
      else none) := by kernel_rfl

theorem g23b (n k : Nat) (s : List UInt8) :
    evBody cx (T6 k) n 23 [V.d (D.str s), V.func 26 [V.ptr 0 0]] [(0, Ob.val 1 (V.sl 5 [] 1)), (1, Ob.tok 0)] =
  must (decide (s.length ≤ big))
    (bif decide (Sp.scE s = 0) then
      must
        (decide (0 ≤ IntKind.i64.wrap ((↑(Sp.scL s).length : Int) - (1 : Int))) &&
          decide (IntKind.i64.wrap ((↑(Sp.scL s).length : Int) - (1 : Int)) < (↑(Sp.scL s).length : Int)))
        (nthD (Sp.scL s) (IntKind.i64.wrap ((↑(Sp.scL s).length : Int) - (1 : Int))).toNat fun y =>
          OPS cx (T6 k) n 23 2 5 5
            [(24, V.eptr y 0),
              (23, V.d (D.int IntKind.i64 (IntKind.i64.wrap ((↑(Sp.scL s).length : Int) - (1 : Int))))),
              (22, V.d (D.int IntKind.i64 (↑(Sp.scL s).length : Int))), (21, V.sl 3 (Sp.scL s) 13),
              (20, V.sl 3 (Sp.scL s) 13), (19, V.func 45 [V.ptr 6 0, V.ptr 7 0]), (16, V.d (D.bool false)),
              (15, V.d (D.int IntKind.i64 (0 : Int))), (6, V.sl 3 (Sp.scL s) 13),
              (14, V.d (D.int IntKind.i64 (0 : Int))), (13, V.d (D.int IntKind.i64 (Sp.scA s))),
              (12, V.sl 3 (Sp.scL s) 13),
              (9,
                V.tup
                  [V.sl 3 (Sp.scL s) 13, V.d (D.int IntKind.i64 (Sp.scA s)), V.d (D.int IntKind.i64 (0 : Int))]),
              (11,
                V.tup
                  [V.sl 3 (Sp.scL s) 13, V.d (D.int IntKind.i64 (Sp.scA s)), V.d (D.int IntKind.i64 (0 : Int))]),
              (10, V.d (D.str s)), (5, V.ptr 7 0), (4, V.ptr 6 0), (0, V.d (D.str s)), (1, V.func 26 [V.ptr 0 0])]
            [(0, Ob.val 1 (V.sl 5 [] 1)), (1, Ob.tok 0), (6, Ob.val 1 (V.d (D.int IntKind.i64 (Sp.scA s)))),
              (7, Ob.val 1 (V.d (D.int IntKind.i64 (0 : Int)))), (13, Ob.tok (Sp.scL s).length)]
            (AR cx (T6 k) n 23 2 5 (ED cx (T6 k) n 23 2 45 [V.ptr 6 0, V.ptr 7 0])))
    else
      bif !decide (Sp.scE s = (0 : Int)) then
        some
          (Out.ret (V.tup [V.d (D.int IntKind.i64 (Sp.scA s)), V.d (D.int IntKind.i64 (Sp.scE s))]),
            [(0, Ob.val 1 (V.sl 5 [] 1)), (1, Ob.tok 0)])
      else none) := by kernel_rfl

theorem i23a (n k a b : Nat) (s e : List UInt8) (z y : Int) (L : List D) (q : Int) (t : List UInt8) (c : Int) :
    OPS cx (T6 k) n 23 3 5 5 [(24, V.eptr (tokD q t c) 0), (23, V.d (D.int IntKind.i64 (IntKind.i64.wrap ((↑L.length : Int) - (1 : Int))))), (22, V.d (D.int IntKind.i64 (↑L.length : Int))), (21, V.sl 3 L 14), (20, V.sl 3 L 14), (19, V.func 45 [V.ptr 7 0, V.ptr 8 0]), (16, V.d (D.bool false)), (15, V.d (D.int IntKind.i64 (0 : Int))), (6, V.sl 3 L 14), (14, V.d (D.int IntKind.i64 (0 : Int))), (13, V.d (D.int IntKind.i64 (Sp.scA s))), (12, V.sl 3 L 14), (9, V.tup [V.sl 3 L 14, V.d (D.int IntKind.i64 (Sp.scA s)), V.d (D.int IntKind.i64 (0 : Int))]), (11, V.tup [V.sl 3 L 14, V.d (D.int IntKind.i64 (Sp.scA s)), V.d (D.int IntKind.i64 (0 : Int))]), (10, V.d (D.str s)), (5, V.ptr 8 0), (4, V.ptr 7 0), (0, V.d (D.str s)), (1, V.func 24 [V.ptr 0 0])] [(0, Ob.val 5 (V.agg [V.d (D.int IntKind.i64 z), V.d (D.str e), V.sl 5 [] 1, V.sl 1 [] 2, V.d (D.int IntKind.i64 y)])), (1, Ob.tok a), (2, Ob.tok b), (7, Ob.val 1 (V.d (D.int IntKind.i64 (Sp.scA s)))), (8, Ob.val 1 (V.d (D.int IntKind.i64 (0 : Int)))), (14, Ob.tok L.length)] (AR cx (T6 k) n 23 3 5 (ED cx (T6 k) n 23 3 45 [V.ptr 7 0, V.ptr 8 0])) =
  must
    (decide (L.length = L.length) &&
      decide
        (L.length +
            [D.agg [D.int IntKind.i64 q, D.str t, D.int IntKind.i64 c],
                D.agg [D.int IntKind.i64 q, D.str t, D.int IntKind.i64 c]].length ≤
          4294967296))
    (optK
      (Sp.term k
        (L ++
          [D.agg [D.int IntKind.i64 q, D.str t, D.int IntKind.i64 c],
            D.agg [D.int IntKind.i64 q, D.str t, D.int IntKind.i64 c]])
        (0 : Int) 1)
      fun p =>
      bif Sp.okQ p then
        optK
          (Sp.tok
            (L ++
              [D.agg [D.int IntKind.i64 q, D.str t, D.int IntKind.i64 c],
                D.agg [D.int IntKind.i64 q, D.str t, D.int IntKind.i64 c]])
            (Sp.nxt p))
          fun p_1 =>
          bif !decide (p_1.fst = (0 : Int)) then
            optK
              (Sp.tok
                (L ++
                  [D.agg [D.int IntKind.i64 q, D.str t, D.int IntKind.i64 c],
                    D.agg [D.int IntKind.i64 q, D.str t, D.int IntKind.i64 c]])
                (Sp.nxt p))
              fun p_2 =>
              some
                (Out.ret (V.tup [V.d (D.int IntKind.i64 p_2.snd.snd), V.d (D.int IntKind.i64 (61 : Int))]),
                  [(0,
                      Ob.val 5
                        (V.d
                          (D.agg
                            [D.int IntKind.i64 (Sp.trOf p).k, D.str (Sp.trOf p).2, D.sl 5 (Sp.trOf p).3,
                              D.sl 1 (Sp.trOf p).4, D.int IntKind.i64 (Sp.trOf p).pl]))),
                    (1, Ob.tok a), (2, Ob.tok b)])
          else
            some
              (Out.ret (V.tup [V.d (D.int IntKind.i64 (0 : Int)), V.d (D.int IntKind.i64 (0 : Int))]),
                [(0,
                    Ob.val 5
                      (V.d
                        (D.agg
                          [D.int IntKind.i64 (Sp.trOf p).k, D.str (Sp.trOf p).2, D.sl 5 (Sp.trOf p).3,
                            D.sl 1 (Sp.trOf p).4, D.int IntKind.i64 (Sp.trOf p).pl]))),
                  (1, Ob.tok a), (2, Ob.tok b)])
      else
        some
          (Out.ret (V.tup [V.d (D.int IntKind.i64 (Sp.bAt p)), V.d (D.int IntKind.i64 (Sp.bE p))]),
            [(0,
                Ob.val 5
                  (V.agg
                    [V.d (D.int IntKind.i64 z), V.d (D.str e), V.sl 5 [] 1, V.sl 1 [] 2, V.d (D.int IntKind.i64 y)])),
              (1, Ob.tok a), (2, Ob.tok b)])) := by kernel_rfl

theorem i23b (n k : Nat) (s : List UInt8) (L : List D) (q : Int) (t : List UInt8) (c : Int) :
    OPS cx (T6 k) n 23 2 5 5 [(24, V.eptr (tokD q t c) 0), (23, V.d (D.int IntKind.i64 (IntKind.i64.wrap ((↑L.length : Int) - (1 : Int))))), (22, V.d (D.int IntKind.i64 (↑L.length : Int))), (21, V.sl 3 L 13), (20, V.sl 3 L 13), (19, V.func 45 [V.ptr 6 0, V.ptr 7 0]), (16, V.d (D.bool false)), (15, V.d (D.int IntKind.i64 (0 : Int))), (6, V.sl 3 L 13), (14, V.d (D.int IntKind.i64 (0 : Int))), (13, V.d (D.int IntKind.i64 (Sp.scA s))), (12, V.sl 3 L 13), (9, V.tup [V.sl 3 L 13, V.d (D.int IntKind.i64 (Sp.scA s)), V.d (D.int IntKind.i64 (0 : Int))]), (11, V.tup [V.sl 3 L 13, V.d (D.int IntKind.i64 (Sp.scA s)), V.d (D.int IntKind.i64 (0 : Int))]), (10, V.d (D.str s)), (5, V.ptr 7 0), (4, V.ptr 6 0), (0, V.d (D.str s)), (1, V.func 26 [V.ptr 0 0])] [(0, Ob.val 1 (V.sl 5 [] 1)), (1, Ob.tok 0), (6, Ob.val 1 (V.d (D.int IntKind.i64 (Sp.scA s)))), (7, Ob.val 1 (V.d (D.int IntKind.i64 (0 : Int)))), (13, Ob.tok L.length)] (AR cx (T6 k) n 23 2 5 (ED cx (T6 k) n 23 2 45 [V.ptr 6 0, V.ptr 7 0])) =
  must
    (decide (L.length = L.length) &&
      decide
        (L.length +
            [D.agg [D.int IntKind.i64 q, D.str t, D.int IntKind.i64 c],
                D.agg [D.int IntKind.i64 q, D.str t, D.int IntKind.i64 c]].length ≤
          4294967296))
    (optK
      (Sp.parseL k k
        (L ++
          [D.agg [D.int IntKind.i64 q, D.str t, D.int IntKind.i64 c],
            D.agg [D.int IntKind.i64 q, D.str t, D.int IntKind.i64 c]])
        (0 : Int) [])
      fun p =>
      bif Sp.okL p then
        optK
          (Sp.tok
            (L ++
              [D.agg [D.int IntKind.i64 q, D.str t, D.int IntKind.i64 c],
                D.agg [D.int IntKind.i64 q, D.str t, D.int IntKind.i64 c]])
            (Sp.nxtL p))
          fun p_1 =>
          bif !decide (p_1.fst = (0 : Int)) then
            optK
              (Sp.tok
                (L ++
                  [D.agg [D.int IntKind.i64 q, D.str t, D.int IntKind.i64 c],
                    D.agg [D.int IntKind.i64 q, D.str t, D.int IntKind.i64 c]])
                (Sp.nxtL p))
              fun p_2 =>
              some
                (Out.ret (V.tup [V.d (D.int IntKind.i64 p_2.snd.snd), V.d (D.int IntKind.i64 (61 : Int))]),
                  [(0, Ob.val 1 (V.sl 5 (Sp.dsL p) 1)), (1, Ob.tok (Sp.dsL p).length)])
          else
            some
              (Out.ret (V.tup [V.d (D.int IntKind.i64 (0 : Int)), V.d (D.int IntKind.i64 (0 : Int))]),
                [(0, Ob.val 1 (V.sl 5 (Sp.dsL p) 1)), (1, Ob.tok (Sp.dsL p).length)])
      else
        some
          (Out.ret (V.tup [V.d (D.int IntKind.i64 (Sp.bAtL p)), V.d (D.int IntKind.i64 (Sp.bEL p))]),
            [(0, Ob.val 1 (V.sl 5 (Sp.dsL p) 1)), (1, Ob.tok (Sp.dsL p).length)])) := by kernel_rfl


theorem short_eq3 (l : List D) : decide (l.length + 1 ≤ 4294967296) = Sp.short l := by
  unfold Sp.short
  exact decide_eq_decide.2 (by omega)

theorem u26 (n k : Nat) (l : List D) : ∀ (r : Nat) (i : Int) (ds : List D), LP cx (T5 k) n 26 3 0 r [(0, V.ptr 0 0), (1, V.ptr 1 0)] [(0, Ob.val 2 (V.d (D.agg [D.sl 3 l, D.int IntKind.i64 i]))), (1, Ob.val 1 (V.sl 5 ds 2)), (2, Ob.tok ds.length)] (AK cx (T5 k) n 26 3 0 (EK cx 26 3)) =
    optK (Sp.parseL k r l i ds) fun p => bif Sp.okL p then some (.ret (.tup []), [(0, .val 2 (.d (.agg [.sl 3 l, .int .i64 (Sp.nxtL p)]))), (1, .val 1 (.sl 5 (Sp.dsL p) 2)), (2, .tok (Sp.dsL p).length)])
    else some (.pan (wrongV (Sp.bAtL p) (Sp.bEL p)), [(0, .val 2 (.d (.agg [.sl 3 l, .int .i64 (Sp.nxtL p)]))), (1, .val 1 (.sl 5 (Sp.dsL p) 2)), (2, .tok (Sp.dsL p).length)])
  | 0, _, _ => rfl
  | r + 1, i, ds => by
    rw [h26]
    simp only [Sp.parseL, decide_true, Bool.true_and, Bool.and_true, short_eq3, c_not, optK_optK, optK_cond, optK_must, optK_now]
    cases hp : Sp.tok l i with
    | none => rfl
    | some p =>
      simp only [optK_now]
      cases decide (p.1 = 0) with
      | true => rfl
      | false =>
        simp only [cond_false]
        refine optK_congr fun q hq => ?_
        cases Sp.okQ q with
        | false => rfl
        | true =>
          simp only [cond_true]
          refine must_congr ?_
          have e := u26 n k l r (Sp.nxt q) (ds ++ [trD (Sp.trOf q)])
          rw [List.length_append] at e
          exact e

/-- What is read is nothing, or ends so. -/
def Sp.ext (L : List D) : List D := match L.getLast? with | some e => L ++ [e, e] | none => L
theorem ext_snoc (I : List D) (e : D) : Sp.ext (I ++ [e]) = I ++ [e] ++ [e, e] := by unfold Sp.ext; rw [List.getLast?_concat]

theorem lim24' (k : Nat) (a : List V) (σ : St) (q) (r : R1) (hd : dec24 a σ = some q) (h : go24 k (fun o s => some (o, s)) q = some r) : evLim cx 24 a σ = some r := by
  unfold dec24 at hd
  split at hd
  · cases hd
    refine lim_bodyK (T5_knows k) (N := 0) ?_
    rw [g24]
    exact h
  · cases hd

theorem lim26' (k : Nat) (a : List V) (σ : St) (q) (r : R1) (hd : dec26 a σ = some q) (h : go26 k (fun o s => some (o, s)) q = some r) : evLim cx 26 a σ = some r := by
  unfold dec26 at hd
  split at hd
  · cases hd
    refine lim_bodyK (T5_knows k) (N := k) ?_
    rw [g26]
    exact (u26 k k _ k _ []).trans h
  · cases hd

end Go.Vai
end

section
namespace Go.Vai
open Go.Proofs

theorem cov_last {s : List UInt8} {e : Nat} {l : List D} (h : Cov s e l) : ∃ I, l = I ++ [tokD 0 [] (s.length : Int)] := by
  induction h with
  | fin _ _ => exact ⟨[], rfl⟩
  | tok _ _ _ _ _ _ ih => obtain ⟨I, rfl⟩ := ih; exact ⟨_ :: I, rfl⟩

theorem scan_ok {s : List UInt8} (h : decide (Sp.scE s = 0) = true) : ∃ I, Sp.scL s = I ++ [tokD 0 [] (s.length : Int)] := by
  simp only [decide_eq_true_eq] at h
  rcases scan_says s with ⟨_, _, l, hl, hc⟩ | ⟨h1, _⟩
  · obtain ⟨I, rfl⟩ := cov_last hc
    exact ⟨I, by unfold Sp.scL; rw [hl]⟩
  · exact absurd h h1

theorem lim13' (a : List V) (σ : St) (s : List UInt8) (r : R1) (hd : dec13 a σ = some s) (h : go13 (fun o s => some (o, s)) s = some r) : evLim cx 13 a σ = some r := by
  unfold dec13 at hd
  split at hd
  · cases hd
    rw [lim7]
    unfold go13 at h
    cases hs : decide (Sp.scE s = 0) <;> rw [hs] at h
    · rw [cond_false] at h
      simp only [decide_eq_false_iff_not] at hs
      rcases scan_says s with ⟨_, _, l, hl, _⟩ | ⟨_, h2, _⟩
      · exact absurd (by unfold Sp.scE; rw [hl]) hs
      · rw [← h]; unfold scanRes; rw [h2]; rfl
    · obtain ⟨I, hI⟩ := scan_ok hs
      have hz : (Sp.scan s).2.2 = 0 := of_decide_eq_true hs
      rw [cond_true] at h
      rw [← h]
      unfold scanRes
      rw [hz]
      unfold Sp.scL Sp.scA
      have e : givL (Sp.scan s).1 = .sl 3 (Sp.scan s).1 0 := by
        have : (Sp.scan s).1 = I ++ [tokD 0 [] (s.length : Int)] := hI
        rw [this]; exact givL_add _ _
      rw [e]
  · cases hd

theorem T6_knows (k : Nat) : knows cx (T6 k).S (evLim cx) := by
  unfold T6
  exact more_knows (more_knows (more_knows (T5_knows k) (lim26' k)) (lim24' k)) lim13'

def dec23a : List V → St → Option (List UInt8 × Int × List UInt8 × Int × Nat × Nat)
  | [.d (.str s), .func 24 [.ptr 0 0]], [(0, .val 5 (.agg [.d (.int .i64 z), .d (.str e), .sl 5 [] 1, .sl 1 [] 2, .d (.int .i64 y)])), (1, .tok a), (2, .tok b)] => some (s, z, e, y, a, b)
  | _, _ => none
def go23a (k : Nat) (K : Out → St → Option R1) : List UInt8 × Int × List UInt8 × Int × Nat × Nat → Option R1
  | (s, z, e, y, a, b) => must (decide (s.length ≤ big)) <| bif decide (Sp.scE s = 0) then optK (Sp.term k (Sp.ext (Sp.scL s)) 0 1) fun p =>
      bif Sp.okQ p then optK (Sp.tok (Sp.ext (Sp.scL s)) (Sp.nxt p)) fun q =>
        bif decide (q.1 = 0) then K (.ret (.tup [.d (.int .i64 0), .d (.int .i64 0)])) [(0, .val 5 (.d (trD (Sp.trOf p)))), (1, .tok a), (2, .tok b)]
        else K (.ret (.tup [.d (.int .i64 q.2.2), .d (.int .i64 61)])) [(0, .val 5 (.d (trD (Sp.trOf p)))), (1, .tok a), (2, .tok b)]
      else K (.ret (.tup [.d (.int .i64 (Sp.bAt p)), .d (.int .i64 (Sp.bE p))])) [(0, .val 5 (.agg [.d (.int .i64 z), .d (.str e), .sl 5 [] 1, .sl 1 [] 2, .d (.int .i64 y)])), (1, .tok a), (2, .tok b)]
    else K (.ret (.tup [.d (.int .i64 (Sp.scA s)), .d (.int .i64 (Sp.scE s))])) [(0, .val 5 (.agg [.d (.int .i64 z), .d (.str e), .sl 5 [] 1, .sl 1 [] 2, .d (.int .i64 y)])), (1, .tok a), (2, .tok b)]
theorem go23a_ok (k : Nat) (K : Out → St → Option R1) (q : List UInt8 × Int × List UInt8 × Int × Nat × Nat) : go23a k K q = optP (go23a k (fun o s => some (o, s)) q) K := by
  obtain ⟨s, z, e, y, a, b⟩ := q
  simp only [go23a, must, optP_cond, optP_optK]
  rfl

def dec23b : List V → St → Option (List UInt8)
  | [.d (.str s), .func 26 [.ptr 0 0]], [(0, .val 1 (.sl 5 [] 1)), (1, .tok 0)] => some s
  | _, _ => none
def go23b (k : Nat) (K : Out → St → Option R1) (s : List UInt8) : Option R1 := must (decide (s.length ≤ big)) <| bif decide (Sp.scE s = 0) then optK (Sp.parseL k k (Sp.ext (Sp.scL s)) 0 []) fun p =>
      bif Sp.okL p then optK (Sp.tok (Sp.ext (Sp.scL s)) (Sp.nxtL p)) fun q =>
        bif decide (q.1 = 0) then K (.ret (.tup [.d (.int .i64 0), .d (.int .i64 0)])) [(0, .val 1 (.sl 5 (Sp.dsL p) 1)), (1, .tok (Sp.dsL p).length)]
        else K (.ret (.tup [.d (.int .i64 q.2.2), .d (.int .i64 61)])) [(0, .val 1 (.sl 5 (Sp.dsL p) 1)), (1, .tok (Sp.dsL p).length)]
      else K (.ret (.tup [.d (.int .i64 (Sp.bAtL p)), .d (.int .i64 (Sp.bEL p))])) [(0, .val 1 (.sl 5 (Sp.dsL p) 1)), (1, .tok (Sp.dsL p).length)]
    else K (.ret (.tup [.d (.int .i64 (Sp.scA s)), .d (.int .i64 (Sp.scE s))])) [(0, .val 1 (.sl 5 [] 1)), (1, .tok 0)]
theorem go23b_ok (k : Nat) (K : Out → St → Option R1) (s : List UInt8) : go23b k K s = optP (go23b k (fun o s => some (o, s)) s) K := by
  simp only [go23b, must, optP_cond, optP_optK]
  rfl

theorem scan_short {s : List UInt8} (h : decide (Sp.scE s = 0) = true) : (Sp.scL s).length ≤ 65537 := by
  have h1 := scan_len s
  rcases scan_says s with ⟨h2, _⟩ | ⟨h2, _⟩
  · unfold Sp.scL; omega
  · exact absurd (of_decide_eq_true h) h2

theorem last_wrap {I : List D} {e : D} (h : (I ++ [e]).length ≤ 65537) : IntKind.i64.wrap (((I ++ [e]).length : Int) - 1) = (I.length : Int) := by
  have hl : (I ++ [e]).length = I.length + 1 := by simp
  rw [IntWalk.i64_in _ (by omega)]
  omega

theorem last_at {I : List D} {e : D} (h : (I ++ [e]).length ≤ 65537) : (I ++ [e])[(IntKind.i64.wrap (((I ++ [e]).length : Int) - 1)).toNat]? = some e := by
  rw [last_wrap h, Int.toNat_natCast, List.getElem?_concat_length]

theorem last_in {I : List D} {e : D} (h : (I ++ [e]).length ≤ 65537) : (decide (0 ≤ IntKind.i64.wrap (((I ++ [e]).length : Int) - 1)) && decide (IntKind.i64.wrap (((I ++ [e]).length : Int) - 1) < ((I ++ [e]).length : Int))) = true := by
  rw [last_wrap h]
  have hl : (I ++ [e]).length = I.length + 1 := by simp
  simp only [Bool.and_eq_true, decide_eq_true_eq]
  omega

theorem ext_len {L : List D} {x y : D} (h : L.length ≤ 65537) : (decide (L.length = L.length) && decide (L.length + [x, y].length ≤ 4294967296)) = true := by
  rw [decide_eq_true rfl, decide_eq_true (p := L.length + [x, y].length ≤ 4294967296) (by show L.length + 2 ≤ _; omega)]
  rfl

theorem lim23a (k : Nat) (a : List V) (σ : St) (q) (r : R1) (hd : dec23a a σ = some q) (h : go23a k (fun o s => some (o, s)) q = some r) : evLim cx 23 a σ = some r := by
  unfold dec23a at hd
  split at hd
  · rename_i s z e y a b
    cases hd
    refine lim_bodyK (T6_knows k) (N := 0) ?_
    rw [g23a, ← h]
    simp only [go23a]
    refine must_congr ?_
    cases hs : decide (Sp.scE s = 0)
    · rfl
    · obtain ⟨I, hI⟩ := scan_ok hs
      have hl := scan_short hs
      rw [hI] at hl
      simp only [cond_true]
      rw [hI, last_in hl, must, cond_true, nthD_at (last_at hl), i23a, ext_len hl, must, cond_true, ext_snoc]
      refine optK_congr fun p hp => ?_
      cases Sp.okQ p
      · rfl
      · simp only [cond_true]
        refine optK_congr fun t ht => ?_
        have hx : Sp.tok (I ++ [tokD 0 [] _] ++ [tokD 0 [] _, tokD 0 [] _]) (Sp.nxt p) = some t := ht
        cases hq : decide (t.1 = 0)
        · rw [c_not]
          simp only [hq, cond_false]
          exact (congrArg (fun o => optK o _) hx).trans rfl
        · rw [c_not]
          simp only [hq, cond_true]
          rfl
  · cases hd

theorem lim23b (k : Nat) (a : List V) (σ : St) (q : List UInt8) (r : R1) (hd : dec23b a σ = some q) (h : go23b k (fun o s => some (o, s)) q = some r) : evLim cx 23 a σ = some r := by
  unfold dec23b at hd
  split at hd
  · cases hd
    refine lim_bodyK (T6_knows k) (N := 0) ?_
    rw [g23b, ← h]
    simp only [go23b]
    refine must_congr ?_
    cases hs : decide (Sp.scE q = 0)
    · rfl
    · obtain ⟨I, hI⟩ := scan_ok hs
      have hl := scan_short hs
      rw [hI] at hl
      simp only [cond_true]
      rw [hI, last_in hl, must, cond_true, nthD_at (last_at hl), i23b, ext_len hl, must, cond_true, ext_snoc]
      refine optK_congr fun p hp => ?_
      cases Sp.okL p
      · rfl
      · simp only [cond_true]
        refine optK_congr fun t ht => ?_
        have hx : Sp.tok (I ++ [tokD 0 [] _] ++ [tokD 0 [] _, tokD 0 [] _]) (Sp.nxtL p) = some t := ht
        cases hq : decide (t.1 = 0)
        · rw [c_not]
          simp only [hq, cond_false]
          exact (congrArg (fun o => optK o _) hx).trans rfl
        · rw [c_not]
          simp only [hq, cond_true]
  · cases hd

noncomputable def T8a (k : Nat) : CK R1 := more 23 dec23a (go23a k) (go23a_ok k) (CK.plain none1)
noncomputable def T8b (k : Nat) : CK R1 := more 23 dec23b (go23b k) (go23b_ok k) (CK.plain none1)
theorem T8a_knows (k : Nat) : knows cx (T8a k).S (evLim cx) := more_knows none1K_knows (lim23a k)
theorem T8b_knows (k : Nat) : knows cx (T8b k).S (evLim cx) := more_knows none1K_knows (lim23b k)

theorem g10 (n k : Nat) (s : List UInt8) :
    evBody cx (T8a k) n 10 [.d (.str s)] [] =
  must (decide (s.length ≤ big))
    (bif decide (Sp.scE s = 0) then
      optK (Sp.term k (Sp.ext (Sp.scL s)) 0 1) fun p =>
        bif Sp.okQ p then
          optK (Sp.tok (Sp.ext (Sp.scL s)) (Sp.nxt p)) fun q =>
            bif decide (q.fst = 0) then
              some
                (Out.ret
                    (V.tup
                      [V.d
                          (D.agg
                            [D.int IntKind.i64 (Sp.trOf p).k, D.str (Sp.trOf p).2, D.sl 5 (Sp.trOf p).3,
                              D.sl 1 (Sp.trOf p).4, D.int IntKind.i64 (Sp.trOf p).pl]),
                        V.d (D.int IntKind.i64 (0 : Int)), V.d (D.int IntKind.i64 (0 : Int))]),
                  [])
            else
              some
                (Out.ret
                    (V.tup
                      [V.d
                          (D.agg
                            [D.int IntKind.i64 (0 : Int), D.str [], D.sl 5 [], D.sl 1 [],
                              D.int IntKind.i64 (0 : Int)]),
                        V.d (D.int IntKind.i64 q.snd.snd), V.d (D.int IntKind.i64 (61 : Int))]),
                  [])
        else
          bif !decide (Sp.bE p = (0 : Int)) then
            some
              (Out.ret
                  (V.tup
                    [V.d
                        (D.agg
                          [D.int IntKind.i64 (0 : Int), D.str [], D.sl 5 [], D.sl 1 [],
                            D.int IntKind.i64 (0 : Int)]),
                      V.d (D.int IntKind.i64 (Sp.bAt p)), V.d (D.int IntKind.i64 (Sp.bE p))]),
                [])
          else
            some
              (Out.ret
                  (V.tup
                    [V.d
                        (D.agg
                          [D.int IntKind.i64 (0 : Int), D.str [], D.sl 5 [], D.sl 1 [],
                            D.int IntKind.i64 (0 : Int)]),
                      V.d (D.int IntKind.i64 (0 : Int)), V.d (D.int IntKind.i64 (0 : Int))]),
                [])
    else
      bif !decide (Sp.scE s = (0 : Int)) then
        some
          (Out.ret
              (V.tup
                [V.d
                    (D.agg
                      [D.int IntKind.i64 (0 : Int), D.str [], D.sl 5 [], D.sl 1 [],
                        D.int IntKind.i64 (0 : Int)]),
                  V.d (D.int IntKind.i64 (Sp.scA s)), V.d (D.int IntKind.i64 (Sp.scE s))]),
            [])
      else
        some
          (Out.ret
              (V.tup
                [V.d
                    (D.agg
                      [D.int IntKind.i64 (0 : Int), D.str [], D.sl 5 [], D.sl 1 [],
                        D.int IntKind.i64 (0 : Int)]),
                  V.d (D.int IntKind.i64 (0 : Int)), V.d (D.int IntKind.i64 (0 : Int))]),
            [])) := by kernel_rfl

theorem g11 (n k : Nat) (s : List UInt8) :
    evBody cx (T8b k) n 11 [.d (.str s)] [] =
  must (decide (s.length ≤ big))
    (bif decide (Sp.scE s = 0) then
      optK (Sp.parseL k k (Sp.ext (Sp.scL s)) 0 []) fun p =>
        bif Sp.okL p then
          optK (Sp.tok (Sp.ext (Sp.scL s)) (Sp.nxtL p)) fun q =>
            bif decide (q.fst = 0) then
              some
                (Out.ret
                    (V.tup
                      [V.d (D.sl 5 (Sp.dsL p)), V.d (D.int IntKind.i64 (0 : Int)),
                        V.d (D.int IntKind.i64 (0 : Int))]),
                  [])
            else
              some
                (Out.ret
                    (V.tup
                      [V.d (D.sl 5 []), V.d (D.int IntKind.i64 q.snd.snd), V.d (D.int IntKind.i64 (61 : Int))]),
                  [])
        else
          bif !decide (Sp.bEL p = (0 : Int)) then
            some
              (Out.ret
                  (V.tup [V.d (D.sl 5 []), V.d (D.int IntKind.i64 (Sp.bAtL p)), V.d (D.int IntKind.i64 (Sp.bEL p))]),
                [])
          else
            some
              (Out.ret
                  (V.tup
                    [V.d (D.sl 5 (Sp.dsL p)), V.d (D.int IntKind.i64 (0 : Int)),
                      V.d (D.int IntKind.i64 (0 : Int))]),
                [])
    else
      bif !decide (Sp.scE s = (0 : Int)) then
        some
          (Out.ret (V.tup [V.d (D.sl 5 []), V.d (D.int IntKind.i64 (Sp.scA s)), V.d (D.int IntKind.i64 (Sp.scE s))]),
            [])
      else
        some
          (Out.ret
              (V.tup [V.d (D.sl 5 []), V.d (D.int IntKind.i64 (0 : Int)), V.d (D.int IntKind.i64 (0 : Int))]),
            [])) := by kernel_rfl


/-- What a text is: a term; or where it is none, and why. -/
inductive TR where
  | ok (t : Tr)
  | bad (a e : Int)
def TR.out : TR → Out
  | .ok t => .ret (.tup [.d (trD t), .d (.int .i64 0), .d (.int .i64 0)])
  | .bad a e => .ret (.tup [.d (trD ⟨0, [], [], [], 0⟩), .d (.int .i64 a), .d (.int .i64 e)])
def TR.fine : TR → Prop
  | .ok _ => True
  | .bad _ e => e ≠ 0
def Sp.termOf (k : Nat) (s : List UInt8) : Option TR := bif decide (Sp.scE s = 0) then optK (Sp.term k (Sp.ext (Sp.scL s)) 0 1) fun p =>
      bif Sp.okQ p then optK (Sp.tok (Sp.ext (Sp.scL s)) (Sp.nxt p)) fun q => bif decide (q.1 = 0) then some (.ok (Sp.trOf p)) else some (.bad q.2.2 61)
      else some (.bad (Sp.bAt p) (Sp.bE p))
    else some (.bad (Sp.scA s) (Sp.scE s))
/-- The declarations of a text. -/
inductive TL where
  | ok (l : List D)
  | bad (a e : Int)
def TL.out : TL → Out
  | .ok l => .ret (.tup [.d (.sl 5 l), .d (.int .i64 0), .d (.int .i64 0)])
  | .bad a e => .ret (.tup [.d (.sl 5 []), .d (.int .i64 a), .d (.int .i64 e)])
def TL.fine : TL → Prop
  | .ok _ => True
  | .bad _ e => e ≠ 0
def Sp.parseOf (k : Nat) (s : List UInt8) : Option TL := bif decide (Sp.scE s = 0) then optK (Sp.parseL k k (Sp.ext (Sp.scL s)) 0 []) fun p =>
      bif Sp.okL p then optK (Sp.tok (Sp.ext (Sp.scL s)) (Sp.nxtL p)) fun q => bif decide (q.1 = 0) then some (.ok (Sp.dsL p)) else some (.bad q.2.2 61)
      else some (.bad (Sp.bAtL p) (Sp.bEL p))
    else some (.bad (Sp.scA s) (Sp.scE s))

theorem lim10 (k : Nat) (s : List UInt8) (hs : s.length ≤ big) (r : TR) (h : Sp.termOf k s = some r) (hr : r.fine) : evLim cx 10 [.d (.str s)] [] = some (r.out, []) := by
  refine lim_bodyK (T8a_knows k) (N := 0) ?_
  rw [g10, decide_eq_true hs, must, cond_true]
  unfold Sp.termOf at h
  cases hc : decide (Sp.scE s = 0) <;> rw [hc] at h
  · rw [cond_false] at h
    cases h
    rfl
  · rw [cond_true] at h
    obtain ⟨p, hp, h⟩ := optK_some h
    simp only [cond_true, hp, optK_now]
    cases hq : Sp.okQ p <;> rw [hq] at h
    · rw [cond_false] at h
      cases h
      rw [cond_false, decide_eq_false (p := Sp.bE p = 0) hr]
      rfl
    · rw [cond_true] at h
      obtain ⟨q, hq, h⟩ := optK_some h
      simp only [cond_true, hq, optK_now]
      cases hz : decide (q.1 = 0) <;> rw [hz] at h
      · cases h; rfl
      · cases h; rfl

theorem lim11 (k : Nat) (s : List UInt8) (hs : s.length ≤ big) (r : TL) (h : Sp.parseOf k s = some r) (hr : r.fine) : evLim cx 11 [.d (.str s)] [] = some (r.out, []) := by
  refine lim_bodyK (T8b_knows k) (N := 0) ?_
  rw [g11, decide_eq_true hs, must, cond_true]
  unfold Sp.parseOf at h
  cases hc : decide (Sp.scE s = 0) <;> rw [hc] at h
  · rw [cond_false] at h
    cases h
    rw [cond_false]
    rfl
  · rw [cond_true] at h
    obtain ⟨p, hp, h⟩ := optK_some h
    simp only [cond_true, hp, optK_now]
    cases hq : Sp.okL p <;> rw [hq] at h
    · rw [cond_false] at h
      cases h
      rw [cond_false, decide_eq_false (p := Sp.bEL p = 0) hr]
      rfl
    · rw [cond_true] at h
      obtain ⟨q, hq, h⟩ := optK_some h
      simp only [cond_true, hq, optK_now]
      cases hz : decide (q.1 = 0) <;> rw [hz] at h
      · cases h; rfl
      · cases h; rfl

end Go.Vai
end

section
namespace Go.Vai
open Go.Proofs

def Sp.trOfD : D → Option Tr | .agg [.int .i64 k, .str n, .sl 5 kids, .sl 1 nms, .int .i64 a] => some ⟨k, n, kids, nms, a⟩ | _ => none
theorem trOfD_some {d : D} {t : Tr} (h : Sp.trOfD d = some t) : d = trD t := by
  unfold Sp.trOfD at h; split at h <;> cases h; rfl
def Sp.all2 (f : D → D → Bool) : List D → List D → Bool
  | [], [] => true
  | x :: l, y :: r => f x y && Sp.all2 f l r
  | _, _ => false
def Sp.strEq : D → D → Bool | .str s, .str t => decide (s = t) | _, _ => false
/-- Two trees alike, to some depth. -/
def Sp.sameT : Nat → Bool → D → D → Bool
  | 0, _, _, _ => false
  | n + 1, w, x, y => match Sp.trOfD x, Sp.trOfD y with
    | some a, some b => decide (a.k = b.k) && decide (a.nm = b.nm) && (!w || decide (a.pl = b.pl)) && decide (a.kids.length < 4294967296) && decide (a.nms.length < 4294967296) && Sp.all2 Sp.strEq a.nms b.nms && Sp.all2 (Sp.sameT n w) a.kids b.kids
    | _, _ => false

def dec12 : List V → St → Option (D × D × Bool)
  | [.d x, .d y, .d (.bool w)], [] => some (x, y, w)
  | _, _ => none
def go12 (n : Nat) (K : Out → St → Option R1) : D × D × Bool → Option R1
  | (x, y, w) => must (Sp.sameT n w x y) (K (.ret (.d (.bool true))) [])
theorem go12_ok (n : Nat) (K : Out → St → Option R1) (q : D × D × Bool) : go12 n K q = optP (go12 n (fun o s => some (o, s)) q) K := by
  obtain ⟨x, y, w⟩ := q
  simp only [go12, must, optP_cond]
  rfl
noncomputable def T12 (n : Nat) : CK R1 := more 12 dec12 (go12 n) (go12_ok n) (CK.plain none1)

theorem g12 (n : Nat) (S : CK R1) (a b : Tr) (w : Bool) :
    evBody cx S n 12 [.d (trD a), .d (trD b), .d (.bool w)] [] =
  bif !decide (a.k = b.k) then some (Out.ret (V.d (D.bool false)), [])
  else
    bif !decide (a.2 = b.2) then some (Out.ret (V.d (D.bool false)), [])
    else
      bif !decide ((↑a.3.length : Int) = (↑b.3.length : Int)) then some (Out.ret (V.d (D.bool false)), [])
      else
        bif !decide ((↑a.4.length : Int) = (↑b.4.length : Int)) then some (Out.ret (V.d (D.bool false)), [])
        else
          bif w then
            bif !decide (a.pl = b.pl) then some (Out.ret (V.d (D.bool false)), [])
            else
              LP cx S n 12 0 4 n
                [(2, V.d (D.bool w)), (3, V.ptr 3 0), (4, V.ptr 4 0), (7, V.d (D.int IntKind.i64 (0 : Int)))]
                [(3,
                    Ob.val 5
                      (V.d (D.agg [D.int IntKind.i64 a.k, D.str a.2, D.sl 5 a.3, D.sl 1 a.4, D.int IntKind.i64 a.pl]))),
                  (4,
                    Ob.val 5
                      (V.d (D.agg [D.int IntKind.i64 b.k, D.str b.2, D.sl 5 b.3, D.sl 1 b.4, D.int IntKind.i64 b.pl])))]
                (AK cx S n 12 0 4 (EK cx 12 0))
          else
            LP cx S n 12 0 4 n
              [(2, V.d (D.bool w)), (3, V.ptr 3 0), (4, V.ptr 4 0), (7, V.d (D.int IntKind.i64 (0 : Int)))]
              [(3,
                  Ob.val 5
                    (V.d (D.agg [D.int IntKind.i64 a.k, D.str a.2, D.sl 5 a.3, D.sl 1 a.4, D.int IntKind.i64 a.pl]))),
                (4,
                  Ob.val 5
                    (V.d (D.agg [D.int IntKind.i64 b.k, D.str b.2, D.sl 5 b.3, D.sl 1 b.4, D.int IntKind.i64 b.pl])))]
              (AK cx S n 12 0 4 (EK cx 12 0)) := by kernel_rfl

theorem g15 (n k : Nat) (a b : List D) (w : Bool) :
    evBody cx (T12 k) n 15 [.d (.sl 5 a), .d (.sl 5 b), .d (.bool w)] [] =
  must
    (Sp.sameT k w
      (D.agg [D.int IntKind.i64 (0 : Int), D.str [], D.sl 5 a, D.sl 1 [], D.int IntKind.i64 (0 : Int)])
      (D.agg [D.int IntKind.i64 (0 : Int), D.str [], D.sl 5 b, D.sl 1 [], D.int IntKind.i64 (0 : Int)]))
    (some (Out.ret (V.d (D.bool true)), [])) := by kernel_rfl

theorem h12 (n k : Nat) (S : CK R1) (a b : Tr) (w : Bool) (i : Int) :
    LP cx S n 12 0 4 (k + 1) [(2, V.d (D.bool w)), (3, V.ptr 3 0), (4, V.ptr 4 0), (7, V.d (D.int IntKind.i64 i))] [(3, Ob.val 5 (V.d (trD a))), (4, Ob.val 5 (V.d (trD b)))] (AK cx S n 12 0 4 (EK cx 12 0)) =
  bif decide (i < (↑a.4.length : Int)) then
    must (decide (0 ≤ i) && decide (i < (↑a.4.length : Int)))
      (nthD a.4 i.toNat fun y =>
        nthD y.cells 0 fun c =>
          match c with
          | D.str s =>
            must (decide (0 ≤ i) && decide (i < (↑b.4.length : Int)))
              (nthD b.4 i.toNat fun y =>
                nthD y.cells 0 fun c =>
                  match c with
                  | D.str s_1 =>
                    bif !decide (s = s_1) then some (Out.ret (V.d (D.bool false)), [])
                    else
                      LP cx S n 12 0 4 k
                        [(2, V.d (D.bool w)), (3, V.ptr 3 0), (4, V.ptr 4 0),
                          (7, V.d (D.int IntKind.i64 (IntKind.i64.wrap (i + (1 : Int)))))]
                        [(3,
                            Ob.val 5
                              (V.d
                                (D.agg
                                  [D.int IntKind.i64 a.k, D.str a.2, D.sl 5 a.3, D.sl 1 a.4, D.int IntKind.i64 a.pl]))),
                          (4,
                            Ob.val 5
                              (V.d
                                (D.agg
                                  [D.int IntKind.i64 b.k, D.str b.2, D.sl 5 b.3, D.sl 1 b.4, D.int IntKind.i64 b.pl])))]
                        (AK cx S n 12 0 4 (EK cx 12 0))
                  | x => none)
          | x => none)
  else
    LP cx S n 12 0 9 n [(2, V.d (D.bool w)), (3, V.ptr 3 0), (4, V.ptr 4 0), (8, V.d (D.int IntKind.i64 (0 : Int)))]
      [(3, Ob.val 5 (V.d (D.agg [D.int IntKind.i64 a.k, D.str a.2, D.sl 5 a.3, D.sl 1 a.4, D.int IntKind.i64 a.pl]))),
        (4, Ob.val 5 (V.d (D.agg [D.int IntKind.i64 b.k, D.str b.2, D.sl 5 b.3, D.sl 1 b.4, D.int IntKind.i64 b.pl])))]
      (AK cx S n 12 0 9 (EK cx 12 0)) := by kernel_rfl

theorem j12 (n k m : Nat) (a b : Tr) (w : Bool) (i : Int) :
    LP cx (T12 m) n 12 0 9 (k + 1) [(2, V.d (D.bool w)), (3, V.ptr 3 0), (4, V.ptr 4 0), (8, V.d (D.int IntKind.i64 i))] [(3, Ob.val 5 (V.d (trD a))), (4, Ob.val 5 (V.d (trD b)))] (AK cx (T12 m) n 12 0 9 (EK cx 12 0)) =
  bif decide (i < (↑a.3.length : Int)) then
    must (decide (0 ≤ i) && decide (i < (↑a.3.length : Int)))
      (nthD a.3 i.toNat fun y =>
        bif y.cells.length.beq (cx.P.cellsOf 26) then
          asAgg y (cx.P.cellsOf 26) fun y =>
            must (decide (0 ≤ i) && decide (i < (↑b.3.length : Int)))
              (nthD b.3 i.toNat fun y_1 =>
                bif y_1.cells.length.beq (cx.P.cellsOf 26) then
                  asAgg y_1 (cx.P.cellsOf 26) fun y_2 =>
                    must (Sp.sameT m w y y_2)
                      (LP cx (T12 m) n 12 0 9 k
                        [(2, V.d (D.bool w)), (3, V.ptr 3 0), (4, V.ptr 4 0),
                          (8, V.d (D.int IntKind.i64 (IntKind.i64.wrap (i + (1 : Int)))))]
                        [(3,
                            Ob.val 5
                              (V.d
                                (D.agg
                                  [D.int IntKind.i64 a.k, D.str a.2, D.sl 5 a.3, D.sl 1 a.4, D.int IntKind.i64 a.pl]))),
                          (4,
                            Ob.val 5
                              (V.d
                                (D.agg
                                  [D.int IntKind.i64 b.k, D.str b.2, D.sl 5 b.3, D.sl 1 b.4, D.int IntKind.i64 b.pl])))]
                        (AK cx (T12 m) n 12 0 9 (EK cx 12 0)))
                else
                  must ((0 + cx.P.cellsOf 26).ble y_1.cells.length)
                    (must (Sp.sameT m w y (D.agg (List.take (cx.P.cellsOf 26) (List.drop 0 y_1.cells))))
                      (LP cx (T12 m) n 12 0 9 k
                        [(2, V.d (D.bool w)), (3, V.ptr 3 0), (4, V.ptr 4 0),
                          (8, V.d (D.int IntKind.i64 (IntKind.i64.wrap (i + (1 : Int)))))]
                        [(3,
                            Ob.val 5
                              (V.d
                                (D.agg
                                  [D.int IntKind.i64 a.k, D.str a.2, D.sl 5 a.3, D.sl 1 a.4, D.int IntKind.i64 a.pl]))),
                          (4,
                            Ob.val 5
                              (V.d
                                (D.agg
                                  [D.int IntKind.i64 b.k, D.str b.2, D.sl 5 b.3, D.sl 1 b.4, D.int IntKind.i64 b.pl])))]
                        (AK cx (T12 m) n 12 0 9 (EK cx 12 0)))))
        else
          must ((0 + cx.P.cellsOf 26).ble y.cells.length)
            (must (decide (0 ≤ i) && decide (i < (↑b.3.length : Int)))
              (nthD b.3 i.toNat fun y_1 =>
                bif y_1.cells.length.beq (cx.P.cellsOf 26) then
                  asAgg y_1 (cx.P.cellsOf 26) fun y_2 =>
                    must (Sp.sameT m w (D.agg (List.take (cx.P.cellsOf 26) (List.drop 0 y.cells))) y_2)
                      (LP cx (T12 m) n 12 0 9 k
                        [(2, V.d (D.bool w)), (3, V.ptr 3 0), (4, V.ptr 4 0),
                          (8, V.d (D.int IntKind.i64 (IntKind.i64.wrap (i + (1 : Int)))))]
                        [(3,
                            Ob.val 5
                              (V.d
                                (D.agg
                                  [D.int IntKind.i64 a.k, D.str a.2, D.sl 5 a.3, D.sl 1 a.4, D.int IntKind.i64 a.pl]))),
                          (4,
                            Ob.val 5
                              (V.d
                                (D.agg
                                  [D.int IntKind.i64 b.k, D.str b.2, D.sl 5 b.3, D.sl 1 b.4, D.int IntKind.i64 b.pl])))]
                        (AK cx (T12 m) n 12 0 9 (EK cx 12 0)))
                else
                  must ((0 + cx.P.cellsOf 26).ble y_1.cells.length)
                    (must
                      (Sp.sameT m w (D.agg (List.take (cx.P.cellsOf 26) (List.drop 0 y.cells)))
                        (D.agg (List.take (cx.P.cellsOf 26) (List.drop 0 y_1.cells))))
                      (LP cx (T12 m) n 12 0 9 k
                        [(2, V.d (D.bool w)), (3, V.ptr 3 0), (4, V.ptr 4 0),
                          (8, V.d (D.int IntKind.i64 (IntKind.i64.wrap (i + (1 : Int)))))]
                        [(3,
                            Ob.val 5
                              (V.d
                                (D.agg
                                  [D.int IntKind.i64 a.k, D.str a.2, D.sl 5 a.3, D.sl 1 a.4, D.int IntKind.i64 a.pl]))),
                          (4,
                            Ob.val 5
                              (V.d
                                (D.agg
                                  [D.int IntKind.i64 b.k, D.str b.2, D.sl 5 b.3, D.sl 1 b.4, D.int IntKind.i64 b.pl])))]
                        (AK cx (T12 m) n 12 0 9 (EK cx 12 0)))))))
  else some (Out.ret (V.d (D.bool true)), []) := by kernel_rfl

theorem all2_spec {f : D → D → Bool} : ∀ {l r : List D}, Sp.all2 f l r = true → l.length = r.length ∧ ∀ (i : Nat) x y, l[i]? = some x → r[i]? = some y → f x y = true
  | [], [], _ => ⟨rfl, fun i x y h _ => by simp at h⟩
  | x :: l, y :: r, h => by
    simp only [Sp.all2, Bool.and_eq_true] at h
    obtain ⟨h1, h2⟩ := all2_spec h.2
    refine ⟨by simp [h1], fun i u v hu hv => ?_⟩
    cases i with
    | zero => simp at hu hv; subst hu; subst hv; exact h.1
    | succ i => exact h2 i u v (by simpa using hu) (by simpa using hv)
  | [], _ :: _, h => by simp [Sp.all2] at h
  | _ :: _, [], h => by simp [Sp.all2] at h

theorem sameT_spec {n : Nat} {w : Bool} {x y : D} (h : Sp.sameT n w x y = true) : ∃ m a b, n = m + 1 ∧ x = trD a ∧ y = trD b ∧ a.k = b.k ∧ a.nm = b.nm ∧ (w = true → a.pl = b.pl) ∧ a.kids.length < 4294967296 ∧ a.nms.length < 4294967296 ∧ Sp.all2 Sp.strEq a.nms b.nms = true ∧ Sp.all2 (Sp.sameT m w) a.kids b.kids = true := by
  cases n with
  | zero => cases h
  | succ m =>
    unfold Sp.sameT at h
    split at h
    · rename_i a b ha hb
      simp only [Bool.and_eq_true, decide_eq_true_eq, Bool.or_eq_true, Bool.not_eq_true'] at h
      obtain ⟨⟨⟨⟨⟨⟨h1, h2⟩, h3⟩, h4⟩, h5⟩, h6⟩, h7⟩ := h
      refine ⟨m, a, b, rfl, trOfD_some ha, trOfD_some hb, h1, h2, fun hw => ?_, h4, h5, h6, h7⟩
      rcases h3 with h3 | h3
      · rw [hw] at h3; cases h3
      · exact h3
    · cases h

abbrev st12 (a b : Tr) : St := [(3, Ob.val 5 (V.d (trD a))), (4, Ob.val 5 (V.d (trD b)))]

theorem up_nat {j : Nat} (h : j < 4294967296) : IntKind.i64.wrap ((j : Int) + 1) = ((j + 1 : Nat) : Int) := by
  rw [IntWalk.i64_in _ (by omega)]; rfl

theorem kids_loop (n m : Nat) (a b : Tr) (w : Bool) (hl : a.kids.length < 4294967296) (hlen : a.kids.length = b.kids.length) (H : ∀ (i : Nat) x y, a.kids[i]? = some x → b.kids[i]? = some y → Sp.sameT m w x y = true) :
    ∀ (N j k : Nat), a.kids.length - j ≤ N → N < k → j ≤ a.kids.length →
    LP cx (T12 m) n 12 0 9 k [(2, V.d (D.bool w)), (3, V.ptr 3 0), (4, V.ptr 4 0), (8, V.d (D.int IntKind.i64 (j : Int)))] (st12 a b) (AK cx (T12 m) n 12 0 9 (EK cx 12 0)) = some (.ret (.d (.bool true)), []) := by
  intro N
  induction N with
  | zero =>
    intro j k hN hk hj
    obtain ⟨k, rfl⟩ : ∃ i, k = i + 1 := ⟨k - 1, by omega⟩
    rw [j12, decide_eq_false (by omega), cond_false]
  | succ N ih =>
    intro j k hN hk hj
    obtain ⟨k, rfl⟩ : ∃ i, k = i + 1 := ⟨k - 1, by omega⟩
    by_cases hlt : j < a.kids.length
    · have hx : a.kids[j]? = some a.kids[j] := List.getElem?_eq_getElem hlt
      have hy : b.kids[j]? = some (b.kids[j]'(by omega)) := List.getElem?_eq_getElem (by omega)
      have hs := H j _ _ hx hy
      obtain ⟨m', t, u, rfl, hx', hy', _⟩ := sameT_spec hs
      rw [hx', hy'] at hs
      rw [hx'] at hx
      rw [hy'] at hy
      rw [j12, decide_eq_true (p := (j : Int) < (a.kids.length : Int)) (by omega), decide_eq_true (p := (0 : Int) ≤ (j : Int)) (by omega), decide_eq_true (p := (j : Int) < (b.kids.length : Int)) (by omega)]
      simp only [cond_true, Bool.and_self, must, Int.toNat_natCast]
      rw [nthD_at hx]
      have e1 : (trD t).cells.length.beq (cx.P.cellsOf 26) = true := by kernel_rfl
      have e2 : (trD u).cells.length.beq (cx.P.cellsOf 26) = true := by kernel_rfl
      have f1 : ∀ {R : Type} (K : D → Option R), asAgg (trD t) (cx.P.cellsOf 26) K = K (trD t) := fun K => asAgg_at e1
      have f2 : ∀ {R : Type} (K : D → Option R), asAgg (trD u) (cx.P.cellsOf 26) K = K (trD u) := fun K => asAgg_at e2
      rw [e1, cond_true, f1, nthD_at hy, e2, cond_true, f2, hs, cond_true, up_nat (by omega)]
      exact ih (j + 1) k (by omega) (by omega) hlt
    · rw [j12, decide_eq_false (by omega), cond_false]

theorem strEq_spec {x y : D} (h : Sp.strEq x y = true) : ∃ s, x = .str s ∧ y = .str s := by
  unfold Sp.strEq at h
  split at h
  · simp only [decide_eq_true_eq] at h; subst h; exact ⟨_, rfl, rfl⟩
  · cases h

theorem nms_loop (n m : Nat) (a b : Tr) (w : Bool) (hl : a.nms.length < 4294967296) (hlen : a.nms.length = b.nms.length) (H : ∀ (i : Nat) x y, a.nms[i]? = some x → b.nms[i]? = some y → Sp.strEq x y = true) :
    ∀ (N j k : Nat), a.nms.length - j ≤ N → N < k → j ≤ a.nms.length →
    LP cx (T12 m) n 12 0 4 k [(2, V.d (D.bool w)), (3, V.ptr 3 0), (4, V.ptr 4 0), (7, V.d (D.int IntKind.i64 (j : Int)))] (st12 a b) (AK cx (T12 m) n 12 0 4 (EK cx 12 0)) =
    LP cx (T12 m) n 12 0 9 n [(2, V.d (D.bool w)), (3, V.ptr 3 0), (4, V.ptr 4 0), (8, V.d (D.int IntKind.i64 (0 : Int)))] (st12 a b) (AK cx (T12 m) n 12 0 9 (EK cx 12 0)) := by
  intro N
  induction N with
  | zero =>
    intro j k hN hk hj
    obtain ⟨k, rfl⟩ : ∃ i, k = i + 1 := ⟨k - 1, by omega⟩
    rw [h12, decide_eq_false (by omega), cond_false]
    rfl
  | succ N ih =>
    intro j k hN hk hj
    obtain ⟨k, rfl⟩ : ∃ i, k = i + 1 := ⟨k - 1, by omega⟩
    by_cases hlt : j < a.nms.length
    · have hx : a.nms[j]? = some a.nms[j] := List.getElem?_eq_getElem hlt
      have hy : b.nms[j]? = some (b.nms[j]'(by omega)) := List.getElem?_eq_getElem (by omega)
      obtain ⟨s, hx', hy'⟩ := strEq_spec (H j _ _ hx hy)
      rw [hx'] at hx
      rw [hy'] at hy
      rw [h12, decide_eq_true (p := (j : Int) < (a.nms.length : Int)) (by omega), decide_eq_true (p := (0 : Int) ≤ (j : Int)) (by omega), decide_eq_true (p := (j : Int) < (b.nms.length : Int)) (by omega)]
      simp only [cond_true, Bool.and_self, must, Int.toNat_natCast]
      rw [nthD_at hx]
      show nthD b.nms j _ = _
      rw [nthD_at hy]
      show (bif !decide (s = s) then _ else _) = _
      rw [decide_eq_true rfl, Bool.not_true, cond_false, up_nat (by omega)]
      exact ih (j + 1) k (by omega) (by omega) hlt
    · rw [h12, decide_eq_false (by omega), cond_false]
      rfl

theorem T12_knows : ∀ n, knows cx (T12 n).S (evLim cx)
  | 0 => more_knows none1K_knows fun a σ q r hd h => by
    obtain ⟨x, y, w⟩ := q
    cases h
  | n + 1 => more_knows none1K_knows fun a σ q r hd h => by
    obtain ⟨x, y, w⟩ := q
    simp only [go12] at h
    obtain ⟨hs, h⟩ := must_some h
    cases h
    unfold dec12 at hd
    split at hd
    · cases hd
      obtain ⟨m, a, b, hm, rfl, rfl, h1, h2, h3, h4, h5, h6, h7⟩ := sameT_spec hs
      cases hm
      obtain ⟨e1, f1⟩ := all2_spec h6
      obtain ⟨e2, f2⟩ := all2_spec h7
      obtain ⟨N, n1, n2⟩ : ∃ N, a.kids.length < N ∧ a.nms.length < N := ⟨a.kids.length + a.nms.length + 1, by omega, by omega⟩
      refine lim_bodyK (T12_knows n) (N := N) ?_
      have hK := kids_loop N n a b w h4 e2 f2 a.kids.length 0 N (by omega) n1 (Nat.zero_le _)
      have hN := nms_loop N n a b w h5 e1 f1 a.nms.length 0 N (by omega) n2 (Nat.zero_le _)
      have hr := hN.trans hK
      rw [g12, decide_eq_true h1, decide_eq_true h2, decide_eq_true (p := (a.kids.length : Int) = b.kids.length) (by omega), decide_eq_true (p := (a.nms.length : Int) = b.nms.length) (by omega)]
      simp only [Bool.not_true, cond_false]
      cases w with
      | false => exact hr
      | true =>
        rw [decide_eq_true (h3 rfl)]
        exact hr
    · cases hd

theorem limSame {n : Nat} {x y : D} {w : Bool} (h : Sp.sameT n w x y = true) : evLim cx 12 [.d x, .d y, .d (.bool w)] [] = some (.ret (.d (.bool true)), []) := by
  refine T12_knows n 12 _ _ _ rfl ?_
  show go12 n (fun o s => some (o, s)) (x, y, w) = _
  simp only [go12, h, must, cond_true]

theorem limLists {n : Nat} {a b : List D} {w : Bool} (h : Sp.all2 (Sp.sameT n w) a b = true) (hl : a.length < 4294967296) : evLim cx 15 [.d (.sl 5 a), .d (.sl 5 b), .d (.bool w)] [] = some (.ret (.d (.bool true)), []) := by
  refine lim_bodyK (T12_knows (n + 1)) (N := 0) ?_
  have e : Sp.sameT (n + 1) w (D.agg [D.int IntKind.i64 (0 : Int), D.str [], D.sl 5 a, D.sl 1 [], D.int IntKind.i64 (0 : Int)]) (D.agg [D.int IntKind.i64 (0 : Int), D.str [], D.sl 5 b, D.sl 1 [], D.int IntKind.i64 (0 : Int)]) = true := by
    show (_ && _ && _ && _ && _ && _ && _) = true
    simp only [decide_true, h, Bool.and_true, Bool.true_and, Bool.or_true, Sp.all2, List.length_nil]
    simp [hl]
  rw [g15, e]
  rfl

end Go.Vai
end

section
namespace Go.Vai
open Go.Proofs

/-- The text of the first token at a place. -/
def Sp.begF (a : Int) : List D → Option (List UInt8)
  | [] => none
  | .agg [.int .i64 _, .str t, .int .i64 p] :: l => bif decide (p = a) then some t else Sp.begF a l
  | _ :: _ => none
def Sp.begT (l : List D) (a : Int) : Option (List UInt8) := Sp.begF a l
def dec32 : List V → St → Option (List D × Int)
  | [.d (.sl 3 l), .d (.int .i64 a)], [] => some (l, a)
  | _, _ => none
def go32 (K : Out → St → Option R1) : List D × Int → Option R1
  | (l, a) => must (Sp.short l) <| optK (Sp.begT l a) fun s => K (.ret (.tup [.d (.str s), .d (.bool true)])) []
theorem go32_ok (K : Out → St → Option R1) (q : List D × Int) : go32 K q = optP (go32 (fun o s => some (o, s)) q) K := by
  obtain ⟨l, a⟩ := q
  simp only [go32, must, optP_cond, optP_optK]
  rfl
noncomputable def T32 : CK R1 := more 32 dec32 go32 go32_ok (CK.plain none1)

/-- A tree and its parts begin at tokens, to some depth. -/
def Sp.withT : Nat → D → List D → Int → Bool
  | 0, _, _, _ => false
  | n + 1, x, l, a => match Sp.trOfD x with
    | some t => (match Sp.begT l t.pl with | some s => decide (a ≤ t.pl) && decide (1 ≤ t.k) && decide (t.k ≤ 17) && (!decide (t.k = 1) || decide (s = t.nm)) | none => false) && Sp.short l && decide (t.kids.length < 4294967296) && t.kids.all fun k => Sp.withT n k l t.pl
    | none => false
def dec14 : List V → St → Option (D × List D × Int)
  | [.d x, .d (.sl 3 l), .d (.int .i64 a)], [] => some (x, l, a)
  | _, _ => none
def go14 (n : Nat) (K : Out → St → Option R1) : D × List D × Int → Option R1
  | (x, l, a) => must (Sp.withT n x l a) (K (.ret (.d (.bool true))) [])
theorem go14_ok (n : Nat) (K : Out → St → Option R1) (q : D × List D × Int) : go14 n K q = optP (go14 n (fun o s => some (o, s)) q) K := by
  obtain ⟨x, l, a⟩ := q
  simp only [go14, must, optP_cond]
  rfl
noncomputable def T14 (n : Nat) : CK R1 := more 14 dec14 (go14 n) (go14_ok n) T32

theorem g32 (n : Nat) (S : CK R1) (l : List D) (a : Int) :
    evBody cx S n 32 [.d (.sl 3 l), .d (.int .i64 a)] [] =
  LP cx S n 32 0 2 n
    [(1, V.d (D.int IntKind.i64 a)), (8, V.d (D.sl 3 l)), (9, V.d (D.int IntKind.i64 (↑l.length : Int))),
      (10, V.d (D.int IntKind.i64 (0 : Int)))]
    [] (AK cx S n 32 0 2 (EK cx 32 0)) := by kernel_rfl

theorem g14 (n k : Nat) (t : Tr) (l : List D) (a : Int) :
    evBody cx (T14 k) n 14 [.d (trD t), .d (.sl 3 l), .d (.int .i64 a)] [] =
  must (Sp.short l)
    (optK (Sp.begT l t.pl) fun s =>
      bif decide (t.pl < a) then some (Out.ret (V.d (D.bool false)), [])
      else
        bif decide (t.k < (1 : Int)) then some (Out.ret (V.d (D.bool false)), [])
        else
          bif decide ((17 : Int) < t.k) then some (Out.ret (V.d (D.bool false)), [])
          else
            bif decide (t.k = (1 : Int)) then
              bif !decide (s = t.2) then some (Out.ret (V.d (D.bool false)), [])
              else
                LP cx (T14 k) n 14 0 5 n
                  [(1, V.d (D.sl 3 l)), (3, V.ptr 3 0), (48, V.d (D.sl 5 t.3)),
                    (49, V.d (D.int IntKind.i64 (↑t.3.length : Int))), (50, V.d (D.int IntKind.i64 (0 : Int)))]
                  [(3,
                      Ob.val 5
                        (V.d
                          (D.agg [D.int IntKind.i64 t.k, D.str t.2, D.sl 5 t.3, D.sl 1 t.4, D.int IntKind.i64 t.pl])))]
                  (AK cx (T14 k) n 14 0 5 (EK cx 14 0))
            else
              LP cx (T14 k) n 14 0 5 n
                [(1, V.d (D.sl 3 l)), (3, V.ptr 3 0), (48, V.d (D.sl 5 t.3)),
                  (49, V.d (D.int IntKind.i64 (↑t.3.length : Int))), (50, V.d (D.int IntKind.i64 (0 : Int)))]
                [(3,
                    Ob.val 5
                      (V.d (D.agg [D.int IntKind.i64 t.k, D.str t.2, D.sl 5 t.3, D.sl 1 t.4, D.int IntKind.i64 t.pl])))]
                (AK cx (T14 k) n 14 0 5 (EK cx 14 0))) := by kernel_rfl

theorem h32 (n k : Nat) (S : CK R1) (l : List D) (a i : Int) :
    LP cx S n 32 0 2 (k + 1) [(1, V.d (D.int IntKind.i64 a)), (8, V.d (D.sl 3 l)), (9, V.d (D.int IntKind.i64 (↑l.length : Int))), (10, V.d (D.int IntKind.i64 i))] [] (AK cx S n 32 0 2 (EK cx 32 0)) =
  bif decide (i < (↑l.length : Int)) then
    must (decide (0 ≤ i) && decide (i < (↑l.length : Int)))
      (nthD l i.toNat fun y =>
        OPS cx S n 32 0 3 1
          [(12, V.eptr y 0), (11, V.d (D.bool (decide (i < (↑l.length : Int))))), (1, V.d (D.int IntKind.i64 a)),
            (8, V.d (D.sl 3 l)), (9, V.d (D.int IntKind.i64 (↑l.length : Int))), (10, V.d (D.int IntKind.i64 i))]
          [] (RL cx S n 32 0 2 3 (inK cx S n 32 0 2 k (AK cx S n 32 0 2 (EK cx 32 0)))))
  else some (Out.ret (V.tup [V.d (D.str []), V.d (D.bool false)]), []) := by kernel_rfl

theorem h14 (n k m : Nat) (t : Tr) (l : List D) (i : Int) :
    LP cx (T14 m) n 14 0 5 (k + 1) [(1, V.d (D.sl 3 l)), (3, V.ptr 3 0), (48, V.d (D.sl 5 t.kids)), (49, V.d (D.int IntKind.i64 (↑t.kids.length : Int))), (50, V.d (D.int IntKind.i64 i))] [(3, Ob.val 5 (V.d (trD t)))] (AK cx (T14 m) n 14 0 5 (EK cx 14 0)) =
  bif decide (i < (↑t.kids.length : Int)) then
    must (decide (0 ≤ i) && decide (i < (↑t.3.length : Int)))
      (nthD t.3 i.toNat fun y =>
        bif y.cells.length.beq (cx.P.cellsOf 26) then
          asAgg y (cx.P.cellsOf 26) fun y =>
            must ((V.d y).cells.length.beq 5)
              (asAgg y (cx.P.cellsOf 26) fun y =>
                must (Sp.withT m y l t.pl)
                  (LP cx (T14 m) n 14 0 5 k
                    [(1, V.d (D.sl 3 l)), (3, V.ptr 3 0), (48, V.d (D.sl 5 t.3)),
                      (49, V.d (D.int IntKind.i64 (↑t.kids.length : Int))),
                      (50, V.d (D.int IntKind.i64 (IntKind.i64.wrap (i + (1 : Int)))))]
                    [(3,
                        Ob.val 5
                          (V.d
                            (D.agg
                              [D.int IntKind.i64 t.k, D.str t.2, D.sl 5 t.3, D.sl 1 t.4, D.int IntKind.i64 t.pl])))]
                    (AK cx (T14 m) n 14 0 5 (EK cx 14 0))))
        else
          must ((0 + cx.P.cellsOf 26).ble y.cells.length)
            (must ((V.d (D.agg (List.take (cx.P.cellsOf 26) (List.drop 0 y.cells)))).cells.length.beq 5)
              (bif (List.take (cx.P.cellsOf 26) (List.drop 0 y.cells)).length.beq (cx.P.cellsOf 26) then
                must (Sp.withT m (D.agg (List.take (cx.P.cellsOf 26) (List.drop 0 y.cells))) l t.pl)
                  (LP cx (T14 m) n 14 0 5 k
                    [(1, V.d (D.sl 3 l)), (3, V.ptr 3 0), (48, V.d (D.sl 5 t.3)),
                      (49, V.d (D.int IntKind.i64 (↑t.kids.length : Int))),
                      (50, V.d (D.int IntKind.i64 (IntKind.i64.wrap (i + (1 : Int)))))]
                    [(3,
                        Ob.val 5
                          (V.d
                            (D.agg
                              [D.int IntKind.i64 t.k, D.str t.2, D.sl 5 t.3, D.sl 1 t.4, D.int IntKind.i64 t.pl])))]
                    (AK cx (T14 m) n 14 0 5 (EK cx 14 0)))
              else none)))
  else some (Out.ret (V.d (D.bool true)), []) := by kernel_rfl

theorem k32 (n k : Nat) (S : CK R1) (l : List D) (a i q p : Int) (t : List UInt8) :
    OPS cx S n 32 0 3 1 [(12, V.eptr (tokD q t p) 0), (11, V.d (D.bool (decide (i < (↑l.length : Int))))), (1, V.d (D.int IntKind.i64 a)), (8, V.d (D.sl 3 l)), (9, V.d (D.int IntKind.i64 (↑l.length : Int))), (10, V.d (D.int IntKind.i64 i))] [] (RL cx S n 32 0 2 3 (inK cx S n 32 0 2 k (AK cx S n 32 0 2 (EK cx 32 0)))) =
  bif decide (p = a) then some (Out.ret (V.tup [V.d (D.str t), V.d (D.bool true)]), [])
  else
    LP cx S n 32 0 2 k
      [(1, V.d (D.int IntKind.i64 a)), (8, V.d (D.sl 3 l)), (9, V.d (D.int IntKind.i64 (↑l.length : Int))),
        (10, V.d (D.int IntKind.i64 (IntKind.i64.wrap (i + (1 : Int)))))]
      [] (AK cx S n 32 0 2 (EK cx 32 0)) := by kernel_rfl

theorem begF_some {a : Int} {s : List UInt8} : ∀ {l : List D}, Sp.begF a l = some s → ∃ pre q rest, l = pre ++ tokD q s a :: rest ∧ ∀ d ∈ pre, ∃ q t p, d = tokD q t p ∧ p ≠ a
  | [], h => by cases h
  | x :: l, h => by
    unfold Sp.begF at h
    split at h
    · cases h
    · rename_i q t p l' he
      cases he
      cases hp : decide (p = a) <;> rw [hp] at h
      · rw [cond_false] at h
        obtain ⟨pre, q', rest, rfl, hpre⟩ := begF_some h
        refine ⟨tokD q t p :: pre, q', rest, rfl, fun d hd => ?_⟩
        rcases List.mem_cons.1 hd with rfl | hd
        · exact ⟨_, _, _, rfl, of_decide_eq_false hp⟩
        · exact hpre d hd
      · cases h
        have := of_decide_eq_true hp
        subst this
        exact ⟨[], q, l, rfl, fun d hd => by cases hd⟩
    · cases h
theorem begT_some {a : Int} {s : List UInt8} {l : List D} (h : Sp.begT l a = some s) : ∃ pre q rest, l = pre ++ tokD q s a :: rest ∧ ∀ d ∈ pre, ∃ q t p, d = tokD q t p ∧ p ≠ a := begF_some h

theorem beg_loop (n : Nat) (S : CK R1) (l : List D) (a : Int) (hl : l.length < 4294967296) {q : Int} {s : List UInt8} {rest : List D} : ∀ (todo done : List D) (k : Nat), l = done ++ (todo ++ tokD q s a :: rest) → (∀ d ∈ todo, ∃ q t p, d = tokD q t p ∧ p ≠ a) → todo.length < k →
    LP cx S n 32 0 2 k [(1, V.d (D.int IntKind.i64 a)), (8, V.d (D.sl 3 l)), (9, V.d (D.int IntKind.i64 (↑l.length : Int))), (10, V.d (D.int IntKind.i64 (done.length : Int)))] [] (AK cx S n 32 0 2 (EK cx 32 0)) = some (.ret (.tup [.d (.str s), .d (.bool true)]), [])
  | todo, done, 0, _, _, hk => by omega
  | [], done, k + 1, he, _, _ => by
    have hlen : done.length < l.length := by rw [he]; simp
    have hx : l[done.length]? = some (tokD q s a) := by rw [he]; simp
    rw [h32, decide_eq_true (p := (done.length : Int) < (l.length : Int)) (by omega), decide_eq_true (p := (0 : Int) ≤ (done.length : Int)) (by omega)]
    simp only [cond_true, Bool.and_self, must, Int.toNat_natCast]
    have e := k32 n k S l a (done.length : Int) q a s
    rw [decide_eq_true (p := (done.length : Int) < (l.length : Int)) (by omega), decide_eq_true rfl, cond_true] at e
    rw [nthD_at hx, e]
  | x :: todo, done, k + 1, he, ht, hk => by
    have hlen : done.length < l.length := by rw [he]; simp
    have hx : l[done.length]? = some x := by rw [he]; simp
    obtain ⟨q', t, p, rfl, hp⟩ := ht x List.mem_cons_self
    rw [h32, decide_eq_true (p := (done.length : Int) < (l.length : Int)) (by omega), decide_eq_true (p := (0 : Int) ≤ (done.length : Int)) (by omega)]
    simp only [cond_true, Bool.and_self, must, Int.toNat_natCast]
    have e := k32 n k S l a (done.length : Int) q' p t
    rw [decide_eq_true (p := (done.length : Int) < (l.length : Int)) (by omega), decide_eq_false hp, cond_false, up_nat (by omega)] at e
    rw [nthD_at hx, e]
    have := beg_loop n S l a hl (q := q) (s := s) (rest := rest) todo (done ++ [tokD q' t p]) k (by rw [he]; simp) (fun d hd => ht d (List.mem_cons_of_mem _ hd)) (by simpa using hk)
    rw [List.length_append] at this
    exact this

theorem T32_knows : knows cx T32.S (evLim cx) := more_knows none1K_knows fun a σ q r hd h => by
  obtain ⟨l, p⟩ := q
  unfold dec32 at hd
  split at hd
  · cases hd
    simp only [go32] at h
    obtain ⟨hl, h⟩ := must_some h
    have hl' : l.length < 4294967296 := of_decide_eq_true hl
    obtain ⟨s, hs, h⟩ := optK_some h
    cases h
    obtain ⟨pre, q, rest, he, hpre⟩ := begT_some hs
    refine lim_bodyK (call := CK.plain none1) none1K_knows (N := pre.length + 1) ?_
    rw [g32]
    exact beg_loop (pre.length + 1) _ l p hl' (q := q) (rest := rest) pre [] (pre.length + 1) he hpre (by omega)
  · cases hd

theorem withT_spec {n : Nat} {x : D} {l : List D} {a : Int} (h : Sp.withT n x l a = true) : ∃ m t s, n = m + 1 ∧ x = trD t ∧ Sp.begT l t.pl = some s ∧ a ≤ t.pl ∧ 1 ≤ t.k ∧ t.k ≤ 17 ∧ (t.k = 1 → s = t.nm) ∧ Sp.short l = true ∧ t.kids.length < 4294967296 ∧ ∀ k ∈ t.kids, Sp.withT m k l t.pl = true := by
  cases n with
  | zero => cases h
  | succ m =>
    unfold Sp.withT at h
    split at h
    · rename_i t ht
      cases hb : Sp.begT l t.pl with
      | none => rw [hb] at h; simp at h
      | some s =>
        rw [hb] at h
        simp only [Bool.and_eq_true, decide_eq_true_eq, Bool.or_eq_true, Bool.not_eq_true', decide_eq_false_iff_not, List.all_eq_true] at h
        obtain ⟨⟨⟨⟨⟨⟨h1, h2⟩, h3⟩, h4⟩, h5⟩, h6⟩, h7⟩ := h
        exact ⟨m, t, s, rfl, trOfD_some ht, hb, h1, h2, h3, fun hk => h4.elim (fun h => absurd hk h) id, h5, h6, h7⟩
    · cases h

theorem in_loop (n m : Nat) (t : Tr) (l : List D) (hl : t.kids.length < 4294967296) (H : ∀ k ∈ t.kids, Sp.withT m k l t.pl = true) :
    ∀ (N j k : Nat), t.kids.length - j ≤ N → N < k → j ≤ t.kids.length →
    LP cx (T14 m) n 14 0 5 k [(1, V.d (D.sl 3 l)), (3, V.ptr 3 0), (48, V.d (D.sl 5 t.kids)), (49, V.d (D.int IntKind.i64 (↑t.kids.length : Int))), (50, V.d (D.int IntKind.i64 (j : Int)))] [(3, Ob.val 5 (V.d (trD t)))] (AK cx (T14 m) n 14 0 5 (EK cx 14 0)) = some (.ret (.d (.bool true)), []) := by
  intro N
  induction N with
  | zero =>
    intro j k hN hk hj
    obtain ⟨k, rfl⟩ : ∃ i, k = i + 1 := ⟨k - 1, by omega⟩
    rw [h14, decide_eq_false (by omega), cond_false]
  | succ N ih =>
    intro j k hN hk hj
    obtain ⟨k, rfl⟩ : ∃ i, k = i + 1 := ⟨k - 1, by omega⟩
    by_cases hlt : j < t.kids.length
    · have hx : t.kids[j]? = some t.kids[j] := List.getElem?_eq_getElem hlt
      have hs := H _ (List.getElem_mem hlt)
      obtain ⟨m', u, s, rfl, hx', _⟩ := withT_spec hs
      rw [hx'] at hs hx
      rw [h14, decide_eq_true (p := (j : Int) < (t.kids.length : Int)) (by omega), decide_eq_true (p := (0 : Int) ≤ (j : Int)) (by omega)]
      simp only [cond_true, Bool.and_self, must, Int.toNat_natCast]
      rw [nthD_at hx]
      have e1 : (trD u).cells.length.beq (cx.P.cellsOf 26) = true := by kernel_rfl
      have f1 : ∀ {R : Type} (K : D → Option R), asAgg (trD u) (cx.P.cellsOf 26) K = K (trD u) := fun K => asAgg_at e1
      have e3 : (V.d (trD u)).cells.length.beq 5 = true := by kernel_rfl
      rw [e1, cond_true, f1, e3, cond_true, f1, hs, cond_true, up_nat (by omega)]
      exact ih (j + 1) k (by omega) (by omega) hlt
    · rw [h14, decide_eq_false (by omega), cond_false]

theorem T14_knows : ∀ n, knows cx (T14 n).S (evLim cx)
  | 0 => more_knows T32_knows fun a σ q r hd h => by
    obtain ⟨x, y, w⟩ := q
    cases h
  | n + 1 => more_knows T32_knows fun a σ q r hd h => by
    obtain ⟨x, l, a⟩ := q
    simp only [go14] at h
    obtain ⟨hs, h⟩ := must_some h
    cases h
    unfold dec14 at hd
    split at hd
    · cases hd
      obtain ⟨m, t, s, hm, rfl, h1, h2, h3, h4, h5, h6, h7, h8⟩ := withT_spec hs
      cases hm
      obtain ⟨N, n1⟩ : ∃ N, t.kids.length < N := ⟨t.kids.length + 1, by omega⟩
      refine lim_bodyK (T14_knows n) (N := N) ?_
      have hK := in_loop N n t l h7 h8 t.kids.length 0 N (by omega) n1 (Nat.zero_le _)
      rw [g14, h6, h1, decide_eq_false (p := t.pl < a) (by omega), decide_eq_false (p := t.k < 1) (by omega), decide_eq_false (p := 17 < t.k) (by omega)]
      simp only [must, cond_true, cond_false, optK_now]
      by_cases hk : t.k = 1
      · rw [decide_eq_true hk, decide_eq_true (h5 hk)]
        exact hK
      · rw [decide_eq_false hk]
        exact hK
    · cases hd

theorem limWithin {n : Nat} {x : D} {l : List D} {a : Int} (h : Sp.withT n x l a = true) : evLim cx 14 [.d x, .d (.sl 3 l), .d (.int .i64 a)] [] = some (.ret (.d (.bool true)), []) := by
  refine T14_knows n 14 _ _ _ rfl ?_
  show go14 n (fun o s => some (o, s)) (x, l, a) = _
  simp only [go14, h, must, cond_true]

end Go.Vai
end

section
namespace Go.Vai
open Go.Proofs
theorem lim9w : evLim cx 9 [] [] = some (.ret (.d (.bool true)), []) := lim_of (n := 60) (by kernel_rfl)

end Go.Vai
end

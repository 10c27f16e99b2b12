/-
  Lex: lex.Scan.
  Lex: the reference: is it a text?
  Lex: the reference: is it a text? The outer loop.
  Lex: the reference: is it a text? The whole.
  Lex: the reference: signs.
  Lex: the reference: the tokens of a text.
  Lex: the reference: Scan.
  Lex: the same tokens; the chapter's examples; the law LexScans.
  Lex: is a text just what is let by?
  Lex: what a text's tokens are like; the law LexCovers.
  Lex: what tokens are like; texts joined.
  Lex: the law LexJoins.
  Lex: the law LexBytes.
-/
import Derived.Test.YtkaopadaeefoiaaDoorLexPart2

set_option linter.all false
set_option linter.unusedSimpArgs false
set_option linter.unusedVariables false

section
namespace Go.Vai
open Go.Proofs

theorem lim12n : evLim cx 12 [.d (.str [])] [] = some (.ret (.tup [.d (.int .i32 65533), .d (.int .i64 0)]), []) := lim_of (n := 10) (by kernel_rfl)

theorem lim12 : ∀ (s : List UInt8), evLim cx 12 [.d (.str s)] [] = some (.ret (.tup [.d (.int .i32 (Sp.dec s).1), .d (.int .i64 (Sp.dec s).2)]), [])
  | [] => by
    have e : Sp.dec [] = (65533, 0) := by unfold Sp.dec; rw [lim12n]
    rw [e]; exact lim12n
  | b :: r => by
    obtain ⟨x, n, h, _⟩ := lim12c b r
    have e : Sp.dec (b :: r) = (x, n) := by unfold Sp.dec; rw [h]
    rw [e]; exact h

theorem decOk : DecOk := by
  intro l hl
  cases l with
  | nil => exact absurd rfl hl
  | cons b r =>
    obtain ⟨x, n, h, h2⟩ := lim12c b r
    have e : Sp.dec (b :: r) = (x, n) := by unfold Sp.dec; rw [h]
    rw [e]; exact h2

theorem S7_knows : knows cx S7 (evLim cx) := by
  refine also_knows (also_knows (also_knows (none1_knows cx) ?_) ?_) ?_
  · intro args o hd h
    unfold oneF at h
    split at h
    · cases h; exact lim14 _ (of_decide_eq_true hd)
    · cases h
  · intro args o hd h
    unfold pastF at h
    split at h
    · cases h
      rename_i s a
      have hd' : (decide (s.length ≤ big) && (decide (0 ≤ a) && decide (a ≤ (s.length : Int)))) = true := hd
      simp only [Bool.and_eq_true, decide_eq_true_eq] at hd'
      obtain ⟨h1, h2, h3⟩ := hd'
      have := lim13 s a.toNat h1 (by omega)
      rw [show ((a.toNat : Nat) : Int) = a by omega] at this
      exact this
    · cases h
  · intro args o _ h
    unfold decF at h
    split at h
    · cases h; exact lim12 _
    · cases h

theorem lim7 (s : List UInt8) : evLim cx 7 [.d (.str s)] [] = scanRes (Sp.scan s) := by
  unfold Sp.scan
  by_cases h : 65536 < s.length
  · rw [decide_eq_true h, cond_true]
    refine lim_body (N := 0) S7_knows ?_
    rw [b7, decide_eq_true (p := (65536 : Int) < (s.length : Int)) (by omega)]
    rfl
  · rw [decide_eq_false h, cond_false]
    have hl := utf_loop decOk (s := s) (by omega) (n := s.length + 1) (by omega) s.length 0 (s.length + 1) (by omega) (by omega) (Nat.zero_le _)
    rw [List.drop_zero] at hl
    have : evBody cx S7 (s.length + 1) 7 [.d (.str s)] [] = utfRes s (Sp.utfGo s.length s 0) := by
      rw [b7, decide_eq_false (p := (65536 : Int) < (s.length : Int)) (by omega), cond_false]
      exact hl
    cases hu : Sp.utfGo s.length s 0 with
    | none => rw [hu] at this; exact lim_body (N := s.length + 1) S7_knows this
    | some p => rw [hu] at this; exact lim_body (N := s.length + 1) S7_knows this

end Go.Vai
end

section
namespace Go.Vai
open Go.Proofs

def moreF : List V → Option Out | [.d (.int .u8 c)] => some (.ret (.tup [.d (.int .i64 (Sp.moreN c)), .d (.int .i64 (Sp.moreL c))])) | _ => none
noncomputable def S15 : Caller := also 23 moreF none1

theorem S15_knows : knows cx S15 (evLim cx) := also_knows (none1_knows cx) fun args o _ h => by
  unfold moreF at h
  split at h
  · cases h; exact lim23 _
  · cases h

theorem b15 (n : Nat) (s : List UInt8) :
    evBody cx S15 n 15 [.d (.str s)] [] =
  LP cx S15 n 15 0 2 n [(0, V.d (D.str s)), (3, V.d (D.int IntKind.i64 (0 : Int)))] []
    (AK cx S15 n 15 0 2 (EK cx 15 0)) := by kernel_rfl

theorem l15 (n k : Nat) (s : List UInt8) (i : Int) :
    LP cx S15 n 15 0 2 (k+1) [(0, .d (.str s)), (3, .d (.int .i64 i))] [] (AK cx S15 n 15 0 2 (EK cx 15 0)) =
  bif decide (i < (↑s.length : Int)) then
    must (decide (0 ≤ i) && decide (i < (↑s.length : Int)))
      (optK s[i.toNat]? fun b =>
        bif decide (Sp.moreN (↑b.toNat : Int) < (0 : Int)) then some (Out.ret (V.d (D.int IntKind.i64 i)), [])
        else
          bif decide ((↑s.length : Int) ≤ IntKind.i64.wrap (i + Sp.moreN (↑b.toNat : Int))) then
            bif decide ((0 : Int) < Sp.moreN (↑b.toNat : Int)) then some (Out.ret (V.d (D.int IntKind.i64 i)), [])
            else
              must (decide (0 ≤ i) && decide (i < (↑s.length : Int)))
                (optK s[i.toNat]? fun b_1 =>
                  must (decide (0 ≤ Sp.moreN (↑b.toNat : Int)) && decide (Sp.moreN (↑b.toNat : Int) < (↑4 : Int)))
                    (bif (0 + (Sp.moreN (↑b.toNat : Int)).toNat * cx.P.cellsOf 3).beq 0 && false then none
                    else
                      nthV
                        (V.d
                            (D.agg
                              [D.int IntKind.i64 (128 : Int), D.int IntKind.i64 (32 : Int),
                                D.int IntKind.i64 (16 : Int), D.int IntKind.i64 (8 : Int)])).cells
                        (0 + (Sp.moreN (↑b.toNat : Int)).toNat * cx.P.cellsOf 3) fun c =>
                        match c with
                        | V.d x =>
                          match x with
                          | D.int k' n_1 =>
                            bif decide (k' = IntKind.i64) then
                              must (!decide (n_1 = 0))
                                (LP cx S15 n 15 0 9 n
                                  [(0, V.d (D.str s)), (3, V.d (D.int IntKind.i64 i)),
                                    (4, V.d (D.int IntKind.i64 (Sp.moreN (↑b.toNat : Int)))),
                                    (5, V.d (D.int IntKind.i64 (Sp.moreL (↑b.toNat : Int)))),
                                    (7, V.d (D.int IntKind.i64 ((IntKind.i64.wrap (↑b_1.toNat : Int)).tmod n_1))),
                                    (8, V.d (D.int IntKind.i64 (1 : Int)))]
                                  [] (AL cx S15 n 15 0 2 9 (inK cx S15 n 15 0 2 k (AK cx S15 n 15 0 2 (EK cx 15 0)))))
                            else none
                          | x => none
                        | v =>
                          must
                            (decide (v.aggV = aggTy cx.P 3) &&
                              !match v with
                                | V.tup l => true
                                | x => false)
                            (match V.d (D.int IntKind.i64 (IntKind.i64.wrap (↑b_1.toNat : Int))), v with
                            | V.d (D.int k_1 a), V.d (D.int k' b_2) =>
                              bif decide (k_1 = k') then
                                must (!decide (b_2 = 0))
                                  (LP cx S15 n 15 0 9 n
                                    [(0, V.d (D.str s)), (3, V.d (D.int IntKind.i64 i)),
                                      (4, V.d (D.int IntKind.i64 (Sp.moreN (↑b.toNat : Int)))),
                                      (5, V.d (D.int IntKind.i64 (Sp.moreL (↑b.toNat : Int)))),
                                      (7, V.d (D.int k_1 (a.tmod b_2))), (8, V.d (D.int IntKind.i64 (1 : Int)))]
                                    [] (AL cx S15 n 15 0 2 9 (inK cx S15 n 15 0 2 k (AK cx S15 n 15 0 2 (EK cx 15 0)))))
                              else none
                            | V.d (D.str a), V.d (D.str b) => none
                            | V.d (D.bool a), V.d (D.bool b) => none
                            | V.d (D.iface t x), V.d D.nilIface => none
                            | V.iface t v, V.d D.nilIface => none
                            | V.d D.nilIface, V.d D.nilIface => none
                            | V.ptr id off, V.d D.nilptr => none
                            | V.d D.nilptr, V.d D.nilptr => none
                            | x, x_1 => none)))
          else
            must (decide (0 ≤ i) && decide (i < (↑s.length : Int)))
              (optK s[i.toNat]? fun b_1 =>
                must (decide (0 ≤ Sp.moreN (↑b.toNat : Int)) && decide (Sp.moreN (↑b.toNat : Int) < (↑4 : Int)))
                  (bif (0 + (Sp.moreN (↑b.toNat : Int)).toNat * cx.P.cellsOf 3).beq 0 && false then none
                  else
                    nthV
                      (V.d
                          (D.agg
                            [D.int IntKind.i64 (128 : Int), D.int IntKind.i64 (32 : Int),
                              D.int IntKind.i64 (16 : Int), D.int IntKind.i64 (8 : Int)])).cells
                      (0 + (Sp.moreN (↑b.toNat : Int)).toNat * cx.P.cellsOf 3) fun c =>
                      match c with
                      | V.d x =>
                        match x with
                        | D.int k' n_1 =>
                          bif decide (k' = IntKind.i64) then
                            must (!decide (n_1 = 0))
                              (LP cx S15 n 15 0 9 n
                                [(0, V.d (D.str s)), (3, V.d (D.int IntKind.i64 i)),
                                  (4, V.d (D.int IntKind.i64 (Sp.moreN (↑b.toNat : Int)))),
                                  (5, V.d (D.int IntKind.i64 (Sp.moreL (↑b.toNat : Int)))),
                                  (7, V.d (D.int IntKind.i64 ((IntKind.i64.wrap (↑b_1.toNat : Int)).tmod n_1))),
                                  (8, V.d (D.int IntKind.i64 (1 : Int)))]
                                [] (AL cx S15 n 15 0 2 9 (inK cx S15 n 15 0 2 k (AK cx S15 n 15 0 2 (EK cx 15 0)))))
                          else none
                        | x => none
                      | v =>
                        must
                          (decide (v.aggV = aggTy cx.P 3) &&
                            !match v with
                              | V.tup l => true
                              | x => false)
                          (match V.d (D.int IntKind.i64 (IntKind.i64.wrap (↑b_1.toNat : Int))), v with
                          | V.d (D.int k_1 a), V.d (D.int k' b_2) =>
                            bif decide (k_1 = k') then
                              must (!decide (b_2 = 0))
                                (LP cx S15 n 15 0 9 n
                                  [(0, V.d (D.str s)), (3, V.d (D.int IntKind.i64 i)),
                                    (4, V.d (D.int IntKind.i64 (Sp.moreN (↑b.toNat : Int)))),
                                    (5, V.d (D.int IntKind.i64 (Sp.moreL (↑b.toNat : Int)))),
                                    (7, V.d (D.int k_1 (a.tmod b_2))), (8, V.d (D.int IntKind.i64 (1 : Int)))]
                                  [] (AL cx S15 n 15 0 2 9 (inK cx S15 n 15 0 2 k (AK cx S15 n 15 0 2 (EK cx 15 0)))))
                            else none
                          | V.d (D.str a), V.d (D.str b) => none
                          | V.d (D.bool a), V.d (D.bool b) => none
                          | V.d (D.iface t x), V.d D.nilIface => none
                          | V.iface t v, V.d D.nilIface => none
                          | V.d D.nilIface, V.d D.nilIface => none
                          | V.ptr id off, V.d D.nilptr => none
                          | V.d D.nilptr, V.d D.nilptr => none
                          | x, x_1 => none))))
  else some (Out.ret (V.d (D.int IntKind.i64 (Int.negSucc 0))), []) := by kernel_rfl

theorem l15i (n k k' : Nat) (s : List UInt8) (i m low q p : Int) :
    LP cx S15 n 15 0 9 (k+1) [(0, .d (.str s)), (3, .d (.int .i64 i)), (4, .d (.int .i64 m)), (5, .d (.int .i64 low)), (7, .d (.int .i64 q)), (8, .d (.int .i64 p))] [] (AL cx S15 n 15 0 2 9 (inK cx S15 n 15 0 2 k' (AK cx S15 n 15 0 2 (EK cx 15 0)))) =
  bif decide (p ≤ m) then
    must (decide (0 ≤ IntKind.i64.wrap (i + p)) && decide (IntKind.i64.wrap (i + p) < (↑s.length : Int)))
      (optK s[(IntKind.i64.wrap (i + p)).toNat]? fun b =>
        bif decide (IntKind.i64.wrap (↑b.toNat : Int) < (128 : Int)) then
          some (Out.ret (V.d (D.int IntKind.i64 i)), [])
        else
          bif decide ((191 : Int) < IntKind.i64.wrap (↑b.toNat : Int)) then
            some (Out.ret (V.d (D.int IntKind.i64 i)), [])
          else
            LP cx S15 n 15 0 9 k
              [(0, V.d (D.str s)), (3, V.d (D.int IntKind.i64 i)), (4, V.d (D.int IntKind.i64 m)),
                (5, V.d (D.int IntKind.i64 low)),
                (7,
                  V.d
                    (D.int IntKind.i64
                      (IntKind.i64.wrap
                        (IntKind.i64.wrap (IntKind.i64.wrap (q * (64 : Int)) + IntKind.i64.wrap (↑b.toNat : Int)) -
                          (128 : Int))))),
                (8, V.d (D.int IntKind.i64 (IntKind.i64.wrap (p + (1 : Int)))))]
              [] (AL cx S15 n 15 0 2 9 (inK cx S15 n 15 0 2 k' (AK cx S15 n 15 0 2 (EK cx 15 0)))))
  else
    bif decide (q < low) then some (Out.ret (V.d (D.int IntKind.i64 i)), [])
    else
      bif decide ((1114111 : Int) < q) then some (Out.ret (V.d (D.int IntKind.i64 i)), [])
      else
        bif decide ((55296 : Int) ≤ q) then
          bif decide (q ≤ (57343 : Int)) then some (Out.ret (V.d (D.int IntKind.i64 i)), [])
          else
            LP cx S15 n 15 0 2 k'
              [(0, V.d (D.str s)),
                (3, V.d (D.int IntKind.i64 (IntKind.i64.wrap (IntKind.i64.wrap (i + m) + (1 : Int)))))]
              [] (AK cx S15 n 15 0 2 (EK cx 15 0))
        else
          LP cx S15 n 15 0 2 k'
            [(0, V.d (D.str s)),
              (3, V.d (D.int IntKind.i64 (IntKind.i64.wrap (IntKind.i64.wrap (i + m) + (1 : Int)))))]
            [] (AK cx S15 n 15 0 2 (EK cx 15 0)) := by kernel_rfl

theorem wrapN {x : Int} (h0 : -4611686018427387904 ≤ x) (h1 : x ≤ 4711686018427387904) : IntKind.i64.wrap x = x := IntWalk.i64_in _ (by omega)

theorem byteLt (b : UInt8) : b.toNat < 256 := b.toNat_lt

/-- The frame of the loop over what follows in a scalar value. -/
abbrev frI (s : List UInt8) (i m low q p : Int) : Fr := [(0, .d (.str s)), (3, .d (.int .i64 i)), (4, .d (.int .i64 m)), (5, .d (.int .i64 low)), (7, .d (.int .i64 q)), (8, .d (.int .i64 p))]

theorem inner_at {s : List UInt8} (hs : s.length ≤ 4611686018427387904) {n k k' j p : Nat} {m low q : Int} {c : UInt8} (hp : (p : Int) ≤ m) (hm : m ≤ 3) (hg : s[j + p]? = some c) (hq : 0 ≤ q) (hq2 : q ≤ 100000000) :
    LP cx S15 n 15 0 9 (k+1) (frI s j m low q p) [] (AL cx S15 n 15 0 2 9 (inK cx S15 n 15 0 2 k' (AK cx S15 n 15 0 2 (EK cx 15 0)))) =
    bif Sp.cont c then LP cx S15 n 15 0 9 k (frI s j m low (q * 64 + c.toNat - 128) ((p + 1 : Nat) : Int)) [] (AL cx S15 n 15 0 2 9 (inK cx S15 n 15 0 2 k' (AK cx S15 n 15 0 2 (EK cx 15 0))))
    else some (.ret (.d (.int .i64 (j : Int))), []) := by
  have hlt : j + p < s.length := (List.getElem?_eq_some_iff.1 hg).1
  have hc := byteLt c
  rw [l15i]
  have w1 : IntKind.i64.wrap ((j : Int) + (p : Int)) = ((j + p : Nat) : Int) := by rw [wrapN (by omega) (by omega)]; omega
  have w2 : IntKind.i64.wrap (c.toNat : Int) = c.toNat := wrapN (by omega) (by omega)
  have w3 : IntKind.i64.wrap (q * 64) = q * 64 := wrapN (by omega) (by omega)
  have w4 : IntKind.i64.wrap (q * 64 + (c.toNat : Int)) = q * 64 + c.toNat := wrapN (by omega) (by omega)
  have w5 : IntKind.i64.wrap (q * 64 + (c.toNat : Int) - 128) = q * 64 + c.toNat - 128 := wrapN (by omega) (by omega)
  have w6 : IntKind.i64.wrap ((p : Int) + 1) = ((p + 1 : Nat) : Int) := by rw [wrapN (by omega) (by omega)]; omega
  simp only [w1, w2, w3, w4, w5, w6, decide_eq_true hp, decide_eq_true (p := (0 : Int) ≤ ((j + p : Nat) : Int)) (by omega), decide_eq_true (p := ((j + p : Nat) : Int) < (s.length : Int)) (by omega), Bool.and_self, must, cond_true, Int.toNat_natCast, hg, optK]
  unfold Sp.cont
  by_cases h1 : (c.toNat : Int) < 128
  · rw [decide_eq_true h1, decide_eq_false (p := 128 ≤ c.toNat) (by omega)]; rfl
  · rw [decide_eq_false h1, decide_eq_true (p := 128 ≤ c.toNat) (by omega)]
    by_cases h2 : (191 : Int) < (c.toNat : Int)
    · rw [decide_eq_true h2, decide_eq_false (p := c.toNat ≤ 191) (by omega)]; rfl
    · rw [decide_eq_false h2, decide_eq_true (p := c.toNat ≤ 191) (by omega)]; rfl

end Go.Vai
end

section
namespace Go.Vai
open Go.Proofs

abbrev heads : D := .agg [.int .i64 128, .int .i64 32, .int .i64 16, .int .i64 8]

theorem head0 {R : Type} (F : V → Option R) : nthV (V.d heads).cells (0 + (0 : Int).toNat * cx.P.cellsOf 3) F = F (.d (.int .i64 128)) := by kernel_rfl
theorem head1 {R : Type} (F : V → Option R) : nthV (V.d heads).cells (0 + (1 : Int).toNat * cx.P.cellsOf 3) F = F (.d (.int .i64 32)) := by kernel_rfl
theorem head2 {R : Type} (F : V → Option R) : nthV (V.d heads).cells (0 + (2 : Int).toNat * cx.P.cellsOf 3) F = F (.d (.int .i64 16)) := by kernel_rfl
theorem head3 {R : Type} (F : V → Option R) : nthV (V.d heads).cells (0 + (3 : Int).toNat * cx.P.cellsOf 3) F = F (.d (.int .i64 8)) := by kernel_rfl

/-- No scalar value begins so, or too little follows. -/
theorem outer_bad {s : List UInt8} (hs : s.length ≤ 4611686018427387904) {n k j : Nat} {b : UInt8} (hg : s[j]? = some b) (h : Sp.moreN b.toNat < 0 ∨ (0 < Sp.moreN b.toNat ∧ Sp.moreN b.toNat ≤ 3 ∧ (s.length : Int) ≤ j + Sp.moreN b.toNat)) :
    LP cx S15 n 15 0 2 (k+1) [(0, .d (.str s)), (3, .d (.int .i64 (j : Int)))] [] (AK cx S15 n 15 0 2 (EK cx 15 0)) = some (.ret (.d (.int .i64 (j : Int))), []) := by
  have hlt : j < s.length := (List.getElem?_eq_some_iff.1 hg).1
  rw [l15]
  simp only [decide_eq_true (p := (j : Int) < (s.length : Int)) (by omega), decide_eq_true (p := (0 : Int) ≤ (j : Int)) (by omega), Bool.and_self, must, cond_true, Int.toNat_natCast, hg, optK]
  rcases h with h | ⟨h1, h2, h3⟩
  · rw [decide_eq_true h]; rfl
  · rw [decide_eq_false (p := Sp.moreN b.toNat < 0) (by omega), wrapN (x := (j : Int) + Sp.moreN b.toNat) (by omega) (by omega), decide_eq_true h3, decide_eq_true h1]; rfl

theorem outer_in {s : List UInt8} (hs : s.length ≤ 4611686018427387904) {n k j : Nat} {b : UInt8} {m : Int} (hg : s[j]? = some b) (hm : Sp.moreN b.toNat = m) (h0 : 0 ≤ m) (h3 : m ≤ 3) (hle : (j : Int) + m < s.length) :
    LP cx S15 n 15 0 2 (k+1) [(0, .d (.str s)), (3, .d (.int .i64 (j : Int)))] [] (AK cx S15 n 15 0 2 (EK cx 15 0)) =
    LP cx S15 n 15 0 9 n (frI s j m (Sp.moreL b.toNat) ((b.toNat : Int) % (if m = 0 then 128 else if m = 1 then 32 else if m = 2 then 16 else 8)) 1) [] (AL cx S15 n 15 0 2 9 (inK cx S15 n 15 0 2 k (AK cx S15 n 15 0 2 (EK cx 15 0)))) := by
  have hlt : j < s.length := (List.getElem?_eq_some_iff.1 hg).1
  have hb := byteLt b
  have wb : IntKind.i64.wrap (b.toNat : Int) = b.toNat := wrapN (by omega) (by omega)
  rw [l15]
  simp only [decide_eq_true (p := (j : Int) < (s.length : Int)) (by omega), decide_eq_true (p := (0 : Int) ≤ (j : Int)) (by omega), Bool.and_self, must, cond_true, Int.toNat_natCast, hg, optK, hm,
    decide_eq_false (p := m < 0) (by omega), cond_false, wrapN (x := (j : Int) + m) (by omega) (by omega), decide_eq_false (p := (s.length : Int) ≤ (j : Int) + m) (by omega), decide_eq_true h0,
    decide_eq_true (p := m < ((4 : Nat) : Int)) (by omega), Bool.and_false, wb]
  have hk : ∀ d : Int, 0 < d → (b.toNat : Int).tmod d = (b.toNat : Int) % d := fun d _ => Int.tmod_eq_emod_of_nonneg (by omega)
  obtain rfl | rfl | rfl | rfl : m = 0 ∨ m = 1 ∨ m = 2 ∨ m = 3 := by omega
  · rw [head0]; simp [hk]
  · rw [head1]; simp [hk]
  · rw [head2]; simp [hk]
  · rw [head3]; simp [hk]

end Go.Vai
end

section
namespace Go.Vai
open Go.Proofs

abbrev frO (s : List UInt8) (i : Int) : Fr := [(0, .d (.str s)), (3, .d (.int .i64 i))]

theorem inner_end {s : List UInt8} (hs : s.length ≤ 4611686018427387904) {n k k' j : Nat} {m low q p : Int} (hj : j ≤ s.length) (h0 : 0 ≤ m) (h3 : m ≤ 3) (hp : m < p) :
    LP cx S15 n 15 0 9 (k+1) (frI s j m low q p) [] (AL cx S15 n 15 0 2 9 (inK cx S15 n 15 0 2 k' (AK cx S15 n 15 0 2 (EK cx 15 0)))) =
    bif decide (low ≤ q) && decide (q ≤ 1114111) && !(decide (55296 ≤ q) && decide (q ≤ 57343)) then LP cx S15 n 15 0 2 k' (frO s ((j : Int) + m + 1)) [] (AK cx S15 n 15 0 2 (EK cx 15 0))
    else some (.ret (.d (.int .i64 (j : Int))), []) := by
  rw [l15i]
  rw [decide_eq_false (p := p ≤ m) (by omega), cond_false, wrapN (x := (j : Int) + m) (by omega) (by omega), wrapN (x := (j : Int) + m + 1) (by omega) (by omega)]
  by_cases h1 : q < low
  · rw [decide_eq_true h1, decide_eq_false (p := low ≤ q) (by omega)]; rfl
  · rw [decide_eq_false h1, decide_eq_true (p := low ≤ q) (by omega), cond_false]
    by_cases h2 : 1114111 < q
    · rw [decide_eq_true h2, decide_eq_false (p := q ≤ 1114111) (by omega)]; rfl
    · rw [decide_eq_false h2, decide_eq_true (p := q ≤ 1114111) (by omega), cond_false]
      cases decide ((55296 : Int) ≤ q) <;> cases decide (q ≤ (57343 : Int)) <;> rfl

theorem moreN_of {b : UInt8} : Sp.moreN b.toNat = if b.toNat < 128 then 0 else if 194 ≤ b.toNat ∧ b.toNat ≤ 223 then 1 else if 224 ≤ b.toNat ∧ b.toNat ≤ 239 then 2 else if 240 ≤ b.toNat ∧ b.toNat ≤ 244 then 3 else -1 := by
  unfold Sp.moreN
  by_cases h1 : b.toNat < 128
  · rw [decide_eq_true (p := (b.toNat : Int) < 128) (by omega), if_pos h1]; rfl
  · rw [decide_eq_false (p := (b.toNat : Int) < 128) (by omega), if_neg h1, cond_false]
    simp only [Bool.cond_eq_ite, Bool.and_eq_true, decide_eq_true_eq]
    congr 1
    · exact propext ⟨fun h => by omega, fun h => by omega⟩
    · congr 1
      · exact propext ⟨fun h => by omega, fun h => by omega⟩
      · congr 1
        exact propext ⟨fun h => by omega, fun h => by omega⟩

theorem moreL_of {b : UInt8} : Sp.moreL b.toNat = if b.toNat < 128 then 0 else if 194 ≤ b.toNat ∧ b.toNat ≤ 223 then 128 else if 224 ≤ b.toNat ∧ b.toNat ≤ 239 then 2048 else if 240 ≤ b.toNat ∧ b.toNat ≤ 244 then 65536 else 0 := by
  unfold Sp.moreL
  by_cases h1 : b.toNat < 128
  · rw [decide_eq_true (p := (b.toNat : Int) < 128) (by omega), if_pos h1]; rfl
  · rw [decide_eq_false (p := (b.toNat : Int) < 128) (by omega), if_neg h1, cond_false]
    simp only [Bool.cond_eq_ite, Bool.and_eq_true, decide_eq_true_eq]
    congr 1
    · exact propext ⟨fun h => by omega, fun h => by omega⟩
    · congr 1
      · exact propext ⟨fun h => by omega, fun h => by omega⟩
      · congr 1
        exact propext ⟨fun h => by omega, fun h => by omega⟩

theorem drop_at {s : List UInt8} {j i : Nat} {l : List UInt8} (h : s.drop j = l) : s[j + i]? = l[i]? := by
  rw [← h, List.getElem?_drop]

theorem inner_lit {s : List UInt8} (hs : s.length ≤ 4611686018427387904) {n k k' j : Nat} {m low q P P' : Int} {c : UInt8} (p : Nat) (hP : P = p) (hP' : P' = P + 1) (hp : P ≤ m) (hm : m ≤ 3) (hg : s[j + p]? = some c) (hq : 0 ≤ q) (hq2 : q ≤ 100000000) :
    LP cx S15 n 15 0 9 (k+1) (frI s j m low q P) [] (AL cx S15 n 15 0 2 9 (inK cx S15 n 15 0 2 k' (AK cx S15 n 15 0 2 (EK cx 15 0)))) =
    bif Sp.cont c then LP cx S15 n 15 0 9 k (frI s j m low (q * 64 + c.toNat - 128) P') [] (AL cx S15 n 15 0 2 9 (inK cx S15 n 15 0 2 k' (AK cx S15 n 15 0 2 (EK cx 15 0))))
    else some (.ret (.d (.int .i64 (j : Int))), []) := by
  subst hP'
  subst hP
  rw [inner_at hs hp hm hg hq hq2]
  rfl

theorem first_cont {b c : UInt8} (_ : True) (hc : Sp.cont c = false) : (decide ((bif decide (b.toNat = 224) then 160 else 128) ≤ c.toNat) && decide (c.toNat ≤ (bif decide (b.toNat = 237) then 159 else 191))) = false := by
  have hc' : ¬ (128 ≤ c.toNat ∧ c.toNat ≤ 191) := by
    intro h; rw [Sp.cont, decide_eq_true h.1, decide_eq_true h.2] at hc; cases hc
  rw [Bool.eq_false_iff]
  intro hh
  simp only [Bool.and_eq_true, decide_eq_true_eq, Bool.cond_eq_ite] at hh
  apply hc'
  split at hh <;> split at hh <;> omega

theorem first_cont4 {b c : UInt8} (_ : True) (hc : Sp.cont c = false) : (decide ((bif decide (b.toNat = 240) then 144 else 128) ≤ c.toNat) && decide (c.toNat ≤ (bif decide (b.toNat = 244) then 143 else 191))) = false := by
  have hc' : ¬ (128 ≤ c.toNat ∧ c.toNat ≤ 191) := by
    intro h; rw [Sp.cont, decide_eq_true h.1, decide_eq_true h.2] at hc; cases hc
  rw [Bool.eq_false_iff]
  intro hh
  simp only [Bool.and_eq_true, decide_eq_true_eq, Bool.cond_eq_ite] at hh
  apply hc'
  split at hh <;> split at hh <;> omega

theorem cond3 {b c d : UInt8} (hb : 224 ≤ b.toNat ∧ b.toNat ≤ 239) (hc : 128 ≤ c.toNat ∧ c.toNat ≤ 191) (hd : 128 ≤ d.toNat ∧ d.toNat ≤ 191) :
    (decide (2048 ≤ ((b.toNat : Int) % 16 * 64 + c.toNat - 128) * 64 + d.toNat - 128) && decide (((b.toNat : Int) % 16 * 64 + c.toNat - 128) * 64 + d.toNat - 128 ≤ 1114111) && !(decide (55296 ≤ ((b.toNat : Int) % 16 * 64 + c.toNat - 128) * 64 + d.toNat - 128) && decide (((b.toNat : Int) % 16 * 64 + c.toNat - 128) * 64 + d.toNat - 128 ≤ 57343))) =
    (decide ((bif decide (b.toNat = 224) then 160 else 128) ≤ c.toNat) && decide (c.toNat ≤ (bif decide (b.toNat = 237) then 159 else 191))) := by
  rw [Bool.eq_iff_iff]
  simp only [Bool.and_eq_true, decide_eq_true_eq, Bool.cond_eq_ite, Bool.not_eq_true', Bool.and_eq_false_iff, decide_eq_false_iff_not]
  split <;> split <;> constructor <;> intro h <;> omega

theorem cond4 {b c d e : UInt8} (hb : 240 ≤ b.toNat ∧ b.toNat ≤ 244) (hc : 128 ≤ c.toNat ∧ c.toNat ≤ 191) (hd : 128 ≤ d.toNat ∧ d.toNat ≤ 191) (he : 128 ≤ e.toNat ∧ e.toNat ≤ 191) :
    (decide (65536 ≤ (((b.toNat : Int) % 8 * 64 + c.toNat - 128) * 64 + d.toNat - 128) * 64 + e.toNat - 128) && decide ((((b.toNat : Int) % 8 * 64 + c.toNat - 128) * 64 + d.toNat - 128) * 64 + e.toNat - 128 ≤ 1114111) && !(decide (55296 ≤ (((b.toNat : Int) % 8 * 64 + c.toNat - 128) * 64 + d.toNat - 128) * 64 + e.toNat - 128) && decide ((((b.toNat : Int) % 8 * 64 + c.toNat - 128) * 64 + d.toNat - 128) * 64 + e.toNat - 128 ≤ 57343))) =
    (decide ((bif decide (b.toNat = 240) then 144 else 128) ≤ c.toNat) && decide (c.toNat ≤ (bif decide (b.toNat = 244) then 143 else 191))) := by
  rw [Bool.eq_iff_iff]
  simp only [Bool.and_eq_true, decide_eq_true_eq, Bool.cond_eq_ite, Bool.not_eq_true', Bool.and_eq_false_iff, decide_eq_false_iff_not]
  split <;> split <;> constructor <;> intro h <;> omega

/-- One scalar value. -/
theorem utf_step {s : List UInt8} (hs : s.length ≤ 4611686018427387904) {n k j : Nat} (hn : 5 ≤ n) {b : UInt8} {r : List UInt8} (hd : s.drop j = b :: r) :
    LP cx S15 n 15 0 2 (k+1) (frO s (j : Int)) [] (AK cx S15 n 15 0 2 (EK cx 15 0)) =
    bif Nat.beq (Sp.uni (b :: r)) 0 then some (.ret (.d (.int .i64 (j : Int))), []) else LP cx S15 n 15 0 2 k (frO s ((j + Sp.uni (b :: r) : Nat) : Int)) [] (AK cx S15 n 15 0 2 (EK cx 15 0)) := by
  obtain ⟨h1, hg, _⟩ := drop_cons hd
  have hb := byteLt b
  have hlen : (b :: r).length = s.length - j := by rw [← hd]; simp
  obtain ⟨n, rfl⟩ : ∃ i, n = i + 5 := ⟨n - 5, by omega⟩
  by_cases c0 : b.toNat < 128
  · have hN : Sp.moreN b.toNat = 0 := by rw [moreN_of, if_pos c0]
    have hL : Sp.moreL b.toNat = 0 := by rw [moreL_of, if_pos c0]
    have hu : Sp.uni (b :: r) = 1 := by simp only [Sp.uni, decide_eq_true c0, cond_true]
    rw [outer_in hs hg hN (by omega) (by omega) (by omega), hL, inner_end hs (by omega) (by omega) (by omega) (by omega), hu]
    simp only [if_true]
    rw [decide_eq_true (p := (0 : Int) ≤ (b.toNat : Int) % 128) (by omega), decide_eq_true (p := (b.toNat : Int) % 128 ≤ 1114111) (by omega), decide_eq_false (p := 55296 ≤ (b.toNat : Int) % 128) (by omega)]
    simp
    rfl
  · by_cases c1 : 194 ≤ b.toNat ∧ b.toNat ≤ 223
    · have hN : Sp.moreN b.toNat = 1 := by rw [moreN_of, if_neg c0, if_pos c1]
      have hL : Sp.moreL b.toNat = 128 := by rw [moreL_of, if_neg c0, if_pos c1]
      cases r with
      | nil =>
        have hu : Sp.uni [b] = 0 := by simp only [Sp.uni, decide_eq_false c0, decide_eq_true c1.1, decide_eq_true c1.2, cond_false, cond_true, Bool.and_self]
        rw [outer_bad hs hg (.inr ⟨by omega, by omega, by simp at hlen; omega⟩), hu]; rfl
      | cons c r =>
        have hu : Sp.uni (b :: c :: r) = bif Sp.cont c then 2 else 0 := by simp only [Sp.uni, decide_eq_false c0, decide_eq_true c1.1, decide_eq_true c1.2, cond_false, cond_true, Bool.and_self]
        have hc := byteLt c
        rw [outer_in hs hg hN (by omega) (by omega) (by simp at hlen; omega), hL, hu]
        simp only [if_true, show ¬ (1 : Int) = 0 by omega, if_false]
        rw [inner_lit (P := 1) (P' := 2) hs 1 rfl rfl (by omega) (by omega) ((drop_at hd).trans rfl) (by omega) (by omega)]
        cases hcc : Sp.cont c
        · rfl
        · simp only [Sp.cont, Bool.and_eq_true, decide_eq_true_eq] at hcc
          rw [cond_true, inner_end hs (by omega) (by omega) (by omega) (by omega)]
          rw [decide_eq_true (p := (128 : Int) ≤ (b.toNat : Int) % 32 * 64 + c.toNat - 128) (by omega), decide_eq_true (p := (b.toNat : Int) % 32 * 64 + c.toNat - 128 ≤ 1114111) (by omega),
            decide_eq_false (p := 55296 ≤ (b.toNat : Int) % 32 * 64 + c.toNat - 128) (by omega), show (j : Int) + 1 + 1 = ((j + 2 : Nat) : Int) by omega]
          rfl
    · by_cases c2 : 224 ≤ b.toNat ∧ b.toNat ≤ 239
      · have hN : Sp.moreN b.toNat = 2 := by rw [moreN_of, if_neg c0, if_neg c1, if_pos c2]
        have hL : Sp.moreL b.toNat = 2048 := by rw [moreL_of, if_neg c0, if_neg c1, if_pos c2]
        have f1 : (decide (194 ≤ b.toNat) && decide (b.toNat ≤ 223)) = false := by rw [decide_eq_false (p := b.toNat ≤ 223) (by omega), Bool.and_false]
        match r, hd, hlen with
        | [], hd, hlen =>
          have hu : Sp.uni [b] = 0 := by simp only [Sp.uni, decide_eq_false c0, f1, decide_eq_true c2.1, decide_eq_true c2.2, cond_false, cond_true, Bool.and_self]
          rw [outer_bad hs hg (.inr ⟨by omega, by omega, by simp at hlen; omega⟩), hu]; rfl
        | [c], hd, hlen =>
          have hu : Sp.uni [b, c] = 0 := by simp only [Sp.uni, decide_eq_false c0, f1, decide_eq_true c2.1, decide_eq_true c2.2, cond_false, cond_true, Bool.and_self]
          rw [outer_bad hs hg (.inr ⟨by omega, by omega, by simp at hlen; omega⟩), hu]; rfl
        | c :: d :: r, hd, hlen =>
          have hu : Sp.uni (b :: c :: d :: r) = bif decide ((bif decide (b.toNat = 224) then 160 else 128) ≤ c.toNat) && decide (c.toNat ≤ (bif decide (b.toNat = 237) then 159 else 191)) && Sp.cont d then 3 else 0 := by
            simp only [Sp.uni, decide_eq_false c0, f1, decide_eq_true c2.1, decide_eq_true c2.2, cond_false, cond_true, Bool.and_self]
          have hc := byteLt c
          have hdd := byteLt d
          rw [outer_in hs hg hN (by omega) (by omega) (by simp at hlen; omega), hL, hu]
          simp only [if_true, show ¬ (2 : Int) = 0 by omega, show ¬ (2 : Int) = 1 by omega, if_false]
          rw [inner_lit (P := 1) (P' := 2) hs 1 rfl rfl (by omega) (by omega) ((drop_at hd).trans rfl) (by omega) (by omega)]
          cases hcc : Sp.cont c
          · rw [cond_false, first_cont trivial hcc]; rfl
          · rw [cond_true]
            have hcc' := hcc
            simp only [Sp.cont, Bool.and_eq_true, decide_eq_true_eq] at hcc'
            rw [inner_lit (P := 2) (P' := 3) hs 2 rfl rfl (by omega) (by omega) ((drop_at hd).trans rfl) (by omega) (by omega)]
            cases hcd : Sp.cont d
            · rw [Bool.and_false]; rfl
            · have hcd' := hcd
              simp only [Sp.cont, Bool.and_eq_true, decide_eq_true_eq] at hcd'
              rw [cond_true, inner_end hs (by omega) (by omega) (by omega) (by omega), cond3 c2 hcc' hcd', Bool.and_true, show (j : Int) + 2 + 1 = ((j + 3 : Nat) : Int) by omega]
              cases (decide ((bif decide (b.toNat = 224) then 160 else 128) ≤ c.toNat) && decide (c.toNat ≤ (bif decide (b.toNat = 237) then 159 else 191))) <;> rfl
      · by_cases c3 : 240 ≤ b.toNat ∧ b.toNat ≤ 244
        · have hN : Sp.moreN b.toNat = 3 := by rw [moreN_of, if_neg c0, if_neg c1, if_neg c2, if_pos c3]
          have hL : Sp.moreL b.toNat = 65536 := by rw [moreL_of, if_neg c0, if_neg c1, if_neg c2, if_pos c3]
          have f1 : (decide (194 ≤ b.toNat) && decide (b.toNat ≤ 223)) = false := by rw [decide_eq_false (p := b.toNat ≤ 223) (by omega), Bool.and_false]
          have f2 : (decide (224 ≤ b.toNat) && decide (b.toNat ≤ 239)) = false := by rw [decide_eq_false (p := b.toNat ≤ 239) (by omega), Bool.and_false]
          match r, hd, hlen with
          | [], hd, hlen =>
            have hu : Sp.uni [b] = 0 := by simp only [Sp.uni, decide_eq_false c0, f1, f2, decide_eq_true c3.1, decide_eq_true c3.2, cond_false, cond_true, Bool.and_self]
            rw [outer_bad hs hg (.inr ⟨by omega, by omega, by simp at hlen; omega⟩), hu]; rfl
          | [c], hd, hlen =>
            have hu : Sp.uni [b, c] = 0 := by simp only [Sp.uni, decide_eq_false c0, f1, f2, decide_eq_true c3.1, decide_eq_true c3.2, cond_false, cond_true, Bool.and_self]
            rw [outer_bad hs hg (.inr ⟨by omega, by omega, by simp at hlen; omega⟩), hu]; rfl
          | [c, d], hd, hlen =>
            have hu : Sp.uni [b, c, d] = 0 := by simp only [Sp.uni, decide_eq_false c0, f1, f2, decide_eq_true c3.1, decide_eq_true c3.2, cond_false, cond_true, Bool.and_self]
            rw [outer_bad hs hg (.inr ⟨by omega, by omega, by simp at hlen; omega⟩), hu]; rfl
          | c :: d :: e :: r, hd, hlen =>
            have hu : Sp.uni (b :: c :: d :: e :: r) = bif decide ((bif decide (b.toNat = 240) then 144 else 128) ≤ c.toNat) && decide (c.toNat ≤ (bif decide (b.toNat = 244) then 143 else 191)) && Sp.cont d && Sp.cont e then 4 else 0 := by
              simp only [Sp.uni, decide_eq_false c0, f1, f2, decide_eq_true c3.1, decide_eq_true c3.2, cond_false, cond_true, Bool.and_self]
            have hc := byteLt c
            have hdd := byteLt d
            have hee := byteLt e
            rw [outer_in hs hg hN (by omega) (by omega) (by simp at hlen; omega), hL, hu]
            simp only [if_true, show ¬ (3 : Int) = 0 by omega, show ¬ (3 : Int) = 1 by omega, show ¬ (3 : Int) = 2 by omega, if_false]
            rw [inner_lit (P := 1) (P' := 2) hs 1 rfl rfl (by omega) (by omega) ((drop_at hd).trans rfl) (by omega) (by omega)]
            cases hcc : Sp.cont c
            · rw [cond_false, first_cont4 trivial hcc]; rfl
            · rw [cond_true]
              have hcc' := hcc
              simp only [Sp.cont, Bool.and_eq_true, decide_eq_true_eq] at hcc'
              rw [inner_lit (P := 2) (P' := 3) hs 2 rfl rfl (by omega) (by omega) ((drop_at hd).trans rfl) (by omega) (by omega)]
              cases hcd : Sp.cont d
              · rw [Bool.and_false]; rfl
              · have hcd' := hcd
                simp only [Sp.cont, Bool.and_eq_true, decide_eq_true_eq] at hcd'
                rw [cond_true, inner_lit (P := 3) (P' := 4) hs 3 rfl rfl (by omega) (by omega) ((drop_at hd).trans rfl) (by omega) (by omega)]
                cases hce : Sp.cont e
                · rw [Bool.and_false]; rfl
                · have hce' := hce
                  simp only [Sp.cont, Bool.and_eq_true, decide_eq_true_eq] at hce'
                  rw [cond_true, inner_end hs (by omega) (by omega) (by omega) (by omega), cond4 c3 hcc' hcd' hce', Bool.and_true, Bool.and_true, show (j : Int) + 3 + 1 = ((j + 4 : Nat) : Int) by omega]
                  cases (decide ((bif decide (b.toNat = 240) then 144 else 128) ≤ c.toNat) && decide (c.toNat ≤ (bif decide (b.toNat = 244) then 143 else 191))) <;> rfl
        · have hN : Sp.moreN b.toNat = -1 := by rw [moreN_of, if_neg c0, if_neg c1, if_neg c2, if_neg c3]
          have hu : Sp.uni (b :: r) = 0 := by
            have f1 : (decide (194 ≤ b.toNat) && decide (b.toNat ≤ 223)) = false := by simp; omega
            have f2 : (decide (224 ≤ b.toNat) && decide (b.toNat ≤ 239)) = false := by simp; omega
            have f3 : (decide (240 ≤ b.toNat) && decide (b.toNat ≤ 244)) = false := by simp; omega
            simp only [Sp.uni, decide_eq_false c0, f1, f2, f3, cond_false]
          rw [outer_bad hs hg (.inl (by omega)), hu]; rfl

/-- The whole. -/
theorem utf_ref {s : List UInt8} (hs : s.length ≤ 4611686018427387904) {n : Nat} (hn : 5 ≤ n) : ∀ (f j k : Nat), s.length - j ≤ f → f < k → j ≤ s.length →
    LP cx S15 n 15 0 2 k (frO s (j : Int)) [] (AK cx S15 n 15 0 2 (EK cx 15 0)) = some (.ret (.d (.int .i64 (match Sp.utfGo f (s.drop j) j with | some p => (p : Int) | none => -1))), []) := by
  intro f
  induction f with
  | zero =>
    intro j k h hk hj
    obtain ⟨k, rfl⟩ : ∃ i, k = i + 1 := ⟨k - 1, by omega⟩
    have hnil : s.drop j = [] := List.drop_eq_nil_of_le (by omega)
    rw [l15, hnil, decide_eq_false (p := (j : Int) < (s.length : Int)) (by omega)]; rfl
  | succ f ih =>
    intro j k h hk hj
    obtain ⟨k, rfl⟩ : ∃ i, k = i + 1 := ⟨k - 1, by omega⟩
    cases hd : s.drop j with
    | nil =>
      have := List.drop_eq_nil_iff.1 hd
      rw [l15, decide_eq_false (p := (j : Int) < (s.length : Int)) (by omega)]; rfl
    | cons b r =>
      obtain ⟨h1, hg, _⟩ := drop_cons hd
      rw [utf_step hs hn hd]
      have hle := uni_le (b :: r)
      have hlen : (b :: r).length = s.length - j := by rw [← hd]; simp
      by_cases hu : Sp.uni (b :: r) = 0
      · simp only [Sp.utfGo, hu]; rfl
      · have hbq : Nat.beq (Sp.uni (b :: r)) 0 = false := beqF hu
        have step := ih (j + Sp.uni (b :: r)) k (by omega) (by omega) (by omega)
        rw [← List.drop_drop, hd] at step
        simp only [Sp.utfGo, hbq, cond_false]
        exact step

theorem lim15 (s : List UInt8) (hs : s.length ≤ 4611686018427387904) : evLim cx 15 [.d (.str s)] [] = some (.ret (.d (.int .i64 (match Sp.utfGo s.length s 0 with | some p => (p : Int) | none => -1))), []) := by
  refine lim_body (N := s.length + 5) S15_knows ?_
  rw [b15]
  exact utf_ref hs (by omega) s.length 0 (s.length + 5) (by omega) (by omega) (by omega)

end Go.Vai
end

section
namespace Go.Vai
open Go.Proofs

theorem b19 (n : Nat) (s : List UInt8) (i : Int) :
    evBody cx none1 n 19 [.d (.str s), .d (.int .i64 i)] [] =
  bif decide (IntKind.i64.wrap (i + (1 : Int)) < (↑s.length : Int)) then
    must
      (decide (0 ≤ IntKind.i64.wrap (i + (2 : Int))) &&
        decide (IntKind.i64.wrap (i + (2 : Int)) ≤ (↑s.length : Int)))
      (must (decide (0 ≤ i) && decide (i ≤ (↑(IntKind.i64.wrap (i + (2 : Int))).toNat : Int)))
        (bif decide (List.drop i.toNat (List.take (IntKind.i64.wrap (i + (2 : Int))).toNat s) = [45, 62]) then
          some (Out.ret (V.d (D.int IntKind.i64 (2 : Int))), [])
        else
          bif decide (List.drop i.toNat (List.take (IntKind.i64.wrap (i + (2 : Int))).toNat s) = [47, 92]) then
            some (Out.ret (V.d (D.int IntKind.i64 (2 : Int))), [])
          else
            bif decide (List.drop i.toNat (List.take (IntKind.i64.wrap (i + (2 : Int))).toNat s) = [92, 47]) then
              some (Out.ret (V.d (D.int IntKind.i64 (2 : Int))), [])
            else
              LP cx none1 n 19 0 7 n
                [(0, V.d (D.str s)), (1, V.d (D.int IntKind.i64 i)),
                  (6, V.d (D.str [40, 41, 91, 93, 44, 46, 58, 59, 61, 92, 60, 62, 64, 126, 42, 48, 49])),
                  (7, V.d (D.int IntKind.i64 (0 : Int)))]
                [] (AK cx none1 n 19 0 7 (EK cx 19 0))))
  else
    LP cx none1 n 19 0 7 n
      [(0, V.d (D.str s)), (1, V.d (D.int IntKind.i64 i)),
        (6, V.d (D.str [40, 41, 91, 93, 44, 46, 58, 59, 61, 92, 60, 62, 64, 126, 42, 48, 49])),
        (7, V.d (D.int IntKind.i64 (0 : Int)))]
      [] (AK cx none1 n 19 0 7 (EK cx 19 0)) := by kernel_rfl

theorem l19 (n k : Nat) (s : List UInt8) (i j : Int) :
    LP cx none1 n 19 0 7 (k+1) [(0, .d (.str s)), (1, .d (.int .i64 i)), (6, .d (.str [40, 41, 91, 93, 44, 46, 58, 59, 61, 92, 60, 62, 64, 126, 42, 48, 49])), (7, .d (.int .i64 j))] [] (AK cx none1 n 19 0 7 (EK cx 19 0)) =
  bif decide (j < (17 : Int)) then
    must (decide (0 ≤ i) && decide (i < (↑s.length : Int)))
      (optK s[i.toNat]? fun b =>
        must
          (decide (0 ≤ j) &&
            decide (j < (↑([40, 41, 91, 93, 44, 46, 58, 59, 61, 92, 60, 62, 64, 126, 42, 48, 49] : List UInt8).length : Int)))
          (optK ([40, 41, 91, 93, 44, 46, 58, 59, 61, 92, 60, 62, 64, 126, 42, 48, 49] : List UInt8)[j.toNat]? fun b_1 =>
            bif decide ((↑b.toNat : Int) = (↑b_1.toNat : Int)) then
              some (Out.ret (V.d (D.int IntKind.i64 (1 : Int))), [])
            else
              LP cx none1 n 19 0 7 k
                [(0, V.d (D.str s)), (1, V.d (D.int IntKind.i64 i)),
                  (6, V.d (D.str [40, 41, 91, 93, 44, 46, 58, 59, 61, 92, 60, 62, 64, 126, 42, 48, 49])),
                  (7, V.d (D.int IntKind.i64 (IntKind.i64.wrap (j + (1 : Int)))))]
                [] (AK cx none1 n 19 0 7 (EK cx 19 0))))
  else some (Out.ret (V.d (D.int IntKind.i64 (0 : Int))), []) := by kernel_rfl


def Sp.ones : List UInt8 := [40, 41, 91, 93, 44, 46, 58, 59, 61, 92, 60, 62, 64, 126, 42, 48, 49]

theorem signGo_ones (b : UInt8) (r : List UInt8) : ∀ l : List UInt8, Sp.signGo (b :: r) (l.map fun x => [x]) = bif l.any (fun x => decide (b = x)) then (2, [b]) else (0, [])
  | [] => rfl
  | x :: l => by
    have ih := signGo_ones b r l
    simp only [List.map_cons, Sp.signGo, List.any_cons]
    have h : Sp.hasPre (b :: r) [x] = decide (b = x) := by simp [Sp.hasPre]
    rw [h, ih]
    by_cases hx : b = x
    · subst hx; simp
    · rw [decide_eq_false hx]; simp

def Sp.signAt (s : List UInt8) (i : Int) : Int := ((Sp.signGo (s.drop i.toNat) Sp.signs).2.length : Int)

theorem ones_loop {s : List UInt8} {n i : Nat} {b : UInt8} (hg : s[i]? = some b) : ∀ (r : List UInt8) (j k : Nat), Sp.ones.drop j = r → r.length < k →
    LP cx none1 n 19 0 7 k [(0, .d (.str s)), (1, .d (.int .i64 (i : Int))), (6, .d (.str Sp.ones)), (7, .d (.int .i64 (j : Int)))] [] (AK cx none1 n 19 0 7 (EK cx 19 0)) = some (.ret (.d (.int .i64 (bif r.any (fun x => decide (b = x)) then 1 else 0))), [])
  | _, _, 0, _, hk => by omega
  | [], j, k + 1, hr, _ => by
    have h1 := drop_nil hr
    have h2 : (17 : Nat) ≤ j := h1
    unfold Sp.ones
    rw [l19, decide_eq_false (p := (j : Int) < 17) (by omega), cond_false]
    rfl
  | x :: r, j, k + 1, hr, hk => by
    obtain ⟨h1, h2, h3⟩ := drop_cons hr
    have h1' : j < 17 := h1
    have ih := ones_loop (n := n) hg r (j + 1) k h3 (by simpa using hk)
    have hlt : i < s.length := (List.getElem?_eq_some_iff.1 hg).1
    unfold Sp.ones at h2 ih ⊢
    rw [l19]
    simp only [decide_eq_true (p := (j : Int) < 17) (by omega), cond_true, decide_eq_true (p := (0 : Int) ≤ (i : Int)) (by omega), decide_eq_true (p := (i : Int) < (s.length : Int)) (by omega), Bool.and_self, must, Int.toNat_natCast, hg, optK,
      decide_eq_true (p := (0 : Int) ≤ (j : Int)) (by omega), decide_eq_true (p := (j : Int) < ((List.length [(40 : UInt8), 41, 91, 93, 44, 46, 58, 59, 61, 92, 60, 62, 64, 126, 42, 48, 49] : Nat) : Int)) (by simp; omega), h2]
    rw [wrapN (by omega) (by omega), show (j : Int) + 1 = ((j + 1 : Nat) : Int) by omega, ih, List.any_cons]
    by_cases hx : b = x
    · subst hx; simp
    · rw [decide_eq_false hx, decide_eq_false (p := (b.toNat : Int) = (x.toNat : Int)) (by intro h; exact hx (UInt8.toNat_inj.1 (by omega)))]
      simp

theorem signs_ones : Sp.signs = [45, 62] :: [47, 92] :: [92, 47] :: Sp.ones.map fun x => [x] := rfl

theorem lim19 (s : List UInt8) (j : Nat) (hs : s.length ≤ 4611686018427387904) (hj : j < s.length) : evLim cx 19 [.d (.str s), .d (.int .i64 (j : Int))] [] = some (.ret (.d (.int .i64 (Sp.signAt s (j : Int)))), []) := by
  refine lim_body (N := 18) (none1_knows cx) ?_
  obtain ⟨b, hg⟩ : ∃ b, s[j]? = some b := ⟨_, List.getElem?_eq_getElem hj⟩
  obtain ⟨r, hd⟩ : ∃ r, s.drop j = b :: r := ⟨_, by rw [List.drop_eq_getElem_cons hj]; congr 1; exact Option.some.inj ((List.getElem?_eq_getElem hj).symm.trans hg)⟩
  have ho := ones_loop (n := 18) hg Sp.ones 0 18 rfl (by decide)
  have w1 : IntKind.i64.wrap ((j : Int) + 1) = ((j + 1 : Nat) : Int) := by rw [wrapN (by omega) (by omega)]; omega
  have w2 : IntKind.i64.wrap ((j : Int) + 2) = ((j + 2 : Nat) : Int) := by rw [wrapN (by omega) (by omega)]; omega
  have hlen : (b :: r).length = s.length - j := by rw [← hd]; simp
  rw [b19, w1, w2]
  unfold Sp.signAt
  simp only [Int.toNat_natCast, hd, signs_ones, Sp.signGo, signGo_ones, List.drop_take, show j + 2 - j = 2 by omega, Sp.hasPre, List.length_cons, List.length_nil, Nat.zero_add, Nat.reduceAdd]
  by_cases h1 : j + 1 < s.length
  · simp only [decide_eq_true (p := ((j + 1 : Nat) : Int) < (s.length : Int)) (by omega), decide_eq_true (p := (0 : Int) ≤ ((j + 2 : Nat) : Int)) (by omega), decide_eq_true (p := ((j + 2 : Nat) : Int) ≤ (s.length : Int)) (by omega),
      decide_eq_true (p := (0 : Int) ≤ (j : Int)) (by omega), decide_eq_true (p := (j : Int) ≤ ((j + 2 : Nat) : Int)) (by omega), Bool.and_self, must, cond_true]
    cases hA : decide (List.take 2 (b :: r) = [45, 62])
    · cases hB : decide (List.take 2 (b :: r) = [47, 92])
      · cases hC : decide (List.take 2 (b :: r) = [92, 47])
        · simp only [cond_false]
          refine ho.trans ?_
          cases Sp.ones.any (fun x => decide (b = x)) <;> rfl
        · rfl
      · rfl
    · rfl
  · have hr : r = [] := by cases r with | nil => rfl | cons c r => simp at hlen; omega
    subst hr
    rw [decide_eq_false (p := ((j + 1 : Nat) : Int) < (s.length : Int)) (by omega), cond_false]
    simp only [decide_eq_false (p := List.take 2 [b] = [45, 62]) (by simp), decide_eq_false (p := List.take 2 [b] = [47, 92]) (by simp), decide_eq_false (p := List.take 2 [b] = [92, 47]) (by simp), cond_false]
    refine ho.trans ?_
    cases Sp.ones.any (fun x => decide (b = x)) <;> rfl

end Go.Vai
end

section
namespace Go.Vai
open Go.Proofs

def Sp.utfR (s : List UInt8) : Int := match Sp.utfGo s.length s 0 with | some p => (p : Int) | none => -1
def utfRF : List V → Option Out | [.d (.str s)] => some (.ret (.d (.int .i64 (Sp.utfR s)))) | _ => none
def signF : List V → Option Out | [.d (.str s), .d (.int .i64 i)] => some (.ret (.d (.int .i64 (Sp.signAt s i)))) | _ => none
noncomputable def S8 : Caller := also 15 utfRF (also 16 (byteF Sp.blank) (also 17 (byteF Sp.letter) (also 18 (byteF Sp.digit) (also 19 signF none1))))

theorem S8_knows : knows cx S8 (evLim cx) := by
  refine also_knows (also_knows (also_knows (also_knows (also_knows (none1_knows cx) ?_) ?_) ?_) ?_) ?_
  · intro args o hd h
    unfold signF at h
    split at h
    · cases h
      rename_i s a
      have hd' : (decide (s.length ≤ big) && (decide (0 ≤ a) && decide (a < (s.length : Int)))) = true := hd
      simp only [Bool.and_eq_true, decide_eq_true_eq] at hd'
      obtain ⟨h1, h2, h3⟩ := hd'
      have := lim19 s a.toNat h1 (by omega)
      rw [show ((a.toNat : Nat) : Int) = a by omega] at this
      exact this
    · cases h
  · intro args o _ h
    obtain ⟨c, rfl, rfl⟩ := byteF_some h
    exact lim18 c
  · intro args o _ h
    obtain ⟨c, rfl, rfl⟩ := byteF_some h
    exact lim17 c
  · intro args o _ h
    obtain ⟨c, rfl, rfl⟩ := byteF_some h
    exact lim16 c
  · intro args o hd h
    unfold utfRF at h
    split at h
    · cases h; exact lim15 _ (of_decide_eq_true hd)
    · cases h

theorem b8 (n : Nat) (s : List UInt8) :
    evBody cx S8 n 8 [.d (.str s)] [] =
  bif decide ((65536 : Int) < (↑s.length : Int)) then
    some
      (Out.ret (V.tup [V.d (D.sl 3 []), V.d (D.int IntKind.i64 (0 : Int)), V.d (D.int IntKind.i64 (3 : Int))]),
        [])
  else
    must (decide (s.length ≤ big))
      (bif decide ((0 : Int) ≤ Sp.utfR s) then
        some
          (Out.ret
              (V.tup [V.d (D.sl 3 []), V.d (D.int IntKind.i64 (Sp.utfR s)), V.d (D.int IntKind.i64 (60 : Int))]),
            [])
      else
        LP cx S8 n 8 0 8 n [(0, V.d (D.str s)), (6, V.sl 3 [] 6), (7, V.d (D.int IntKind.i64 (0 : Int)))]
          [(6, Ob.tok 0)] (AK cx S8 n 8 0 8 (EK cx 8 0))) := by kernel_rfl

theorem l8 (n k : Nat) (s : List UInt8) (i : Int) (l : List D) :
    LP cx S8 n 8 0 8 (k+1) [(0, .d (.str s)), (6, .sl 3 l 6), (7, .d (.int .i64 i))] [(6, .tok l.length)] (AK cx S8 n 8 0 8 (EK cx 8 0)) =
  bif decide (i < (↑s.length : Int)) then
    must (decide (0 ≤ i) && decide (i < (↑s.length : Int)))
      (optK s[i.toNat]? fun b =>
        bif Sp.blank (↑b.toNat : Int) then
          LP cx S8 n 8 0 8 k
            [(0, V.d (D.str s)), (6, V.sl 3 l 6), (7, V.d (D.int IntKind.i64 (IntKind.i64.wrap (i + (1 : Int)))))]
            [(6, Ob.tok l.length)] (AK cx S8 n 8 0 8 (EK cx 8 0))
        else
          must (decide (0 ≤ i) && decide (i < (↑s.length : Int)))
            (optK s[i.toNat]? fun b =>
              bif decide ((↑b.toNat : Int) = (45 : Int)) then
                bif decide (IntKind.i64.wrap (i + (1 : Int)) < (↑s.length : Int)) then
                  must
                    (decide (0 ≤ IntKind.i64.wrap (i + (1 : Int))) &&
                      decide (IntKind.i64.wrap (i + (1 : Int)) < (↑s.length : Int)))
                    (optK s[(IntKind.i64.wrap (i + (1 : Int))).toNat]? fun b =>
                      bif decide ((↑b.toNat : Int) = (45 : Int)) then
                        LP cx S8 n 8 0 12 n [(0, V.d (D.str s)), (6, V.sl 3 l 6), (7, V.d (D.int IntKind.i64 i))]
                          [(6, Ob.tok l.length)]
                          (AL cx S8 n 8 0 8 12 (inK cx S8 n 8 0 8 k (AK cx S8 n 8 0 8 (EK cx 8 0))))
                      else
                        must (decide (0 ≤ i) && decide (i < (↑s.length : Int)))
                          (optK s[i.toNat]? fun b =>
                            bif Sp.letter (↑b.toNat : Int) then
                              LP cx S8 n 8 0 18 n
                                [(0, V.d (D.str s)), (6, V.sl 3 l 6), (7, V.d (D.int IntKind.i64 i)),
                                  (8, V.d (D.int IntKind.i64 i)), (9, V.d (D.int IntKind.i64 (1 : Int)))]
                                [(6, Ob.tok l.length)]
                                (AL cx S8 n 8 0 8 18 (inK cx S8 n 8 0 8 k (AK cx S8 n 8 0 8 (EK cx 8 0))))
                            else
                              must (decide (s.length ≤ big) && (decide (0 ≤ i) && decide (i < (↑s.length : Int))))
                                (bif decide (IntKind.i64.wrap (i + Sp.signAt s i) = i) then
                                  some
                                    (Out.ret
                                        (V.tup
                                          [V.d (D.sl 3 []), V.d (D.int IntKind.i64 i),
                                            V.d (D.int IntKind.i64 (61 : Int))]),
                                      [])
                                else
                                  must
                                    (decide (0 ≤ IntKind.i64.wrap (i + Sp.signAt s i)) &&
                                      decide (IntKind.i64.wrap (i + Sp.signAt s i) ≤ (↑s.length : Int)))
                                    (must
                                      (decide (0 ≤ i) &&
                                        decide (i ≤ (↑(IntKind.i64.wrap (i + Sp.signAt s i)).toNat : Int)))
                                      (must
                                        (decide (l.length = l.length) &&
                                          decide
                                            (l.length +
                                                [D.agg
                                                      [D.int IntKind.i64 (2 : Int),
                                                        D.str
                                                          (List.drop i.toNat
                                                            (List.take (IntKind.i64.wrap (i + Sp.signAt s i)).toNat s)),
                                                        D.int IntKind.i64 i]].length ≤
                                              4294967296))
                                        (LP cx S8 n 8 0 8 k
                                          [(0, V.d (D.str s)),
                                            (6,
                                              V.sl 3
                                                (l ++
                                                  [D.agg
                                                      [D.int IntKind.i64 (2 : Int),
                                                        D.str
                                                          (List.drop i.toNat
                                                            (List.take (IntKind.i64.wrap (i + Sp.signAt s i)).toNat s)),
                                                        D.int IntKind.i64 i]])
                                                6),
                                            (7, V.d (D.int IntKind.i64 (IntKind.i64.wrap (i + Sp.signAt s i))))]
                                          [(6,
                                              Ob.tok
                                                (l.length +
                                                  [D.agg
                                                        [D.int IntKind.i64 (2 : Int),
                                                          D.str
                                                            (List.drop i.toNat
                                                              (List.take (IntKind.i64.wrap (i + Sp.signAt s i)).toNat
                                                                s)),
                                                          D.int IntKind.i64 i]].length))]
                                          (AK cx S8 n 8 0 8 (EK cx 8 0))))))))
                else
                  must (decide (0 ≤ i) && decide (i < (↑s.length : Int)))
                    (optK s[i.toNat]? fun b =>
                      bif Sp.letter (↑b.toNat : Int) then
                        LP cx S8 n 8 0 18 n
                          [(0, V.d (D.str s)), (6, V.sl 3 l 6), (7, V.d (D.int IntKind.i64 i)),
                            (8, V.d (D.int IntKind.i64 i)), (9, V.d (D.int IntKind.i64 (1 : Int)))]
                          [(6, Ob.tok l.length)]
                          (AL cx S8 n 8 0 8 18 (inK cx S8 n 8 0 8 k (AK cx S8 n 8 0 8 (EK cx 8 0))))
                      else
                        must (decide (s.length ≤ big) && (decide (0 ≤ i) && decide (i < (↑s.length : Int))))
                          (bif decide (IntKind.i64.wrap (i + Sp.signAt s i) = i) then
                            some
                              (Out.ret
                                  (V.tup
                                    [V.d (D.sl 3 []), V.d (D.int IntKind.i64 i),
                                      V.d (D.int IntKind.i64 (61 : Int))]),
                                [])
                          else
                            must
                              (decide (0 ≤ IntKind.i64.wrap (i + Sp.signAt s i)) &&
                                decide (IntKind.i64.wrap (i + Sp.signAt s i) ≤ (↑s.length : Int)))
                              (must
                                (decide (0 ≤ i) && decide (i ≤ (↑(IntKind.i64.wrap (i + Sp.signAt s i)).toNat : Int)))
                                (must
                                  (decide (l.length = l.length) &&
                                    decide
                                      (l.length +
                                          [D.agg
                                                [D.int IntKind.i64 (2 : Int),
                                                  D.str
                                                    (List.drop i.toNat
                                                      (List.take (IntKind.i64.wrap (i + Sp.signAt s i)).toNat s)),
                                                  D.int IntKind.i64 i]].length ≤
                                        4294967296))
                                  (LP cx S8 n 8 0 8 k
                                    [(0, V.d (D.str s)),
                                      (6,
                                        V.sl 3
                                          (l ++
                                            [D.agg
                                                [D.int IntKind.i64 (2 : Int),
                                                  D.str
                                                    (List.drop i.toNat
                                                      (List.take (IntKind.i64.wrap (i + Sp.signAt s i)).toNat s)),
                                                  D.int IntKind.i64 i]])
                                          6),
                                      (7, V.d (D.int IntKind.i64 (IntKind.i64.wrap (i + Sp.signAt s i))))]
                                    [(6,
                                        Ob.tok
                                          (l.length +
                                            [D.agg
                                                  [D.int IntKind.i64 (2 : Int),
                                                    D.str
                                                      (List.drop i.toNat
                                                        (List.take (IntKind.i64.wrap (i + Sp.signAt s i)).toNat s)),
                                                    D.int IntKind.i64 i]].length))]
                                    (AK cx S8 n 8 0 8 (EK cx 8 0)))))))
              else
                must (decide (0 ≤ i) && decide (i < (↑s.length : Int)))
                  (optK s[i.toNat]? fun b =>
                    bif Sp.letter (↑b.toNat : Int) then
                      LP cx S8 n 8 0 18 n
                        [(0, V.d (D.str s)), (6, V.sl 3 l 6), (7, V.d (D.int IntKind.i64 i)),
                          (8, V.d (D.int IntKind.i64 i)), (9, V.d (D.int IntKind.i64 (1 : Int)))]
                        [(6, Ob.tok l.length)]
                        (AL cx S8 n 8 0 8 18 (inK cx S8 n 8 0 8 k (AK cx S8 n 8 0 8 (EK cx 8 0))))
                    else
                      must (decide (s.length ≤ big) && (decide (0 ≤ i) && decide (i < (↑s.length : Int))))
                        (bif decide (IntKind.i64.wrap (i + Sp.signAt s i) = i) then
                          some
                            (Out.ret
                                (V.tup
                                  [V.d (D.sl 3 []), V.d (D.int IntKind.i64 i), V.d (D.int IntKind.i64 (61 : Int))]),
                              [])
                        else
                          must
                            (decide (0 ≤ IntKind.i64.wrap (i + Sp.signAt s i)) &&
                              decide (IntKind.i64.wrap (i + Sp.signAt s i) ≤ (↑s.length : Int)))
                            (must (decide (0 ≤ i) && decide (i ≤ (↑(IntKind.i64.wrap (i + Sp.signAt s i)).toNat : Int)))
                              (must
                                (decide (l.length = l.length) &&
                                  decide
                                    (l.length +
                                        [D.agg
                                              [D.int IntKind.i64 (2 : Int),
                                                D.str
                                                  (List.drop i.toNat
                                                    (List.take (IntKind.i64.wrap (i + Sp.signAt s i)).toNat s)),
                                                D.int IntKind.i64 i]].length ≤
                                      4294967296))
                                (LP cx S8 n 8 0 8 k
                                  [(0, V.d (D.str s)),
                                    (6,
                                      V.sl 3
                                        (l ++
                                          [D.agg
                                              [D.int IntKind.i64 (2 : Int),
                                                D.str
                                                  (List.drop i.toNat
                                                    (List.take (IntKind.i64.wrap (i + Sp.signAt s i)).toNat s)),
                                                D.int IntKind.i64 i]])
                                        6),
                                    (7, V.d (D.int IntKind.i64 (IntKind.i64.wrap (i + Sp.signAt s i))))]
                                  [(6,
                                      Ob.tok
                                        (l.length +
                                          [D.agg
                                                [D.int IntKind.i64 (2 : Int),
                                                  D.str
                                                    (List.drop i.toNat
                                                      (List.take (IntKind.i64.wrap (i + Sp.signAt s i)).toNat s)),
                                                  D.int IntKind.i64 i]].length))]
                                  (AK cx S8 n 8 0 8 (EK cx 8 0)))))))))
  else
    must
      (decide (l.length = l.length) &&
        decide
          (l.length + [D.agg [D.int IntKind.i64 (0 : Int), D.str [], D.int IntKind.i64 (↑s.length : Int)]].length ≤
            4294967296))
      (some
        (Out.ret
            (V.tup
              [V.d
                  (D.sl 3
                    (l ++ [D.agg [D.int IntKind.i64 (0 : Int), D.str [], D.int IntKind.i64 (↑s.length : Int)]])),
                V.d (D.int IntKind.i64 (0 : Int)), V.d (D.int IntKind.i64 (0 : Int))]),
          [])) := by kernel_rfl

theorem l8c (n k k' : Nat) (s : List UInt8) (i : Int) (l : List D) :
    LP cx S8 n 8 0 12 (k+1) [(0, .d (.str s)), (6, .sl 3 l 6), (7, .d (.int .i64 i))] [(6, .tok l.length)] (AL cx S8 n 8 0 8 12 (inK cx S8 n 8 0 8 k' (AK cx S8 n 8 0 8 (EK cx 8 0)))) =
  bif decide (i < (↑s.length : Int)) then
    must (decide (0 ≤ i) && decide (i < (↑s.length : Int)))
      (optK s[i.toNat]? fun b =>
        bif !decide ((↑b.toNat : Int) = (10 : Int)) then
          LP cx S8 n 8 0 12 k
            [(0, V.d (D.str s)), (6, V.sl 3 l 6), (7, V.d (D.int IntKind.i64 (IntKind.i64.wrap (i + (1 : Int)))))]
            [(6, Ob.tok l.length)] (AL cx S8 n 8 0 8 12 (inK cx S8 n 8 0 8 k' (AK cx S8 n 8 0 8 (EK cx 8 0))))
        else
          LP cx S8 n 8 0 8 k' [(0, V.d (D.str s)), (6, V.sl 3 l 6), (7, V.d (D.int IntKind.i64 i))]
            [(6, Ob.tok l.length)] (AK cx S8 n 8 0 8 (EK cx 8 0)))
  else
    LP cx S8 n 8 0 8 k' [(0, V.d (D.str s)), (6, V.sl 3 l 6), (7, V.d (D.int IntKind.i64 i))] [(6, Ob.tok l.length)]
      (AK cx S8 n 8 0 8 (EK cx 8 0)) := by kernel_rfl

theorem l8n (n k k' : Nat) (s : List UInt8) (i e : Int) (l : List D) :
    LP cx S8 n 8 0 18 (k+1) [(0, .d (.str s)), (6, .sl 3 l 6), (7, .d (.int .i64 i)), (8, .d (.int .i64 e)), (9, .d (.int .i64 1))] [(6, .tok l.length)] (AL cx S8 n 8 0 8 18 (inK cx S8 n 8 0 8 k' (AK cx S8 n 8 0 8 (EK cx 8 0)))) =
  bif decide (e < (↑s.length : Int)) then
    must (decide (0 ≤ e) && decide (e < (↑s.length : Int)))
      (optK s[e.toNat]? fun b =>
        bif Sp.letter (↑b.toNat : Int) then
          LP cx S8 n 8 0 18 k
            [(0, V.d (D.str s)), (6, V.sl 3 l 6), (7, V.d (D.int IntKind.i64 i)),
              (8, V.d (D.int IntKind.i64 (IntKind.i64.wrap (e + (1 : Int))))),
              (9, V.d (D.int IntKind.i64 (1 : Int)))]
            [(6, Ob.tok l.length)] (AL cx S8 n 8 0 8 18 (inK cx S8 n 8 0 8 k' (AK cx S8 n 8 0 8 (EK cx 8 0))))
        else
          must (decide (0 ≤ e) && decide (e < (↑s.length : Int)))
            (optK s[e.toNat]? fun b =>
              bif Sp.digit (↑b.toNat : Int) then
                LP cx S8 n 8 0 18 k
                  [(0, V.d (D.str s)), (6, V.sl 3 l 6), (7, V.d (D.int IntKind.i64 i)),
                    (8, V.d (D.int IntKind.i64 (IntKind.i64.wrap (e + (1 : Int))))),
                    (9, V.d (D.int IntKind.i64 (1 : Int)))]
                  [(6, Ob.tok l.length)] (AL cx S8 n 8 0 8 18 (inK cx S8 n 8 0 8 k' (AK cx S8 n 8 0 8 (EK cx 8 0))))
              else
                bif decide (e = i) then
                  some
                    (Out.ret
                        (V.tup [V.d (D.sl 3 []), V.d (D.int IntKind.i64 i), V.d (D.int IntKind.i64 (61 : Int))]),
                      [])
                else
                  must (decide (0 ≤ e) && decide (e ≤ (↑s.length : Int)))
                    (must (decide (0 ≤ i) && decide (i ≤ (↑e.toNat : Int)))
                      (must
                        (decide (l.length = l.length) &&
                          decide
                            (l.length +
                                [D.agg
                                      [D.int IntKind.i64 (1 : Int), D.str (List.drop i.toNat (List.take e.toNat s)),
                                        D.int IntKind.i64 i]].length ≤
                              4294967296))
                        (LP cx S8 n 8 0 8 k'
                          [(0, V.d (D.str s)),
                            (6,
                              V.sl 3
                                (l ++
                                  [D.agg
                                      [D.int IntKind.i64 (1 : Int), D.str (List.drop i.toNat (List.take e.toNat s)),
                                        D.int IntKind.i64 i]])
                                6),
                            (7, V.d (D.int IntKind.i64 e))]
                          [(6,
                              Ob.tok
                                (l.length +
                                  [D.agg
                                        [D.int IntKind.i64 (1 : Int),
                                          D.str (List.drop i.toNat (List.take e.toNat s)),
                                          D.int IntKind.i64 i]].length))]
                          (AK cx S8 n 8 0 8 (EK cx 8 0)))))))
  else
    bif decide (e = i) then
      some (Out.ret (V.tup [V.d (D.sl 3 []), V.d (D.int IntKind.i64 i), V.d (D.int IntKind.i64 (61 : Int))]), [])
    else
      must (decide (0 ≤ e) && decide (e ≤ (↑s.length : Int)))
        (must (decide (0 ≤ i) && decide (i ≤ (↑e.toNat : Int)))
          (must
            (decide (l.length = l.length) &&
              decide
                (l.length +
                    [D.agg
                          [D.int IntKind.i64 (1 : Int), D.str (List.drop i.toNat (List.take e.toNat s)),
                            D.int IntKind.i64 i]].length ≤
                  4294967296))
            (LP cx S8 n 8 0 8 k'
              [(0, V.d (D.str s)),
                (6,
                  V.sl 3
                    (l ++
                      [D.agg
                          [D.int IntKind.i64 (1 : Int), D.str (List.drop i.toNat (List.take e.toNat s)),
                            D.int IntKind.i64 i]])
                    6),
                (7, V.d (D.int IntKind.i64 e))]
              [(6,
                  Ob.tok
                    (l.length +
                      [D.agg
                            [D.int IntKind.i64 (1 : Int), D.str (List.drop i.toNat (List.take e.toNat s)),
                              D.int IntKind.i64 i]].length))]
              (AK cx S8 n 8 0 8 (EK cx 8 0))))) := by kernel_rfl


abbrev fr8 (s : List UInt8) (j : Nat) (l : List D) : Fr := [(0, .d (.str s)), (6, .sl 3 l 6), (7, .d (.int .i64 (j : Int)))]
noncomputable abbrev L8 (n k : Nat) (s : List UInt8) (j : Nat) (l : List D) : Option (Out × St) := LP cx S8 n 8 0 8 k (fr8 s j l) [(6, .tok l.length)] (AK cx S8 n 8 0 8 (EK cx 8 0))

/-- The comment is let by. -/
theorem l8_skip {s : List UInt8} (hs : s.length ≤ 65536) (n k' : Nat) (l : List D) : ∀ (r : List UInt8) (j k : Nat), s.drop j = r → j ≤ s.length → r.length < k →
    ∃ j', LP cx S8 n 8 0 12 k (fr8 s j l) [(6, .tok l.length)] (AL cx S8 n 8 0 8 12 (inK cx S8 n 8 0 8 k' (AK cx S8 n 8 0 8 (EK cx 8 0)))) = L8 n k' s j' l ∧ j ≤ j' ∧ j' ≤ s.length ∧ Sp.pastGo true r j = Sp.past s j' ∧ (∀ b r', r = b :: r' → ¬ (b.toNat : Int) = 10 → j < j')
  | _, _, 0, _, _, hk => by omega
  | [], j, k + 1, hr, hj, _ => by
    have h1 := drop_nil hr
    refine ⟨j, ?_, Nat.le_refl _, hj, ?_, fun b r' h => by cases h⟩
    · rw [l8c, decide_eq_false (p := (j : Int) < (s.length : Int)) (by omega)]; rfl
    · unfold Sp.past; rw [hr]; rfl
  | b :: r, j, k + 1, hr, hj, hk => by
    obtain ⟨h1, h2, h3⟩ := drop_cons hr
    by_cases hb : (b.toNat : Int) = 10
    · refine ⟨j, ?_, Nat.le_refl _, hj, ?_, fun b' r' h hn => by cases h; exact absurd hb hn⟩
      · rw [l8c]
        simp only [decide_eq_true (p := (j : Int) < (s.length : Int)) (by omega), decide_eq_true (p := (0 : Int) ≤ (j : Int)) (by omega), cond_true, Bool.and_self, must, Int.toNat_natCast, h2, optK, decide_eq_true hb, Bool.not_true, cond_false]
      · unfold Sp.past
        rw [hr, Sp.pastGo, Sp.pastGo, decide_eq_true hb, hb]; rfl
    · obtain ⟨j', e1, e2, e3, e4, _⟩ := l8_skip hs n k' l r (j + 1) k h3 h1 (by simpa using hk)
      refine ⟨j', ?_, by omega, e3, ?_, fun _ _ _ _ => by omega⟩
      · rw [l8c]
        simp only [decide_eq_true (p := (j : Int) < (s.length : Int)) (by omega), decide_eq_true (p := (0 : Int) ≤ (j : Int)) (by omega), cond_true, Bool.and_self, must, Int.toNat_natCast, h2, optK, decide_eq_false hb, Bool.not_false]
        rw [wrap1 (by omega)]
        exact e1
      · rw [Sp.pastGo, decide_eq_false hb]; exact e4

theorem l8_stop {s : List UInt8} {n k' j e : Nat} {l : List D} (hje : j < e) (he : e ≤ s.length) (hl : l.length ≤ 65536) :
    (bif decide ((e : Int) = (j : Int)) then
                  some
                    (Out.ret
                        (V.tup [V.d (D.sl 3 []), V.d (D.int IntKind.i64 (j : Int)), V.d (D.int IntKind.i64 (61 : Int))]),
                      [])
                else
                  must (decide (0 ≤ (e : Int)) && decide ((e : Int) ≤ (↑s.length : Int)))
                    (must (decide (0 ≤ (j : Int)) && decide ((j : Int) ≤ (e : Int)))
                      (must
                        (decide (l.length = l.length) &&
                          decide
                            (l.length +
                                [D.agg
                                      [D.int IntKind.i64 (1 : Int), D.str (List.drop j (List.take e s)),
                                        D.int IntKind.i64 (j : Int)]].length ≤
                              4294967296))
                        (LP cx S8 n 8 0 8 k'
                          [(0, V.d (D.str s)),
                            (6,
                              V.sl 3
                                (l ++
                                  [D.agg
                                      [D.int IntKind.i64 (1 : Int), D.str (List.drop j (List.take e s)),
                                        D.int IntKind.i64 (j : Int)]])
                                6),
                            (7, V.d (D.int IntKind.i64 (e : Int)))]
                          [(6,
                              Ob.tok
                                (l.length +
                                  [D.agg
                                        [D.int IntKind.i64 (1 : Int),
                                          D.str (List.drop j (List.take e s)),
                                          D.int IntKind.i64 (j : Int)]].length))]
                          (AK cx S8 n 8 0 8 (EK cx 8 0)))))) = L8 n k' s e (l ++ [tokD 1 ((s.drop j).take (e - j)) (j : Int)]) := by
  rw [List.drop_take]
  simp only [decide_eq_false (p := (e : Int) = (j : Int)) (by omega), cond_false, must, decide_eq_true (p := (0 : Int) ≤ (e : Int)) (by omega), decide_eq_true (p := (e : Int) ≤ (s.length : Int)) (by omega),
    decide_eq_true (p := (0 : Int) ≤ (j : Int)) (by omega), decide_eq_true (p := (j : Int) ≤ (e : Int)) (by omega), Bool.and_self, cond_true, decide_true, List.length_singleton, decide_eq_true (p := l.length + 1 ≤ 4294967296) (by omega)]
  unfold L8
  rw [List.length_append]
  rfl

/-- The name is taken. -/
theorem l8_name {s : List UInt8} (hs : s.length ≤ 65536) (n k' j : Nat) {l : List D} (hl : l.length ≤ 65536) : ∀ (r : List UInt8) (e k : Nat), s.drop e = r → j < e → e ≤ s.length → r.length < k →
    LP cx S8 n 8 0 18 k [(0, .d (.str s)), (6, .sl 3 l 6), (7, .d (.int .i64 (j : Int))), (8, .d (.int .i64 (e : Int))), (9, .d (.int .i64 1))] [(6, .tok l.length)] (AL cx S8 n 8 0 8 18 (inK cx S8 n 8 0 8 k' (AK cx S8 n 8 0 8 (EK cx 8 0)))) =
      L8 n k' s (j + Sp.nameGo r (e - j)) (l ++ [tokD 1 ((s.drop j).take (Sp.nameGo r (e - j))) (j : Int)])
  | _, _, 0, _, _, _, hk => by omega
  | [], e, k + 1, hr, hje, he, _ => by
    have h1 := drop_nil hr
    rw [l8n, decide_eq_false (p := (e : Int) < (s.length : Int)) (by omega), cond_false]
    refine (l8_stop (n := n) (k' := k') hje he hl).trans ?_
    rw [Sp.nameGo, show j + (e - j) = e by omega]
  | b :: r, e, k + 1, hr, hje, he, hk => by
    obtain ⟨h1, h2, h3⟩ := drop_cons hr
    have ih := l8_name hs n k' j hl r (e + 1) k h3 (by omega) h1 (by simpa using hk)
    have hle := nameGo_le (b :: r) (e - j)
    rw [l8n]
    simp only [decide_eq_true (p := (e : Int) < (s.length : Int)) (by omega), decide_eq_true (p := (0 : Int) ≤ (e : Int)) (by omega), cond_true, Bool.and_self, must, Int.toNat_natCast, h2, optK, Sp.nameGo, decide_eq_true (p := 0 < e - j) (by omega), Bool.true_and]
    rw [wrap1 (by omega)]
    cases Sp.letter (b.toNat : Int)
    · cases Sp.digit (b.toNat : Int)
      · have st := l8_stop (n := n) (k' := k') hje he hl
        simp only [decide_eq_true (p := (0 : Int) ≤ (e : Int)) (by omega), decide_eq_true (p := (e : Int) ≤ (s.length : Int)) (by omega), must, cond_true, Bool.and_self] at st
        simp only [cond_false, Bool.or_self, decide_eq_true (p := (e : Int) ≤ (s.length : Int)) (by omega), cond_true]
        rw [show j + (e - j) = e by omega]
        exact st
      · simp only [cond_false, cond_true, Bool.or_true]
        rw [show e - j + 1 = e + 1 - j by omega]; exact ih
    · simp only [cond_true, Bool.true_or]
      rw [show e - j + 1 = e + 1 - j by omega]; exact ih

end Go.Vai
end

section
namespace Go.Vai
open Go.Proofs

noncomputable def R8 (n k : Nat) (s : List UInt8) (i : Int) (l : List D) : Option (Out × St) :=
                must (decide (0 ≤ i) && decide (i < (↑s.length : Int)))
                  (optK s[i.toNat]? fun b =>
                    bif Sp.letter (↑b.toNat : Int) then
                      LP cx S8 n 8 0 18 n
                        [(0, V.d (D.str s)), (6, V.sl 3 l 6), (7, V.d (D.int IntKind.i64 i)),
                          (8, V.d (D.int IntKind.i64 i)), (9, V.d (D.int IntKind.i64 (1 : Int)))]
                        [(6, Ob.tok l.length)]
                        (AL cx S8 n 8 0 8 18 (inK cx S8 n 8 0 8 k (AK cx S8 n 8 0 8 (EK cx 8 0))))
                    else
                      must (decide (s.length ≤ big) && (decide (0 ≤ i) && decide (i < (↑s.length : Int))))
                        (bif decide (IntKind.i64.wrap (i + Sp.signAt s i) = i) then
                          some
                            (Out.ret
                                (V.tup
                                  [V.d (D.sl 3 []), V.d (D.int IntKind.i64 i), V.d (D.int IntKind.i64 (61 : Int))]),
                              [])
                        else
                          must
                            (decide (0 ≤ IntKind.i64.wrap (i + Sp.signAt s i)) &&
                              decide (IntKind.i64.wrap (i + Sp.signAt s i) ≤ (↑s.length : Int)))
                            (must (decide (0 ≤ i) && decide (i ≤ (↑(IntKind.i64.wrap (i + Sp.signAt s i)).toNat : Int)))
                              (must
                                (decide (l.length = l.length) &&
                                  decide
                                    (l.length +
                                        [D.agg
                                              [D.int IntKind.i64 (2 : Int),
                                                D.str
                                                  (List.drop i.toNat
                                                    (List.take (IntKind.i64.wrap (i + Sp.signAt s i)).toNat s)),
                                                D.int IntKind.i64 i]].length ≤
                                      4294967296))
                                (LP cx S8 n 8 0 8 k
                                  [(0, V.d (D.str s)),
                                    (6,
                                      V.sl 3
                                        (l ++
                                          [D.agg
                                              [D.int IntKind.i64 (2 : Int),
                                                D.str
                                                  (List.drop i.toNat
                                                    (List.take (IntKind.i64.wrap (i + Sp.signAt s i)).toNat s)),
                                                D.int IntKind.i64 i]])
                                        6),
                                    (7, V.d (D.int IntKind.i64 (IntKind.i64.wrap (i + Sp.signAt s i))))]
                                  [(6,
                                      Ob.tok
                                        (l.length +
                                          [D.agg
                                                [D.int IntKind.i64 (2 : Int),
                                                  D.str
                                                    (List.drop i.toNat
                                                      (List.take (IntKind.i64.wrap (i + Sp.signAt s i)).toNat s)),
                                                  D.int IntKind.i64 i]].length))]
                                  (AK cx S8 n 8 0 8 (EK cx 8 0)))))))

theorem l8r (n k : Nat) (s : List UInt8) (i : Int) (l : List D) :
    LP cx S8 n 8 0 8 (k+1) [(0, .d (.str s)), (6, .sl 3 l 6), (7, .d (.int .i64 i))] [(6, .tok l.length)] (AK cx S8 n 8 0 8 (EK cx 8 0)) =
  bif decide (i < (↑s.length : Int)) then
    must (decide (0 ≤ i) && decide (i < (↑s.length : Int)))
      (optK s[i.toNat]? fun b =>
        bif Sp.blank (↑b.toNat : Int) then
          LP cx S8 n 8 0 8 k
            [(0, V.d (D.str s)), (6, V.sl 3 l 6), (7, V.d (D.int IntKind.i64 (IntKind.i64.wrap (i + (1 : Int)))))]
            [(6, Ob.tok l.length)] (AK cx S8 n 8 0 8 (EK cx 8 0))
        else
          must (decide (0 ≤ i) && decide (i < (↑s.length : Int)))
            (optK s[i.toNat]? fun b =>
              bif decide ((↑b.toNat : Int) = (45 : Int)) then
                bif decide (IntKind.i64.wrap (i + (1 : Int)) < (↑s.length : Int)) then
                  must
                    (decide (0 ≤ IntKind.i64.wrap (i + (1 : Int))) &&
                      decide (IntKind.i64.wrap (i + (1 : Int)) < (↑s.length : Int)))
                    (optK s[(IntKind.i64.wrap (i + (1 : Int))).toNat]? fun b =>
                      bif decide ((↑b.toNat : Int) = (45 : Int)) then
                        LP cx S8 n 8 0 12 n [(0, V.d (D.str s)), (6, V.sl 3 l 6), (7, V.d (D.int IntKind.i64 i))]
                          [(6, Ob.tok l.length)]
                          (AL cx S8 n 8 0 8 12 (inK cx S8 n 8 0 8 k (AK cx S8 n 8 0 8 (EK cx 8 0))))
                      else R8 n k s i l)
                else R8 n k s i l
              else R8 n k s i l))
  else
    must
      (decide (l.length = l.length) &&
        decide
          (l.length + [D.agg [D.int IntKind.i64 (0 : Int), D.str [], D.int IntKind.i64 (↑s.length : Int)]].length ≤
            4294967296))
      (some
        (Out.ret
            (V.tup
              [V.d
                  (D.sl 3
                    (l ++ [D.agg [D.int IntKind.i64 (0 : Int), D.str [], D.int IntKind.i64 (↑s.length : Int)]])),
                V.d (D.int IntKind.i64 (0 : Int)), V.d (D.int IntKind.i64 (0 : Int))]),
          [])) := l8 n k s i l

theorem nameGo_ge : ∀ (r : List UInt8) (j : Nat), j ≤ Sp.nameGo r j
  | [], j => Nat.le_refl _
  | b :: r, j => by
    have := nameGo_ge r (j + 1)
    simp only [Sp.nameGo]
    cases (Sp.letter b.toNat || (decide (0 < j) && Sp.digit b.toNat))
    · exact Nat.le_refl _
    · simp only [cond_true]; omega

theorem signGo_kind (s : List UInt8) : ∀ l : List (List UInt8), (Sp.signGo s l).2 = [] ∨ (Sp.signGo s l).1 = 2
  | [] => .inl rfl
  | x :: l => by
    simp only [Sp.signGo]
    cases Sp.hasPre s x
    · exact signGo_kind s l
    · exact .inr rfl

/-- A token, or none. -/
theorem r8 {s : List UInt8} (hs : s.length ≤ 65536) {n k j : Nat} (hn : s.length < n) {l : List D} (hl : l.length ≤ 65536) {b : UInt8} {r : List UInt8} (hd : s.drop j = b :: r) :
    R8 n k s (j : Int) l = bif decide ((Sp.one (s.drop j)).2 = []) then scanRes ([], j, 61) else L8 n k s (j + (Sp.one (s.drop j)).2.length) (l ++ [tokD (Sp.one (s.drop j)).1 (Sp.one (s.drop j)).2 (j : Int)]) := by
  obtain ⟨h1, h2, h3⟩ := drop_cons hd
  have hlen : (b :: r).length = s.length - j := by rw [← hd]; simp
  unfold R8
  simp only [decide_eq_true (p := (j : Int) < (s.length : Int)) (by omega), decide_eq_true (p := (0 : Int) ≤ (j : Int)) (by omega), cond_true, Bool.and_self, must, Int.toNat_natCast, h2, optK]
  rw [hd]
  cases hb : Sp.letter (b.toNat : Int)
  · have hnl : Sp.nameLen (b :: r) = 0 := by simp only [Sp.nameLen, Sp.nameGo, hb]; rfl
    have hone : Sp.one (b :: r) = Sp.signGo (b :: r) Sp.signs := by unfold Sp.one; rw [hnl]; rfl
    have hpre := one_pre (b :: r)
    have hle := one_le (b :: r)
    have hk := signGo_kind (b :: r) Sp.signs
    have hsg : Sp.signAt s (j : Int) = ((Sp.one (b :: r)).2.length : Int) := by unfold Sp.signAt; rw [Int.toNat_natCast, hd, hone]
    rw [← hone] at hk
    generalize Sp.one (b :: r) = o at hpre hle hk hsg hone ⊢
    simp only [cond_false, hsg, decide_eq_true (p := s.length ≤ big) (by simp [big]; omega), decide_eq_true (p := (j : Int) ≤ (s.length : Int)) (by omega), cond_true, Bool.and_self]
    rw [wrapN (x := (j : Int) + (o.2.length : Int)) (by omega) (by omega), show (j : Int) + (o.2.length : Int) = ((j + o.2.length : Nat) : Int) by omega]
    simp only [Int.toNat_natCast]
    by_cases ho : o.2 = []
    · rw [decide_eq_true ho, decide_eq_true (p := ((j + o.2.length : Nat) : Int) = (j : Int)) (by rw [ho]; rfl)]; rfl
    · have hpos : 0 < o.2.length := List.length_pos_iff.2 ho
      have hk2 : o.1 = 2 := hk.resolve_left ho
      rw [decide_eq_false ho, decide_eq_false (p := ((j + o.2.length : Nat) : Int) = (j : Int)) (by omega), List.drop_take, show j + o.2.length - j = o.2.length by omega, hd, ← hpre, hk2]
      simp only [decide_eq_true (p := (0 : Int) ≤ ((j + o.2.length : Nat) : Int)) (by omega), decide_eq_true (p := ((j + o.2.length : Nat) : Int) ≤ (s.length : Int)) (by omega), decide_eq_true (p := (j : Int) ≤ ((j + o.2.length : Nat) : Int)) (by omega),
        cond_true, cond_false, Bool.and_self, List.length_singleton, decide_eq_true (p := l.length + 1 ≤ 4294967296) (by omega)]
      unfold L8
      rw [List.length_append]
      rfl
  · have hnl : Sp.nameLen (b :: r) = Sp.nameGo r 1 := by simp only [Sp.nameLen, Sp.nameGo, hb, Bool.true_or, cond_true, Nat.zero_add]
    have hge := nameGo_ge r 1
    have hle := nameLen_le (b :: r)
    have hone : Sp.one (b :: r) = (1, (b :: r).take (Sp.nameLen (b :: r))) := by unfold Sp.one; rw [decide_eq_true (by omega)]; rfl
    have hl1 : ((b :: r).take (Sp.nameLen (b :: r))).length = Sp.nameLen (b :: r) := by rw [List.length_take]; omega
    obtain ⟨n', hn'⟩ : ∃ i, n = i + 1 := ⟨n - 1, by omega⟩
    have st := l8_name hs n k j hl r (j + 1) n' h3 (by omega) h1 (by simp at hlen; omega)
    rw [show j + 1 - j = 1 by omega, hd, ← hnl] at st
    rw [cond_true, hone]
    simp only []
    rw [hl1, decide_eq_false (p := (b :: r).take (Sp.nameLen (b :: r)) = []) (by intro h; rw [h] at hl1; simp at hl1; omega), cond_false, ← st]
    conv => lhs; arg 7; rw [hn']
    rw [l8n]
    simp only [decide_eq_true (p := (j : Int) < (s.length : Int)) (by omega), decide_eq_true (p := (0 : Int) ≤ (j : Int)) (by omega), cond_true, Bool.and_self, must, Int.toNat_natCast, h2, optK, hb]
    rw [wrap1 (by omega)]

theorem ref_loop {s : List UInt8} (hs : s.length ≤ 65536) {n : Nat} (hn : s.length < n) : ∀ (N j k f : Nat) (l : List D), s.length - j ≤ N → s.length - j < f → s.length - j < k → j ≤ s.length → l.length + (s.length - j) ≤ 65536 →
    L8 n k s j l = scanRes (Sp.toks f s (Sp.past s j) l) := by
  intro N
  induction N with
  | zero =>
    intro j k f l hN hf hk hj hl
    obtain ⟨k, rfl⟩ : ∃ i, k = i + 1 := ⟨k - 1, by omega⟩
    obtain ⟨f, rfl⟩ : ∃ i, f = i + 1 := ⟨f - 1, by omega⟩
    have hb := past_bounds (s := s) hj
    have hll : decide (l.length = l.length) = true := decide_eq_true rfl
    unfold L8
    rw [l8r]
    simp only [decide_eq_false (p := (j : Int) < (s.length : Int)) (by omega), cond_false, Sp.toks, decide_eq_false (p := Sp.past s j < s.length) (by omega), hll, Bool.true_and, must, List.length_singleton, decide_eq_true (p := l.length + 1 ≤ 4294967296) (by omega), cond_true]
    rfl
  | succ N ih =>
    intro j k f l hN hf hk hj hl
    by_cases hlt : s.length - j ≤ N
    · exact ih j k f l hlt hf hk hj hl
    obtain ⟨k, rfl⟩ : ∃ i, k = i + 1 := ⟨k - 1, by omega⟩
    cases hd : s.drop j with
    | nil => have := drop_nil hd; omega
    | cons b r =>
      obtain ⟨h1, h2, h3⟩ := drop_cons hd
      have hlen : (b :: r).length = s.length - j := by rw [← hd]; simp
      unfold L8
      rw [l8r]
      simp only [decide_eq_true (p := (j : Int) < (s.length : Int)) (by omega), decide_eq_true (p := (0 : Int) ≤ (j : Int)) (by omega), cond_true, Bool.and_self, must, Int.toNat_natCast, h2, optK]
      rw [wrap1 (by omega)]
      cases hb : Sp.blank (b.toNat : Int)
      · -- a token, or a comment
        have tok : ∀ (hp : Sp.past s j = j), R8 n k s (j : Int) l = scanRes (Sp.toks f s (Sp.past s j) l) := by
          intro hp
          obtain ⟨f, rfl⟩ : ∃ i, f = i + 1 := ⟨f - 1, by omega⟩
          rw [r8 hs hn (by omega) hd, hp, Sp.toks, decide_eq_true h1, cond_true]
          have hle := one_le (s.drop j)
          rw [List.length_drop] at hle
          by_cases ho : (Sp.one (s.drop j)).2 = []
          · rw [decide_eq_true ho]; rfl
          · have hpos : 0 < (Sp.one (s.drop j)).2.length := List.length_pos_iff.2 ho
            rw [decide_eq_false ho, cond_false, cond_false]
            exact ih _ k f _ (by omega) (by omega) (by omega) (by omega) (by simp; omega)
        have hpast : Sp.past s j = bif decide ((b.toNat : Int) = 45) && Sp.hasPre (b :: r) [45, 45] then Sp.pastGo true r (j + 1) else j := by
          unfold Sp.past; rw [hd, Sp.pastGo, hb]; rfl
        simp only [cond_false]
        by_cases h45 : (b.toNat : Int) = 45
        · rw [decide_eq_true h45, Bool.true_and] at hpast
          have hb45 : b = 45 := UInt8.toNat_inj.1 (by simp; omega)
          rw [decide_eq_true h45, cond_true]
          cases r with
          | nil =>
            rw [decide_eq_false (p := ((j + 1 : Nat) : Int) < (s.length : Int)) (by simp at hlen; omega), cond_false]
            refine tok (hpast.trans ?_)
            rw [show Sp.hasPre [b] [45, 45] = false by simp [Sp.hasPre]]; rfl
          | cons c r =>
            obtain ⟨h4, h5, h6⟩ := drop_cons h3
            simp only [decide_eq_true (p := ((j + 1 : Nat) : Int) < (s.length : Int)) (by omega), decide_eq_true (p := (0 : Int) ≤ ((j + 1 : Nat) : Int)) (by omega), cond_true, Bool.and_self, Int.toNat_natCast, h5]
            by_cases hc : (c.toNat : Int) = 45
            · have hc45 : c = 45 := UInt8.toNat_inj.1 (by simp; omega)
              rw [show Sp.hasPre (b :: c :: r) [45, 45] = true by simp [Sp.hasPre, hb45, hc45], cond_true] at hpast
              rw [decide_eq_true hc, cond_true]
              obtain ⟨j', e1, e2, e3, e4, e5⟩ := l8_skip hs n k l (b :: c :: r) j n hd hj (by omega)
              rw [Sp.pastGo, decide_eq_false (by omega)] at e4
              have hjj := e5 b (c :: r) rfl (by omega)
              refine e1.trans ?_
              rw [hpast]
              refine (ih j' k f l (by omega) (by omega) (by omega) e3 (by omega)).trans ?_
              rw [← e4]; rfl
            · rw [decide_eq_false hc, cond_false]
              refine tok (hpast.trans ?_)
              rw [show Sp.hasPre (b :: c :: r) [45, 45] = false by
                simp only [Sp.hasPre, List.length_cons, List.length_nil, List.take]; exact decide_eq_false fun h => by simp at h; exact hc (by rw [h.2]; rfl)]
              rfl
        · rw [decide_eq_false h45, Bool.false_and] at hpast
          rw [decide_eq_false h45, cond_false]
          exact tok hpast
      · have hpast : Sp.past s j = Sp.past s (j + 1) := by
          unfold Sp.past; rw [hd, Sp.pastGo, hb, h3]; rfl
        rw [cond_true, hpast]
        exact ih (j + 1) k f l (by omega) (by omega) (by omega) h1 (by omega)

theorem lim8 (s : List UInt8) (hb : s.length ≤ big) : evLim cx 8 [.d (.str s)] [] = scanRes (Sp.scan s) := by
  unfold Sp.scan
  refine lim_body (N := s.length + 1) S8_knows ?_
  rw [b8]
  by_cases h : 65536 < s.length
  · rw [decide_eq_true h, cond_true, decide_eq_true (p := (65536 : Int) < (s.length : Int)) (by omega)]
    rfl
  · rw [decide_eq_false h, cond_false, decide_eq_false (p := (65536 : Int) < (s.length : Int)) (by omega), decide_eq_true hb]
    simp only [cond_false, must, cond_true]
    unfold Sp.utfR
    cases Sp.utfGo s.length s 0 with
    | none => exact ref_loop (by omega) (by omega) s.length 0 _ _ [] (by omega) (by omega) (by omega) (by omega) (by simp; omega)
    | some p => simp only [decide_eq_true (p := (0 : Int) ≤ (p : Int)) (by omega)]; rfl

end Go.Vai
end

section
namespace Go.Vai
open Go.Proofs

theorem b9 (n : Nat) (a b : List D) :
    evBody cx none1 n 9 [.d (.sl 3 a), .d (.sl 3 b)] [] =
  bif !decide ((↑a.length : Int) = (↑b.length : Int)) then some (Out.ret (V.d (D.bool false)), [])
  else
    LP cx none1 n 9 0 4 n
      [(0, V.d (D.sl 3 a)), (1, V.d (D.sl 3 b)), (12, V.d (D.int IntKind.i64 (↑a.length : Int))),
        (13, V.d (D.int IntKind.i64 (0 : Int)))]
      [] (AK cx none1 n 9 0 4 (EK cx 9 0)) := by kernel_rfl

theorem l9 (n k : Nat) (m i : Int) (a b : List D) :
    LP cx none1 n 9 0 4 (k+1) [(0, .d (.sl 3 a)), (1, .d (.sl 3 b)), (12, .d (.int .i64 m)), (13, .d (.int .i64 i))] [] (AK cx none1 n 9 0 4 (EK cx 9 0)) =
  bif decide (i < m) then
    must (decide (0 ≤ i) && decide (i < (↑a.length : Int)))
      (nthD a i.toNat fun y =>
        nthD y.cells 0 fun c =>
          match c with
          | D.int k' n_1 =>
            bif decide (k' = IntKind.i64) then
              must (decide (0 ≤ i) && decide (i < (↑b.length : Int)))
                (nthD b i.toNat fun y =>
                  nthD y.cells 0 fun c =>
                    match c with
                    | D.int k' n_2 =>
                      bif decide (k' = IntKind.i64) then
                        bif !decide (n_1 = n_2) then some (Out.ret (V.d (D.bool false)), [])
                        else
                          must (decide (0 ≤ i) && decide (i < (↑a.length : Int)))
                            (nthD a i.toNat fun y =>
                              nthD y.cells 1 fun c =>
                                match c with
                                | D.str s =>
                                  must (decide (0 ≤ i) && decide (i < (↑b.length : Int)))
                                    (nthD b i.toNat fun y =>
                                      nthD y.cells 1 fun c =>
                                        match c with
                                        | D.str s_1 =>
                                          bif !decide (s = s_1) then some (Out.ret (V.d (D.bool false)), [])
                                          else
                                            must (decide (0 ≤ i) && decide (i < (↑a.length : Int)))
                                              (nthD a i.toNat fun y =>
                                                nthD y.cells 2 fun c =>
                                                  match c with
                                                  | D.int k' n_3 =>
                                                    bif decide (k' = IntKind.i64) then
                                                      must (decide (0 ≤ i) && decide (i < (↑b.length : Int)))
                                                        (nthD b i.toNat fun y =>
                                                          nthD y.cells 2 fun c =>
                                                            match c with
                                                            | D.int k' n_4 =>
                                                              bif decide (k' = IntKind.i64) then
                                                                bif !decide (n_3 = n_4) then
                                                                  some (Out.ret (V.d (D.bool false)), [])
                                                                else
                                                                  LP cx none1 n 9 0 4 k
                                                                    [(0, V.d (D.sl 3 a)), (1, V.d (D.sl 3 b)),
                                                                      (12, V.d (D.int IntKind.i64 m)),
                                                                      (13,
                                                                        V.d
                                                                          (D.int IntKind.i64
                                                                            (IntKind.i64.wrap (i + (1 : Int)))))]
                                                                    [] (AK cx none1 n 9 0 4 (EK cx 9 0))
                                                              else none
                                                            | x => none)
                                                    else none
                                                  | x => none)
                                        | x => none)
                                | x => none)
                      else none
                    | x => none)
            else none
          | x => none)
  else some (Out.ret (V.d (D.bool true)), []) := by kernel_rfl


theorem nthD_at {R : Type} {l : List D} {i : Nat} {x : D} {K : D → Option R} (h : l[i]? = some x) : nthD l i K = K x := by unfold nthD; rw [h]

def IsTok (d : D) : Prop := ∃ k t a, d = tokD k t a

theorem eqTok_tok {d : D} (h : IsTok d) : eqTok d d = true := by
  obtain ⟨k, t, a, rfl⟩ := h
  simp [eqTok, tokD]

theorem eqToks_toks : ∀ {l : List D}, (∀ d ∈ l, IsTok d) → eqToks l l = true
  | [], _ => rfl
  | d :: l, h => by
    rw [eqToks, eqTok_tok (h d List.mem_cons_self), eqToks_toks fun x hx => h x (List.mem_cons_of_mem _ hx)]; rfl

theorem eqTok_eq {a b : D} (h : eqTok a b = true) : a = b ∧ IsTok a := by
  unfold eqTok at h
  split at h
  · simp only [Bool.and_eq_true, decide_eq_true_eq] at h
    obtain ⟨⟨⟨⟨⟨⟨rfl, rfl⟩, rfl⟩, rfl⟩, rfl⟩, rfl⟩, rfl⟩ := h
    exact ⟨rfl, _, _, _, rfl⟩
  · cases h

theorem eqToks_eq : ∀ {a b : List D}, eqToks a b = true → a = b ∧ ∀ d ∈ a, IsTok d
  | [], [], _ => ⟨rfl, fun _ h => by cases h⟩
  | x :: a, y :: b, h => by
    simp only [eqToks, Bool.and_eq_true] at h
    obtain ⟨rfl, h1⟩ := eqTok_eq h.1
    obtain ⟨rfl, h2⟩ := eqToks_eq h.2
    exact ⟨rfl, fun d hd => by cases hd with | head => exact h1 | tail _ hd => exact h2 d hd⟩
  | [], _ :: _, h => by cases h
  | _ :: _, [], h => by cases h

theorem same_loop {a : List D} (ha : ∀ d ∈ a, IsTok d) (hl : a.length ≤ big) (n : Nat) : ∀ (N j k : Nat), a.length - j ≤ N → N < k → j ≤ a.length →
    LP cx none1 n 9 0 4 k [(0, .d (.sl 3 a)), (1, .d (.sl 3 a)), (12, .d (.int .i64 (a.length : Int))), (13, .d (.int .i64 (j : Int)))] [] (AK cx none1 n 9 0 4 (EK cx 9 0)) = some (.ret (.d (.bool true)), []) := by
  intro N
  induction N with
  | zero =>
    intro j k h hk hj
    obtain ⟨k, rfl⟩ : ∃ i, k = i + 1 := ⟨k - 1, by omega⟩
    rw [l9, decide_eq_false (by omega)]; rfl
  | succ N ih =>
    intro j k h hk hj
    obtain ⟨k, rfl⟩ : ∃ i, k = i + 1 := ⟨k - 1, by omega⟩
    rw [l9]
    by_cases hlt : j < a.length
    · have hg : a[j]? = some a[j] := List.getElem?_eq_getElem hlt
      obtain ⟨x, t, y, he⟩ := ha a[j] (List.getElem_mem hlt)
      rw [he] at hg
      have c0 : (tokD x t y).cells[0]? = some (.int .i64 x) := rfl
      have c1 : (tokD x t y).cells[1]? = some (.str t) := rfl
      have c2 : (tokD x t y).cells[2]? = some (.int .i64 y) := rfl
      simp only [decide_eq_true (p := (j : Int) < (a.length : Int)) (by omega), decide_eq_true (p := (0 : Int) ≤ (j : Int)) (by omega), cond_true, Bool.and_self, must, Int.toNat_natCast, nthD_at hg, nthD_at c0, nthD_at c1, nthD_at c2, decide_true, Bool.not_true, cond_false]
      rw [wrap1 (Nat.le_trans hj hl)]
      exact ih (j + 1) k (by omega) (by omega) hlt
    · rw [decide_eq_false (by omega)]; rfl

theorem lim9 {a b : List D} (h : cx.dom 9 [.d (.sl 3 a), .d (.sl 3 b)] = true) : evLim cx 9 [.d (.sl 3 a), .d (.sl 3 b)] [] = some (.ret (.d (.bool true)), []) := by
  have h' : (eqToks a b && decide (a.length ≤ big)) = true := h
  simp only [Bool.and_eq_true, decide_eq_true_eq] at h'
  obtain ⟨rfl, ha⟩ := eqToks_eq h'.1
  refine lim_body (N := a.length + 1) (none1_knows cx) ?_
  rw [b9, decide_eq_true rfl, Bool.not_true, cond_false]
  exact same_loop ha h'.2 _ a.length 0 _ (by omega) (by omega) (by omega)

theorem lim10 : evLim cx 10 [] [] = some (.ret (.d (.bool true)), []) := lim_of (n := 60) (by kernel_rfl)

theorem toks_tok {s : List UInt8} : ∀ (f j : Nat) (l : List D), (∀ d ∈ l, IsTok d) → ∀ d ∈ (Sp.toks f s j l).1, IsTok d
  | 0, _, _, _ => fun d hd => by cases hd
  | f + 1, j, l, h => by
    rw [Sp.toks]
    cases decide (j < s.length)
    · rw [cond_false]
      intro d hd
      rcases List.mem_append.1 hd with hd | hd
      · exact h d hd
      · cases hd with
        | head => exact ⟨_, _, _, rfl⟩
        | tail _ hd => cases hd
    · rw [cond_true]
      cases decide ((Sp.one (s.drop j)).2 = [])
      · rw [cond_false]
        refine toks_tok f _ _ fun d hd => ?_
        rcases List.mem_append.1 hd with hd | hd
        · exact h d hd
        · cases hd with
          | head => exact ⟨_, _, _, rfl⟩
          | tail _ hd => cases hd
      · intro d hd; cases hd

theorem toks_len {s : List UInt8} : ∀ (f j : Nat) (l : List D), (Sp.toks f s j l).1.length ≤ l.length + f
  | 0, _, l => Nat.zero_le _
  | f + 1, j, l => by
    rw [Sp.toks]
    cases decide (j < s.length)
    · simp
    · rw [cond_true]
      cases decide ((Sp.one (s.drop j)).2 = [])
      · rw [cond_false]
        have := toks_len (s := s) f (Sp.past s (j + (Sp.one (s.drop j)).2.length)) (l ++ [tokD (Sp.one (s.drop j)).1 (Sp.one (s.drop j)).2 j])
        simp at this; omega
      · exact Nat.zero_le _

theorem scan_tok (s : List UInt8) : ∀ d ∈ (Sp.scan s).1, IsTok d := by
  unfold Sp.scan
  cases decide (65536 < s.length)
  · rw [cond_false]
    cases Sp.utfGo s.length s 0
    · exact toks_tok _ _ _ fun _ h => by cases h
    · exact fun _ h => by cases h
  · exact fun _ h => by cases h

theorem scan_len (s : List UInt8) : (Sp.scan s).1.length ≤ s.length + 1 := by
  unfold Sp.scan
  cases decide (65536 < s.length)
  · rw [cond_false]
    cases Sp.utfGo s.length s 0
    · simpa using toks_len (s := s) (s.length + 1) (Sp.past s 0) []
    · exact Nat.zero_le _
  · exact Nat.zero_le _

def scanF : List V → Option Out | [.d (.str s)] => some (.ret (.tup [.d (.sl 3 (Sp.scan s).1), .d (.int .i64 (Sp.scan s).2.1), .d (.int .i64 (Sp.scan s).2.2)])) | _ => none
def sameF : List V → Option Out | [.d (.sl 3 _), .d (.sl 3 _)] => some (.ret (.d (.bool true))) | _ => none
def trueF : List V → Option Out | [] => some (.ret (.d (.bool true))) | _ => none
noncomputable def S3 : Caller := also 7 scanF (also 8 scanF (also 9 sameF (also 10 trueF none1)))

theorem S3_knows : knows cx S3 (evLim cx) := by
  refine also_knows (also_knows (also_knows (also_knows (none1_knows cx) ?_) ?_) ?_) ?_
  · intro args o _ h
    unfold trueF at h
    split at h
    · cases h; exact lim10
    · cases h
  · intro args o hd h
    unfold sameF at h
    split at h
    · cases h; exact lim9 hd
    · cases h
  · intro args o hd h
    unfold scanF at h
    split at h
    · cases h; exact lim8 _ (of_decide_eq_true hd)
    · cases h
  · intro args o hd h
    unfold scanF at h
    split at h
    · cases h; exact lim7 _
    · cases h

theorem b3 (n : Nat) (s : List UInt8) :
    evBody cx S3 n 3 [.d (.str s)] [] =
  must (decide (s.length ≤ big))
    (must (decide (s.length ≤ big))
      (must (eqToks (Sp.scan s).1 (Sp.scan s).1 && decide ((Sp.scan s).1.length ≤ big))
        (bif decide ((Sp.scan s).snd.fst = (Sp.scan s).snd.fst) then
          bif decide ((Sp.scan s).snd.snd = (Sp.scan s).snd.snd) then some (Out.ret (V.d (D.bool true)), [])
          else some (Out.ret (V.d (D.bool false)), [])
        else some (Out.ret (V.d (D.bool false)), [])))) := by kernel_rfl


theorem str_rd {w : World} {own : Own} (s : ByteArray) : RD w own (.string s) (.str s.data.toList) := by
  have h := RD.str (w := w) (own := own) s.data.toList
  have e : strB s.data.toList = s := by simp [strB]
  rwa [e] at h

theorem pure_lexScans (s : List UInt8) (h : s.length ≤ 1048576) : ∃ n, evFun cx n 3 [.d (.str s)] [] = some (.ret (.d (.bool true)), []) := by
  refine lim_ex (lim_body (N := 1) S3_knows ?_)
  have hl := scan_len s
  rw [b3, decide_eq_true (p := s.length ≤ big) (by simp [big]; omega), eqToks_toks (scan_tok s), decide_eq_true (p := (Sp.scan s).1.length ≤ big) (by simp [big]; omega)]
  simp [must]

end Go.Vai
end

section
namespace Go.Vai
open Go.Proofs

theorem b11 (n : Nat) (s : List UInt8) :
    evBody cx none1 n 11 [.d (.str s)] [] =
  LP cx none1 n 11 0 2 n [(0, V.d (D.str s)), (3, V.d (D.int IntKind.i64 (0 : Int)))] []
    (AK cx none1 n 11 0 2 (EK cx 11 0)) := by kernel_rfl

theorem l11 (n k : Nat) (s : List UInt8) (i : Int) :
    LP cx none1 n 11 0 2 (k+1) [(0, .d (.str s)), (3, .d (.int .i64 i))] [] (AK cx none1 n 11 0 2 (EK cx 11 0)) =
  bif decide (i < (↑s.length : Int)) then
    must (decide (0 ≤ i) && decide (i < (↑s.length : Int)))
      (optK s[i.toNat]? fun b =>
        bif decide ((↑b.toNat : Int) = (45 : Int)) then
          bif decide (IntKind.i64.wrap (i + (1 : Int)) < (↑s.length : Int)) then
            must
              (decide (0 ≤ IntKind.i64.wrap (i + (1 : Int))) &&
                decide (IntKind.i64.wrap (i + (1 : Int)) < (↑s.length : Int)))
              (optK s[(IntKind.i64.wrap (i + (1 : Int))).toNat]? fun b =>
                bif decide ((↑b.toNat : Int) = (45 : Int)) then
                  LP cx none1 n 11 0 5 n [(0, V.d (D.str s)), (3, V.d (D.int IntKind.i64 i))] []
                    (AL cx none1 n 11 0 2 5 (inK cx none1 n 11 0 2 k (AK cx none1 n 11 0 2 (EK cx 11 0))))
                else
                  must (decide (0 ≤ i) && decide (i < (↑s.length : Int)))
                    (optK s[i.toNat]? fun b =>
                      bif !decide ((↑b.toNat : Int) = (32 : Int)) then
                        must (decide (0 ≤ i) && decide (i < (↑s.length : Int)))
                          (optK s[i.toNat]? fun b =>
                            bif !decide ((↑b.toNat : Int) = (9 : Int)) then
                              must (decide (0 ≤ i) && decide (i < (↑s.length : Int)))
                                (optK s[i.toNat]? fun b =>
                                  bif !decide ((↑b.toNat : Int) = (10 : Int)) then
                                    must (decide (0 ≤ i) && decide (i < (↑s.length : Int)))
                                      (optK s[i.toNat]? fun b =>
                                        bif !decide ((↑b.toNat : Int) = (13 : Int)) then
                                          some (Out.ret (V.d (D.bool false)), [])
                                        else
                                          LP cx none1 n 11 0 2 k
                                            [(0, V.d (D.str s)),
                                              (3, V.d (D.int IntKind.i64 (IntKind.i64.wrap (i + (1 : Int)))))]
                                            [] (AK cx none1 n 11 0 2 (EK cx 11 0)))
                                  else
                                    LP cx none1 n 11 0 2 k
                                      [(0, V.d (D.str s)),
                                        (3, V.d (D.int IntKind.i64 (IntKind.i64.wrap (i + (1 : Int)))))]
                                      [] (AK cx none1 n 11 0 2 (EK cx 11 0)))
                            else
                              LP cx none1 n 11 0 2 k
                                [(0, V.d (D.str s)), (3, V.d (D.int IntKind.i64 (IntKind.i64.wrap (i + (1 : Int)))))]
                                [] (AK cx none1 n 11 0 2 (EK cx 11 0)))
                      else
                        LP cx none1 n 11 0 2 k
                          [(0, V.d (D.str s)), (3, V.d (D.int IntKind.i64 (IntKind.i64.wrap (i + (1 : Int)))))] []
                          (AK cx none1 n 11 0 2 (EK cx 11 0))))
          else
            must (decide (0 ≤ i) && decide (i < (↑s.length : Int)))
              (optK s[i.toNat]? fun b =>
                bif !decide ((↑b.toNat : Int) = (32 : Int)) then
                  must (decide (0 ≤ i) && decide (i < (↑s.length : Int)))
                    (optK s[i.toNat]? fun b =>
                      bif !decide ((↑b.toNat : Int) = (9 : Int)) then
                        must (decide (0 ≤ i) && decide (i < (↑s.length : Int)))
                          (optK s[i.toNat]? fun b =>
                            bif !decide ((↑b.toNat : Int) = (10 : Int)) then
                              must (decide (0 ≤ i) && decide (i < (↑s.length : Int)))
                                (optK s[i.toNat]? fun b =>
                                  bif !decide ((↑b.toNat : Int) = (13 : Int)) then
                                    some (Out.ret (V.d (D.bool false)), [])
                                  else
                                    LP cx none1 n 11 0 2 k
                                      [(0, V.d (D.str s)),
                                        (3, V.d (D.int IntKind.i64 (IntKind.i64.wrap (i + (1 : Int)))))]
                                      [] (AK cx none1 n 11 0 2 (EK cx 11 0)))
                            else
                              LP cx none1 n 11 0 2 k
                                [(0, V.d (D.str s)), (3, V.d (D.int IntKind.i64 (IntKind.i64.wrap (i + (1 : Int)))))]
                                [] (AK cx none1 n 11 0 2 (EK cx 11 0)))
                      else
                        LP cx none1 n 11 0 2 k
                          [(0, V.d (D.str s)), (3, V.d (D.int IntKind.i64 (IntKind.i64.wrap (i + (1 : Int)))))] []
                          (AK cx none1 n 11 0 2 (EK cx 11 0)))
                else
                  LP cx none1 n 11 0 2 k
                    [(0, V.d (D.str s)), (3, V.d (D.int IntKind.i64 (IntKind.i64.wrap (i + (1 : Int)))))] []
                    (AK cx none1 n 11 0 2 (EK cx 11 0)))
        else
          must (decide (0 ≤ i) && decide (i < (↑s.length : Int)))
            (optK s[i.toNat]? fun b =>
              bif !decide ((↑b.toNat : Int) = (32 : Int)) then
                must (decide (0 ≤ i) && decide (i < (↑s.length : Int)))
                  (optK s[i.toNat]? fun b =>
                    bif !decide ((↑b.toNat : Int) = (9 : Int)) then
                      must (decide (0 ≤ i) && decide (i < (↑s.length : Int)))
                        (optK s[i.toNat]? fun b =>
                          bif !decide ((↑b.toNat : Int) = (10 : Int)) then
                            must (decide (0 ≤ i) && decide (i < (↑s.length : Int)))
                              (optK s[i.toNat]? fun b =>
                                bif !decide ((↑b.toNat : Int) = (13 : Int)) then
                                  some (Out.ret (V.d (D.bool false)), [])
                                else
                                  LP cx none1 n 11 0 2 k
                                    [(0, V.d (D.str s)),
                                      (3, V.d (D.int IntKind.i64 (IntKind.i64.wrap (i + (1 : Int)))))]
                                    [] (AK cx none1 n 11 0 2 (EK cx 11 0)))
                          else
                            LP cx none1 n 11 0 2 k
                              [(0, V.d (D.str s)), (3, V.d (D.int IntKind.i64 (IntKind.i64.wrap (i + (1 : Int)))))] []
                              (AK cx none1 n 11 0 2 (EK cx 11 0)))
                    else
                      LP cx none1 n 11 0 2 k
                        [(0, V.d (D.str s)), (3, V.d (D.int IntKind.i64 (IntKind.i64.wrap (i + (1 : Int)))))] []
                        (AK cx none1 n 11 0 2 (EK cx 11 0)))
              else
                LP cx none1 n 11 0 2 k
                  [(0, V.d (D.str s)), (3, V.d (D.int IntKind.i64 (IntKind.i64.wrap (i + (1 : Int)))))] []
                  (AK cx none1 n 11 0 2 (EK cx 11 0))))
  else some (Out.ret (V.d (D.bool true)), []) := by kernel_rfl

theorem l11i (n k k' : Nat) (s : List UInt8) (i : Int) :
    LP cx none1 n 11 0 5 (k+1) [(0, .d (.str s)), (3, .d (.int .i64 i))] [] (AL cx none1 n 11 0 2 5 (inK cx none1 n 11 0 2 k' (AK cx none1 n 11 0 2 (EK cx 11 0)))) =
  bif decide (i < (↑s.length : Int)) then
    must (decide (0 ≤ i) && decide (i < (↑s.length : Int)))
      (optK s[i.toNat]? fun b =>
        bif !decide ((↑b.toNat : Int) = (10 : Int)) then
          LP cx none1 n 11 0 5 k [(0, V.d (D.str s)), (3, V.d (D.int IntKind.i64 (IntKind.i64.wrap (i + (1 : Int)))))]
            [] (AL cx none1 n 11 0 2 5 (inK cx none1 n 11 0 2 k' (AK cx none1 n 11 0 2 (EK cx 11 0))))
        else
          LP cx none1 n 11 0 2 k'
            [(0, V.d (D.str s)), (3, V.d (D.int IntKind.i64 (IntKind.i64.wrap (i + (1 : Int)))))] []
            (AK cx none1 n 11 0 2 (EK cx 11 0)))
  else
    LP cx none1 n 11 0 2 k' [(0, V.d (D.str s)), (3, V.d (D.int IntKind.i64 (IntKind.i64.wrap (i + (1 : Int)))))] []
      (AK cx none1 n 11 0 2 (EK cx 11 0)) := by kernel_rfl

noncomputable def Q11 (n k : Nat) (s : List UInt8) (i : Int) : Option (Out × St) :=
          must (decide (0 ≤ i) && decide (i < (↑s.length : Int)))
            (optK s[i.toNat]? fun b =>
              bif !decide ((↑b.toNat : Int) = (32 : Int)) then
                must (decide (0 ≤ i) && decide (i < (↑s.length : Int)))
                  (optK s[i.toNat]? fun b =>
                    bif !decide ((↑b.toNat : Int) = (9 : Int)) then
                      must (decide (0 ≤ i) && decide (i < (↑s.length : Int)))
                        (optK s[i.toNat]? fun b =>
                          bif !decide ((↑b.toNat : Int) = (10 : Int)) then
                            must (decide (0 ≤ i) && decide (i < (↑s.length : Int)))
                              (optK s[i.toNat]? fun b =>
                                bif !decide ((↑b.toNat : Int) = (13 : Int)) then
                                  some (Out.ret (V.d (D.bool false)), [])
                                else
                                  LP cx none1 n 11 0 2 k
                                    [(0, V.d (D.str s)),
                                      (3, V.d (D.int IntKind.i64 (IntKind.i64.wrap (i + (1 : Int)))))]
                                    [] (AK cx none1 n 11 0 2 (EK cx 11 0)))
                          else
                            LP cx none1 n 11 0 2 k
                              [(0, V.d (D.str s)), (3, V.d (D.int IntKind.i64 (IntKind.i64.wrap (i + (1 : Int)))))] []
                              (AK cx none1 n 11 0 2 (EK cx 11 0)))
                    else
                      LP cx none1 n 11 0 2 k
                        [(0, V.d (D.str s)), (3, V.d (D.int IntKind.i64 (IntKind.i64.wrap (i + (1 : Int)))))] []
                        (AK cx none1 n 11 0 2 (EK cx 11 0)))
              else
                LP cx none1 n 11 0 2 k
                  [(0, V.d (D.str s)), (3, V.d (D.int IntKind.i64 (IntKind.i64.wrap (i + (1 : Int)))))] []
                  (AK cx none1 n 11 0 2 (EK cx 11 0)))

theorem l11r (n k : Nat) (s : List UInt8) (i : Int) :
    LP cx none1 n 11 0 2 (k+1) [(0, .d (.str s)), (3, .d (.int .i64 i))] [] (AK cx none1 n 11 0 2 (EK cx 11 0)) =
  bif decide (i < (↑s.length : Int)) then
    must (decide (0 ≤ i) && decide (i < (↑s.length : Int)))
      (optK s[i.toNat]? fun b =>
        bif decide ((↑b.toNat : Int) = (45 : Int)) then
          bif decide (IntKind.i64.wrap (i + (1 : Int)) < (↑s.length : Int)) then
            must
              (decide (0 ≤ IntKind.i64.wrap (i + (1 : Int))) &&
                decide (IntKind.i64.wrap (i + (1 : Int)) < (↑s.length : Int)))
              (optK s[(IntKind.i64.wrap (i + (1 : Int))).toNat]? fun b =>
                bif decide ((↑b.toNat : Int) = (45 : Int)) then
                  LP cx none1 n 11 0 5 n [(0, V.d (D.str s)), (3, V.d (D.int IntKind.i64 i))] []
                    (AL cx none1 n 11 0 2 5 (inK cx none1 n 11 0 2 k (AK cx none1 n 11 0 2 (EK cx 11 0))))
                else Q11 n k s i)
          else Q11 n k s i
        else Q11 n k s i)
  else some (Out.ret (V.d (D.bool true)), []) := l11 n k s i

def Sp.quiet (s : List UInt8) : Bool := decide (Sp.past s 0 = s.length)

abbrev f11 (s : List UInt8) (j : Nat) : Fr := [(0, .d (.str s)), (3, .d (.int .i64 (j : Int)))]
noncomputable abbrev L11 (n k : Nat) (s : List UInt8) (j : Nat) : Option (Out × St) := LP cx none1 n 11 0 2 k (f11 s j) [] (AK cx none1 n 11 0 2 (EK cx 11 0))

theorem skip11 {s : List UInt8} (hs : s.length ≤ 4611686018427387904) (n k' : Nat) : ∀ (r : List UInt8) (j k : Nat), s.drop j = r → j ≤ s.length → r.length < k →
    (∃ j', j ≤ j' ∧ j' < s.length ∧ LP cx none1 n 11 0 5 k (f11 s j) [] (AL cx none1 n 11 0 2 5 (inK cx none1 n 11 0 2 k' (AK cx none1 n 11 0 2 (EK cx 11 0)))) = L11 n k' s (j' + 1) ∧ Sp.pastGo true r j = Sp.pastGo false (s.drop (j' + 1)) (j' + 1)) ∨
    (LP cx none1 n 11 0 5 k (f11 s j) [] (AL cx none1 n 11 0 2 5 (inK cx none1 n 11 0 2 k' (AK cx none1 n 11 0 2 (EK cx 11 0)))) = L11 n k' s (s.length + 1) ∧ Sp.pastGo true r j = s.length)
  | _, _, 0, _, _, hk => by omega
  | [], j, k + 1, hr, hj, _ => by
    have h1 := drop_nil hr
    obtain rfl : j = s.length := by omega
    refine .inr ⟨?_, rfl⟩
    rw [l11i, decide_eq_false (p := (s.length : Int) < (s.length : Int)) (by omega), cond_false, wrap1 (by omega)]
  | b :: r, j, k + 1, hr, hj, hk => by
    obtain ⟨h1, h2, h3⟩ := drop_cons hr
    by_cases hb : (b.toNat : Int) = 10
    · refine .inl ⟨j, Nat.le_refl _, h1, ?_, ?_⟩
      · rw [l11i]
        simp only [decide_eq_true (p := (j : Int) < (s.length : Int)) (by omega), decide_eq_true (p := (0 : Int) ≤ (j : Int)) (by omega), cond_true, Bool.and_self, must, Int.toNat_natCast, h2, optK, decide_eq_true hb, Bool.not_true, cond_false]
        rw [wrap1 (by omega)]
      · rw [Sp.pastGo, decide_eq_true hb, h3]; rfl
    · have st : LP cx none1 n 11 0 5 (k + 1) (f11 s j) [] (AL cx none1 n 11 0 2 5 (inK cx none1 n 11 0 2 k' (AK cx none1 n 11 0 2 (EK cx 11 0)))) = LP cx none1 n 11 0 5 k (f11 s (j + 1)) [] (AL cx none1 n 11 0 2 5 (inK cx none1 n 11 0 2 k' (AK cx none1 n 11 0 2 (EK cx 11 0)))) := by
        rw [l11i]
        simp only [decide_eq_true (p := (j : Int) < (s.length : Int)) (by omega), decide_eq_true (p := (0 : Int) ≤ (j : Int)) (by omega), cond_true, Bool.and_self, must, Int.toNat_natCast, h2, optK, decide_eq_false hb, Bool.not_false]
        rw [wrap1 (by omega)]
      have sp : Sp.pastGo true (b :: r) j = Sp.pastGo true r (j + 1) := by rw [Sp.pastGo, decide_eq_false hb]; rfl
      rw [st, sp]
      rcases skip11 hs n k' r (j + 1) k h3 h1 (by simpa using hk) with ⟨j', g1, g2, g3, g4⟩ | h
      · exact .inl ⟨j', by omega, g2, g3, g4⟩
      · exact .inr h

theorem q11 {s : List UInt8} (hs : s.length ≤ 4611686018427387904) {n k j : Nat} {b : UInt8} (hg : s[j]? = some b) :
    Q11 n k s (j : Int) = bif Sp.blank (b.toNat : Int) then L11 n k s (j + 1) else some (.ret (.d (.bool false)), []) := by
  have hlt : j < s.length := (List.getElem?_eq_some_iff.1 hg).1
  unfold Q11
  simp only [decide_eq_true (p := (j : Int) < (s.length : Int)) (by omega), decide_eq_true (p := (0 : Int) ≤ (j : Int)) (by omega), cond_true, Bool.and_self, must, Int.toNat_natCast, hg, optK]
  rw [wrap1 (by omega)]
  unfold Sp.blank
  cases decide ((b.toNat : Int) = 32) <;> cases decide ((b.toNat : Int) = 9) <;> cases decide ((b.toNat : Int) = 10) <;> cases decide ((b.toNat : Int) = 13) <;> rfl

theorem quiet_end {s : List UInt8} {n k j : Nat} (h : s.length ≤ j) : L11 n (k + 1) s j = some (.ret (.d (.bool true)), []) := by
  unfold L11
  rw [l11r, decide_eq_false (p := (j : Int) < (s.length : Int)) (by omega), cond_false]

theorem quiet_loop {s : List UInt8} (hs : s.length ≤ 4611686018427387904) {n : Nat} (hn : s.length < n) : ∀ (N j k : Nat), s.length - j ≤ N → s.length - j < k → j ≤ s.length →
    L11 n k s j = some (.ret (.d (.bool (decide (Sp.pastGo false (s.drop j) j = s.length)))), []) := by
  intro N
  induction N with
  | zero =>
    intro j k hN hk hj
    obtain ⟨k, rfl⟩ : ∃ i, k = i + 1 := ⟨k - 1, by omega⟩
    have hnil : s.drop j = [] := List.drop_eq_nil_of_le (by omega)
    rw [quiet_end (by omega), hnil, Sp.pastGo, decide_eq_true (by omega)]
  | succ N ih =>
    intro j k hN hk hj
    by_cases hlt : s.length - j ≤ N
    · exact ih j k hlt hk hj
    obtain ⟨k, rfl⟩ : ∃ i, k = i + 1 := ⟨k - 1, by omega⟩
    cases hd : s.drop j with
    | nil => have := drop_nil hd; omega
    | cons b r =>
      obtain ⟨h1, h2, h3⟩ := drop_cons hd
      have hlen : (b :: r).length = s.length - j := by rw [← hd]; simp
      have rest : ∀ (_ : (decide ((b.toNat : Int) = 45) && Sp.hasPre (b :: r) [45, 45]) = false), Q11 n k s (j : Int) = some (.ret (.d (.bool (decide (Sp.pastGo false (b :: r) j = s.length)))), []) := by
        intro hnc
        rw [q11 hs h2, Sp.pastGo, hnc]
        cases Sp.blank (b.toNat : Int)
        · rw [cond_false, cond_false, cond_false, decide_eq_false (by omega)]
        · rw [cond_true, cond_true, ← h3]
          exact ih (j + 1) k (by omega) (by omega) h1
      unfold L11
      rw [l11r]
      simp only [decide_eq_true (p := (j : Int) < (s.length : Int)) (by omega), decide_eq_true (p := (0 : Int) ≤ (j : Int)) (by omega), cond_true, Bool.and_self, must, Int.toNat_natCast, h2, optK]
      rw [wrap1 (by omega)]
      by_cases h45 : (b.toNat : Int) = 45
      · have hb45 : b = 45 := UInt8.toNat_inj.1 (by simp; omega)
        rw [decide_eq_true h45, cond_true]
        cases r with
        | nil =>
          rw [decide_eq_false (p := ((j + 1 : Nat) : Int) < (s.length : Int)) (by simp at hlen; omega), cond_false]
          exact rest (by rw [show Sp.hasPre [b] [45, 45] = false by simp [Sp.hasPre], Bool.and_false])
        | cons c r =>
          obtain ⟨h4, h5, h6⟩ := drop_cons h3
          simp only [decide_eq_true (p := ((j + 1 : Nat) : Int) < (s.length : Int)) (by omega), decide_eq_true (p := (0 : Int) ≤ ((j + 1 : Nat) : Int)) (by omega), cond_true, Bool.and_self, Int.toNat_natCast, h5]
          by_cases hc : (c.toNat : Int) = 45
          · have hc45 : c = 45 := UInt8.toNat_inj.1 (by simp; omega)
            have hp : Sp.pastGo false (b :: c :: r) j = Sp.pastGo true (b :: c :: r) j := by
              rw [Sp.pastGo, Sp.pastGo, decide_eq_true h45, show Sp.hasPre (b :: c :: r) [45, 45] = true by simp [Sp.hasPre, hb45, hc45], decide_eq_false (p := (b.toNat : Int) = 10) (by omega), h45]; rfl
            rw [decide_eq_true hc, cond_true, hp]
            rcases skip11 hs n k (b :: c :: r) j n hd hj (by omega) with ⟨j', g1, g2, g3, g4⟩ | ⟨g1, g2⟩
            · refine g3.trans ?_
              rw [g4]
              exact ih (j' + 1) k (by omega) (by omega) g2
            · refine g1.trans ?_
              obtain ⟨k', rfl⟩ : ∃ i, k = i + 1 := ⟨k - 1, by omega⟩
              rw [g2, quiet_end (by omega), decide_eq_true rfl]
          · rw [decide_eq_false hc, cond_false]
            refine rest ?_
            rw [show Sp.hasPre (b :: c :: r) [45, 45] = false by
              simp only [Sp.hasPre, List.length_cons, List.length_nil, List.take]; exact decide_eq_false fun h => by simp at h; exact hc (by rw [h.2]; rfl), Bool.and_false]
      · rw [decide_eq_false h45, cond_false]
        exact rest (by rw [decide_eq_false h45, Bool.false_and])

theorem lim11 (s : List UInt8) (hs : s.length ≤ big) : evLim cx 11 [.d (.str s)] [] = some (.ret (.d (.bool (Sp.quiet s))), []) := by
  refine lim_body (N := s.length + 1) (none1_knows cx) ?_
  rw [b11]
  exact quiet_loop hs (by omega) s.length 0 _ (by omega) (by omega) (by omega)

/-- What lies between is quiet. -/
theorem quiet_part : ∀ (r : List UInt8) (c : Bool) (j m i : Nat), Sp.pastGo c r j = j + m → Sp.pastGo c (r.take m) i = i + m
  | [], c, j, m, i, h => by
    have : m = 0 := by cases c <;> simp only [Sp.pastGo] at h <;> omega
    subst this; cases c <;> rfl
  | b :: r, true, j, m, i, h => by
    have hb := pastGo_bounds r (!decide ((b.toNat : Int) = 10)) (j + 1)
    rw [Sp.pastGo] at h
    obtain ⟨m, rfl⟩ : ∃ x, m = x + 1 := ⟨m - 1, by omega⟩
    rw [List.take_succ_cons, Sp.pastGo, quiet_part r _ (j + 1) m (i + 1) (by omega)]; omega
  | b :: r, false, j, m, i, h => by
    rw [Sp.pastGo] at h
    cases hbl : Sp.blank (b.toNat : Int)
    · rw [hbl, cond_false] at h
      cases hc : (decide ((b.toNat : Int) = 45) && Sp.hasPre (b :: r) [45, 45])
      · rw [hc, cond_false] at h
        have : m = 0 := by omega
        subst this; rfl
      · rw [hc, cond_true] at h
        have hb := pastGo_bounds r true (j + 1)
        obtain ⟨m, rfl⟩ : ∃ x, m = x + 1 := ⟨m - 1, by omega⟩
        have hc' := hc
        rw [Bool.and_eq_true] at hc'
        have hpre := of_decide_eq_true hc'.2
        cases r with
        | nil => simp at hpre
        | cons d r =>
          have hd : (d.toNat : Int) = 45 := by simp at hpre; rw [hpre.2]; rfl
          rw [Sp.pastGo] at h
          have hb := pastGo_bounds r (!decide ((d.toNat : Int) = 10)) (j + 1 + 1)
          obtain ⟨m, rfl⟩ : ∃ x, m = x + 1 := ⟨m - 1, by omega⟩
          have ih := quiet_part (d :: r) true (j + 1) (m + 1) (i + 1) (by rw [Sp.pastGo]; omega)
          rw [List.take_succ_cons, Sp.pastGo, hbl, cond_false, List.take_succ_cons]
          rw [List.take_succ_cons] at ih
          have hp2 : Sp.hasPre (b :: d :: List.take m r) [45, 45] = true := by
            simp at hpre; simp [Sp.hasPre, hpre]
          rw [hp2, hc'.1, Bool.and_true, cond_true, ih]; omega
    · rw [hbl, cond_true] at h
      have hb := pastGo_bounds r false (j + 1)
      obtain ⟨m, rfl⟩ : ∃ x, m = x + 1 := ⟨m - 1, by omega⟩
      rw [List.take_succ_cons, Sp.pastGo, hbl, cond_true, quiet_part r _ (j + 1) m (i + 1) (by omega)]; omega

theorem quiet_gap {s : List UInt8} {e : Nat} (he : e ≤ s.length) : Sp.quiet ((s.drop e).take (Sp.past s e - e)) = true := by
  have hb := past_bounds he
  have h := quiet_part (s.drop e) false e (Sp.past s e - e) 0 (by unfold Sp.past at hb ⊢; omega)
  unfold Sp.quiet
  rw [Sp.past, List.drop_zero, h]
  refine decide_eq_true ?_
  simp; omega

end Go.Vai
end

section
namespace Go.Vai
open Go.Proofs

/-- A text's tokens from some place on, to the end. -/
inductive Cov (s : List UInt8) : Nat → List D → Prop
  | fin {e : Nat} : e ≤ s.length → Sp.past s e = s.length → Cov s e [tokD 0 [] (s.length : Int)]
  | tok {e j : Nat} {k : Int} {t : List UInt8} {rest : List D} : e ≤ s.length → Sp.past s e = j → j < s.length → Sp.one (s.drop j) = (k, t) → t ≠ [] → Cov s (j + t.length) rest → Cov s e (tokD k t (j : Int) :: rest)

theorem Cov.ne {s : List UInt8} {e : Nat} {l : List D} (h : Cov s e l) : 0 < l.length := by cases h <;> simp

theorem toks_cov {s : List UInt8} : ∀ (f e : Nat) (acc : List D), e ≤ s.length → s.length - Sp.past s e < f →
    (∃ rest, Sp.toks f s (Sp.past s e) acc = (acc ++ rest, 0, 0) ∧ Cov s e rest) ∨ (∃ p : Nat, Sp.toks f s (Sp.past s e) acc = ([], (p : Int), 61) ∧ p < s.length)
  | 0, _, _, _, hf => by omega
  | f + 1, e, acc, he, hf => by
    have hb := past_bounds he
    rw [Sp.toks]
    by_cases hlt : Sp.past s e < s.length
    · rw [decide_eq_true hlt, cond_true]
      have hle := one_le (s.drop (Sp.past s e))
      rw [List.length_drop] at hle
      by_cases ho : (Sp.one (s.drop (Sp.past s e))).2 = []
      · rw [decide_eq_true ho, cond_true]; exact .inr ⟨_, rfl, hlt⟩
      · rw [decide_eq_false ho, cond_false]
        have hpos : 0 < (Sp.one (s.drop (Sp.past s e))).2.length := List.length_pos_iff.2 ho
        have hb2 := past_bounds (s := s) (j := Sp.past s e + (Sp.one (s.drop (Sp.past s e))).2.length) (by omega)
        rcases toks_cov (s := s) f (Sp.past s e + (Sp.one (s.drop (Sp.past s e))).2.length) (acc ++ [tokD (Sp.one (s.drop (Sp.past s e))).1 (Sp.one (s.drop (Sp.past s e))).2 (Sp.past s e : Int)]) (by omega) (by omega) with ⟨rest, h1, h2⟩ | h
        · exact .inl ⟨_, by rw [h1, List.append_assoc]; rfl, .tok he rfl hlt rfl ho h2⟩
        · exact .inr h
    · rw [decide_eq_false hlt, cond_false]
      exact .inl ⟨_, rfl, .fin he (by omega)⟩

theorem cov_toks {s : List UInt8} {e : Nat} {l : List D} (h : Cov s e l) : ∀ (f : Nat) (acc : List D), s.length - Sp.past s e < f → Sp.toks f s (Sp.past s e) acc = (acc ++ l, 0, 0) := by
  induction h with
  | fin he hp =>
    intro f acc hf
    obtain ⟨f, rfl⟩ : ∃ i, f = i + 1 := ⟨f - 1, by omega⟩
    rw [Sp.toks, decide_eq_false (by omega), cond_false]
  | @tok e j k t rest he hp hlt ho hne hr ih =>
    intro f acc hf
    obtain ⟨f, rfl⟩ : ∃ i, f = i + 1 := ⟨f - 1, by omega⟩
    have hle := one_le (s.drop j)
    rw [List.length_drop, ho] at hle
    have hpos : 0 < t.length := List.length_pos_iff.2 hne
    have hle' : t.length ≤ s.length - j := hle
    have hb := past_bounds (s := s) (j := j + t.length) (by omega)
    rw [Sp.toks, hp, decide_eq_true hlt, cond_true, ho]
    simp only []
    rw [decide_eq_false hne, cond_false, ih f _ (by omega), List.append_assoc]; rfl

theorem one_kind {s : List UInt8} {k : Int} {t : List UInt8} (h : Sp.one s = (k, t)) (ht : t ≠ []) : k ≠ 0 := by
  unfold Sp.one at h
  cases hn : decide (0 < Sp.nameLen s)
  · rw [hn, cond_false] at h
    rcases signGo_kind s Sp.signs with h2 | h2
    · rw [h] at h2; exact absurd h2 ht
    · rw [h] at h2; intro h0; have h2' : k = 2 := h2; omega
  · rw [hn, cond_true] at h
    cases h; decide

/-- What lex.Scan tells. -/
theorem scan_says (s : List UInt8) : (s.length ≤ 65536 ∧ Sp.utfGo s.length s 0 = none ∧ ∃ l, Sp.scan s = (l, 0, 0) ∧ Cov s 0 l) ∨ (¬ (Sp.scan s).2.2 = 0 ∧ (Sp.scan s).1 = [] ∧ ∃ p : Nat, (Sp.scan s).2.1 = (p : Int) ∧ p ≤ s.length) := by
  unfold Sp.scan
  by_cases h : 65536 < s.length
  · rw [decide_eq_true h, cond_true]; exact .inr ⟨by decide, rfl, 0, rfl, Nat.zero_le _⟩
  · rw [decide_eq_false h, cond_false]
    cases hu : Sp.utfGo s.length s 0 with
    | none =>
      have hb := past_bounds (s := s) (j := 0) (Nat.zero_le _)
      rcases toks_cov (s := s) (s.length + 1) 0 [] (Nat.zero_le _) (by omega) with ⟨rest, h1, h2⟩ | ⟨p, h1, h2⟩
      · exact .inl ⟨by omega, rfl, rest, by simpa using h1, h2⟩
      · exact .inr (by rw [h1]; exact ⟨fun h => absurd (show (61 : Int) = 0 from h) (by decide), rfl, p, rfl, by omega⟩)
    | some p =>
      refine .inr ⟨by simp, rfl, p, rfl, ?_⟩
      have hle : ∀ (f j p : Nat) (r : List UInt8), r.length + j ≤ s.length → Sp.utfGo f r j = some p → p ≤ s.length := by
        intro f
        induction f with
        | zero => intro j p r hr h; cases r with | nil => cases h | cons b r => cases h; omega
        | succ f ih =>
          intro j p r hr h
          cases r with
          | nil => cases h
          | cons b r =>
            rw [Sp.utfGo] at h
            cases hb : Nat.beq (Sp.uni (b :: r)) 0
            · rw [hb, cond_false] at h
              have := uni_le (b :: r)
              exact ih _ p _ (by rw [List.length_drop]; omega) h
            · rw [hb, cond_true] at h; cases h; omega
      exact hle _ _ _ _ (Nat.le_refl _) hu

def quietF : List V → Option Out | [.d (.str s)] => some (.ret (.d (.bool (Sp.quiet s)))) | _ => none
noncomputable def S4 : Caller := also 7 scanF (also 10 trueF (also 11 quietF none1))

theorem S4_knows : knows cx S4 (evLim cx) := by
  refine also_knows (also_knows (also_knows (none1_knows cx) ?_) ?_) ?_
  · intro args o hd h
    unfold quietF at h
    split at h
    · cases h; exact lim11 _ (of_decide_eq_true hd)
    · cases h
  · intro args o _ h
    unfold trueF at h
    split at h
    · cases h; exact lim10
    · cases h
  · intro args o hd h
    unfold scanF at h
    split at h
    · cases h; exact lim7 _
    · cases h

theorem b4 (n : Nat) (s : List UInt8) :
    evBody cx S4 n 4 [.d (.str s)] [] =
  must (decide (s.length ≤ big))
    (bif !decide ((Sp.scan s).snd.snd = (0 : Int)) then
      bif decide ((↑(Sp.scan s).1.length : Int) = (0 : Int)) then
        bif decide ((0 : Int) ≤ (Sp.scan s).snd.fst) then
          some (Out.ret (V.d (D.bool (decide ((Sp.scan s).snd.fst ≤ (↑s.length : Int))))), [])
        else some (Out.ret (V.d (D.bool false)), [])
      else some (Out.ret (V.d (D.bool false)), [])
    else
      LP cx S4 n 4 0 8 n
        [(0, V.d (D.str s)), (3, V.d (D.sl 3 (Sp.scan s).1)), (6, V.d (D.int IntKind.i64 (0 : Int))),
          (32, V.d (D.sl 3 (Sp.scan s).1)), (33, V.d (D.int IntKind.i64 (↑(Sp.scan s).1.length : Int))),
          (34, V.d (D.int IntKind.i64 (0 : Int)))]
        [] (AK cx S4 n 4 0 8 (EK cx 4 0))) := by kernel_rfl

theorem l4 (n k : Nat) (s : List UInt8) (l : List D) (e i : Int) :
    LP cx S4 n 4 0 8 (k+1) [(0, .d (.str s)), (3, .d (.sl 3 l)), (6, .d (.int .i64 e)), (32, .d (.sl 3 l)), (33, .d (.int .i64 (l.length : Int))), (34, .d (.int .i64 i))] [] (AK cx S4 n 4 0 8 (EK cx 4 0)) =
  bif decide (i < (↑l.length : Int)) then
    must (decide (0 ≤ i) && decide (i < (↑l.length : Int)))
      (nthD l i.toNat fun y =>
        OPS cx S4 n 4 0 9 2
          [(37, V.eptr y 0), (36, V.d (D.int IntKind.i64 i)), (35, V.d (D.bool (decide (i < (↑l.length : Int))))),
            (0, V.d (D.str s)), (3, V.d (D.sl 3 l)), (6, V.d (D.int IntKind.i64 e)), (32, V.d (D.sl 3 l)),
            (33, V.d (D.int IntKind.i64 (↑l.length : Int))), (34, V.d (D.int IntKind.i64 i))]
          [] (RL cx S4 n 4 0 8 9 (inK cx S4 n 4 0 8 k (AK cx S4 n 4 0 8 (EK cx 4 0)))))
  else
    bif decide ((0 : Int) < (↑l.length : Int)) then some (Out.ret (V.d (D.bool (decide (e = (↑s.length : Int))))), [])
    else some (Out.ret (V.d (D.bool false)), []) := by kernel_rfl

theorem o4 (n k : Nat) (s t : List UInt8) (l : List D) (e i a kd : Int) :
    OPS cx S4 n 4 0 9 2 [(37, V.eptr (tokD kd t a) 0), (36, V.d (D.int IntKind.i64 i)), (35, V.d (D.bool (decide (i < (↑l.length : Int))))), (0, V.d (D.str s)), (3, V.d (D.sl 3 l)), (6, V.d (D.int IntKind.i64 e)), (32, V.d (D.sl 3 l)), (33, V.d (D.int IntKind.i64 (↑l.length : Int))), (34, V.d (D.int IntKind.i64 i))] [] (RL cx S4 n 4 0 8 9 (inK cx S4 n 4 0 8 k (AK cx S4 n 4 0 8 (EK cx 4 0)))) =
  bif decide (a < e) then some (Out.ret (V.d (D.bool false)), [])
  else
    bif decide (IntKind.i64.wrap ((↑s.length : Int) - (↑t.length : Int)) < a) then
      some (Out.ret (V.d (D.bool false)), [])
    else
      must
        (decide (0 ≤ IntKind.i64.wrap (a + (↑t.length : Int))) &&
          decide (IntKind.i64.wrap (a + (↑t.length : Int)) ≤ (↑s.length : Int)))
        (must (decide (0 ≤ a) && decide (a ≤ (↑(IntKind.i64.wrap (a + (↑t.length : Int))).toNat : Int)))
          (bif !decide (List.drop a.toNat (List.take (IntKind.i64.wrap (a + (↑t.length : Int))).toNat s) = t) then
            some (Out.ret (V.d (D.bool false)), [])
          else
            must (decide (0 ≤ a) && decide (a ≤ (↑s.length : Int)))
              (must (decide (0 ≤ e) && decide (e ≤ (↑a.toNat : Int)))
                (must (decide ((List.drop e.toNat (List.take a.toNat s)).length ≤ big))
                  (bif !Sp.quiet (List.drop e.toNat (List.take a.toNat s)) then some (Out.ret (V.d (D.bool false)), [])
                  else
                    bif
                        !decide
                            (decide (kd = (0 : Int)) =
                              decide (i = IntKind.i64.wrap ((↑l.length : Int) - (1 : Int)))) then
                      some (Out.ret (V.d (D.bool false)), [])
                    else
                      bif !decide (decide (kd = (0 : Int)) = decide (t = [])) then
                        some (Out.ret (V.d (D.bool false)), [])
                      else
                        LP cx S4 n 4 0 8 k
                          [(0, V.d (D.str s)), (3, V.d (D.sl 3 l)),
                            (6, V.d (D.int IntKind.i64 (IntKind.i64.wrap (a + (↑t.length : Int))))),
                            (32, V.d (D.sl 3 l)), (33, V.d (D.int IntKind.i64 (↑l.length : Int))),
                            (34, V.d (D.int IntKind.i64 (IntKind.i64.wrap (i + (1 : Int)))))]
                          [] (AK cx S4 n 4 0 8 (EK cx 4 0))))))) := by kernel_rfl


theorem at_mid {l pre rest : List D} {x : D} (hl : l = pre ++ x :: rest) : l[pre.length]? = some x := by subst hl; simp

theorem cov_loop {s : List UInt8} (hs : s.length ≤ 65536) (n : Nat) {l : List D} (hl : l.length ≤ 70000) {e : Nat} {rest : List D} (hc : Cov s e rest) : ∀ (k : Nat) (pre : List D), l = pre ++ rest → rest.length < k →
    LP cx S4 n 4 0 8 k [(0, .d (.str s)), (3, .d (.sl 3 l)), (6, .d (.int .i64 (e : Int))), (32, .d (.sl 3 l)), (33, .d (.int .i64 (l.length : Int))), (34, .d (.int .i64 (pre.length : Int)))] [] (AK cx S4 n 4 0 8 (EK cx 4 0)) = some (.ret (.d (.bool true)), []) := by
  induction hc with
  | @fin e he hp =>
    intro k pre hpre hk
    obtain ⟨k, rfl⟩ : ∃ i, k = i + 1 := ⟨k - 1, by omega⟩
    have hk' : 1 < k + 1 := hk
    obtain ⟨k, rfl⟩ : ∃ i, k = i + 1 := ⟨k - 1, by omega⟩
    have hg := at_mid hpre
    have hlen : l.length = pre.length + 1 := by rw [hpre]; simp
    have hq := quiet_gap he
    rw [hp, ← List.drop_take] at hq
    rw [l4]
    simp only [decide_eq_true (p := (pre.length : Int) < (l.length : Int)) (by omega), decide_eq_true (p := (0 : Int) ≤ (pre.length : Int)) (by omega), cond_true, Bool.and_self, must, Int.toNat_natCast, nthD_at hg]
    have h := o4 n (k + 1) s [] l (e : Int) (pre.length : Int) (s.length : Int) 0
    simp only [decide_eq_true (p := (pre.length : Int) < (l.length : Int)) (by omega)] at h
    rw [h]
    simp only [List.length_nil, Int.natCast_zero, Int.add_zero, Int.sub_zero, wrapN (x := (s.length : Int)) (by omega) (by omega), wrapN (x := (l.length : Int) - 1) (by omega) (by omega), wrap1 (j := pre.length) (by omega),
      decide_eq_false (p := (s.length : Int) < (e : Int)) (by omega), decide_eq_false (p := (s.length : Int) < (s.length : Int)) (by omega), decide_eq_true (p := (0 : Int) ≤ (s.length : Int)) (by omega), decide_eq_true (p := (s.length : Int) ≤ (s.length : Int)) (by omega),
      Int.toNat_natCast, must, cond_true, cond_false, Bool.and_self, List.take_length, decide_eq_true (p := (0 : Int) ≤ (e : Int)) (by omega), decide_eq_true (p := (e : Int) ≤ (s.length : Int)) (by omega), List.drop_length, decide_true, Bool.not_true]
    rw [List.take_length] at hq
    rw [decide_eq_true (p := (s.drop e).length ≤ big) (by simp [big]; omega), hq, decide_eq_true (p := (pre.length : Int) = (l.length : Int) - 1) (by omega), l4]
    simp only [decide_eq_false (p := ((pre.length + 1 : Nat) : Int) < (l.length : Int)) (by omega), decide_eq_true (p := (0 : Int) < (l.length : Int)) (by omega), cond_true, cond_false, decide_true, Bool.not_true]
  | @tok e j kd t rest he hp hlt ho hne hr ih =>
    intro k pre hpre hk
    obtain ⟨k, rfl⟩ : ∃ i, k = i + 1 := ⟨k - 1, by omega⟩
    have hg := at_mid hpre
    have hb := past_bounds he
    have hpos := hr.ne
    have hlen : l.length = pre.length + 1 + rest.length := by rw [hpre]; simp; omega
    have hle := one_le (s.drop j)
    rw [List.length_drop, ho] at hle
    have hle' : t.length ≤ s.length - j := hle
    have hpt := one_pre (s.drop j)
    rw [ho] at hpt
    have hpt' : t = (s.drop j).take t.length := hpt
    have hkd := one_kind ho hne
    have hq := quiet_gap he
    rw [hp, ← List.drop_take] at hq
    rw [l4]
    simp only [decide_eq_true (p := (pre.length : Int) < (l.length : Int)) (by omega), decide_eq_true (p := (0 : Int) ≤ (pre.length : Int)) (by omega), cond_true, Bool.and_self, must, Int.toNat_natCast, nthD_at hg]
    have h := o4 n k s t l (e : Int) (pre.length : Int) (j : Int) kd
    simp only [decide_eq_true (p := (pre.length : Int) < (l.length : Int)) (by omega)] at h
    rw [h]
    have hdt : List.drop j (List.take (j + t.length) s) = t := by rw [List.drop_take, show j + t.length - j = t.length by omega, ← hpt']
    simp only [wrapN (x := (s.length : Int) - (t.length : Int)) (by omega) (by omega), wrapN (x := (l.length : Int) - 1) (by omega) (by omega), wrap1 (j := pre.length) (by omega), wrapN (x := ((j + t.length : Nat) : Int)) (by omega) (by omega),
      show (j : Int) + (t.length : Int) = ((j + t.length : Nat) : Int) by omega,
      decide_eq_false (p := (j : Int) < (e : Int)) (by omega), decide_eq_false (p := (s.length : Int) - (t.length : Int) < (j : Int)) (by omega), decide_eq_true (p := (0 : Int) ≤ ((j + t.length : Nat) : Int)) (by omega), decide_eq_true (p := ((j + t.length : Nat) : Int) ≤ (s.length : Int)) (by omega),
      decide_eq_true (p := (0 : Int) ≤ (j : Int)) (by omega), decide_eq_true (p := (j : Int) ≤ ((j + t.length : Nat) : Int)) (by omega), decide_eq_true (p := (j : Int) ≤ (s.length : Int)) (by omega), decide_eq_true (p := (e : Int) ≤ (j : Int)) (by omega),
      Int.toNat_natCast, must, cond_true, cond_false, Bool.and_self, decide_eq_true (p := (0 : Int) ≤ (e : Int)) (by omega), hdt, decide_true, Bool.not_true, hq,
      decide_eq_true (p := (List.drop e (List.take j s)).length ≤ big) (by simp [big]; omega), decide_eq_false hkd, decide_eq_false (p := (pre.length : Int) = (l.length : Int) - 1) (by omega), decide_eq_false hne]
    have := ih k (pre ++ [tokD kd t (j : Int)]) (by rw [hpre, List.append_assoc]; rfl) (by simp at hk; omega)
    rw [List.length_append] at this
    exact this

theorem pure_lexCovers (s : List UInt8) (h : s.length ≤ 1048576) : ∃ n, evFun cx n 4 [.d (.str s)] [] = some (.ret (.d (.bool true)), []) := by
  refine lim_ex (lim_body (N := (Sp.scan s).1.length + 1) S4_knows ?_)
  rw [b4, decide_eq_true (p := s.length ≤ big) (by simp [big]; omega)]
  rcases scan_says s with ⟨h1, _, l, h2, h3⟩ | ⟨h1, h2, p, h3, h4⟩
  · have hl := scan_len s
    rw [h2] at hl
    have hl' : l.length ≤ s.length + 1 := hl
    rw [h2]
    simp only [must, cond_true, decide_true, Bool.not_true, cond_false]
    exact cov_loop h1 _ (by omega) h3 (l.length + 1) [] rfl (by omega)
  · rw [decide_eq_false h1, h2, h3]
    simp only [must, cond_true, Bool.not_false, List.length_nil, decide_true, decide_eq_true (p := (0 : Int) ≤ (p : Int)) (by omega), decide_eq_true (p := (p : Int) ≤ (s.length : Int)) (by omega), Int.natCast_zero]

end Go.Vai
end

section
namespace Go.Vai
open Go.Proofs

/-- A token's kind and text. -/
def Tk (k : Int) (t : List UInt8) : Prop := (k = 1 ∧ ∃ b r, t = b :: r ∧ Sp.letter (b.toNat : Int) = true ∧ ∀ c ∈ r, (Sp.letter (c.toNat : Int) || Sp.digit (c.toNat : Int)) = true) ∨ (k = 2 ∧ t ∈ Sp.signs)

/-- No token goes on so. -/
def stops (r : List UInt8) : Prop := r = [] ∨ ∃ c r', r = c :: r' ∧ (c = 32 ∨ c = 10 ∨ c = 45)

theorem nameGo_all : ∀ (t r : List UInt8) (j : Nat), 0 < j → (∀ c ∈ t, (Sp.letter (c.toNat : Int) || Sp.digit (c.toNat : Int)) = true) → stops r → Sp.nameGo (t ++ r) j = j + t.length
  | [], r, j, hj, _, hr => by
    rcases hr with rfl | ⟨c, r', rfl, h⟩
    · rfl
    · rcases h with rfl | rfl | rfl <;> simp [Sp.nameGo, Sp.letter, Sp.digit]
  | b :: t, r, j, hj, ht, hr => by
    have hb := ht b List.mem_cons_self
    have ih := nameGo_all t r (j + 1) (by omega) (fun c hc => ht c (List.mem_cons_of_mem _ hc)) hr
    rw [List.cons_append, Sp.nameGo, decide_eq_true hj, Bool.true_and, hb, cond_true, ih, List.length_cons]; omega

theorem nameGo_take : ∀ (x : List UInt8) (j : Nat), 0 < j → ∀ c ∈ x.take (Sp.nameGo x j - j), (Sp.letter (c.toNat : Int) || Sp.digit (c.toNat : Int)) = true
  | [], j, _ => by intro c hc; simp at hc
  | b :: x, j, hj => by
    rw [Sp.nameGo, decide_eq_true hj, Bool.true_and]
    cases h : (Sp.letter (b.toNat : Int) || Sp.digit (b.toNat : Int))
    · rw [cond_false, Nat.sub_self]; intro c hc; cases hc
    · have hge := nameGo_ge x (j + 1)
      rw [cond_true, show Sp.nameGo x (j + 1) - j = (Sp.nameGo x (j + 1) - (j + 1)) + 1 by omega, List.take_succ_cons]
      intro c hc
      cases hc with
      | head => exact h
      | tail _ hc => exact nameGo_take x (j + 1) (by omega) c hc

theorem signGo_mem (x : List UInt8) : ∀ l : List (List UInt8), (Sp.signGo x l).2 = [] ∨ (Sp.signGo x l).2 ∈ l
  | [] => .inl rfl
  | y :: l => by
    simp only [Sp.signGo]
    cases Sp.hasPre x y
    · rw [cond_false]
      rcases signGo_mem x l with h | h
      · exact .inl h
      · exact .inr (List.mem_cons_of_mem _ h)
    · exact .inr List.mem_cons_self

theorem tk_of_one {x : List UInt8} {k : Int} {t : List UInt8} (h : Sp.one x = (k, t)) (ht : t ≠ []) : Tk k t := by
  unfold Sp.one at h
  cases hn : decide (0 < Sp.nameLen x)
  · rw [hn, cond_false] at h
    have h1 := signGo_kind x Sp.signs
    have h2 := signGo_mem x Sp.signs
    rw [h] at h1 h2
    exact .inr ⟨h1.resolve_left ht, h2.resolve_left ht⟩
  · rw [hn, cond_true] at h
    have hn' := of_decide_eq_true hn
    cases h
    refine .inl ⟨rfl, ?_⟩
    cases x with
    | nil => exact absurd rfl ht
    | cons b r =>
      have hge := nameGo_ge r 1
      unfold Sp.nameLen at hn' ⊢
      rw [Sp.nameGo] at hn' ⊢
      cases hb : Sp.letter (b.toNat : Int)
      · rw [hb, decide_eq_false (p := 0 < 0) (by omega), Bool.false_and, Bool.false_or, cond_false] at hn'; omega
      · rw [Bool.true_or, cond_true, Nat.zero_add, show Sp.nameGo r 1 = (Sp.nameGo r 1 - 1) + 1 by omega, List.take_succ_cons]
        exact ⟨b, _, rfl, hb, nameGo_take r 1 (by omega)⟩

theorem sign_tab : ∀ t ∈ Sp.signs, ∀ c : UInt8, c = 32 ∨ c = 10 ∨ c = 45 → ∀ r, Sp.nameLen (t ++ c :: r) = 0 ∧ Sp.signGo (t ++ c :: r) Sp.signs = (2, t) ∧ ∀ j, Sp.pastGo false (t ++ c :: r) j = j := by
  intro t ht c hc r
  simp only [Sp.signs, List.mem_cons, List.not_mem_nil, or_false] at ht
  rcases ht with rfl | rfl | rfl | rfl | rfl | rfl | rfl | rfl | rfl | rfl | rfl | rfl | rfl | rfl | rfl | rfl | rfl | rfl | rfl | rfl <;>
    rcases hc with rfl | rfl | rfl <;> exact ⟨rfl, rfl, fun _ => rfl⟩

theorem sign_tabn : ∀ t ∈ Sp.signs, Sp.nameLen (t ++ []) = 0 ∧ Sp.signGo (t ++ []) Sp.signs = (2, t) ∧ ∀ j, Sp.pastGo false (t ++ []) j = j := by
  intro t ht
  simp only [Sp.signs, List.mem_cons, List.not_mem_nil, or_false] at ht
  rcases ht with rfl | rfl | rfl | rfl | rfl | rfl | rfl | rfl | rfl | rfl | rfl | rfl | rfl | rfl | rfl | rfl | rfl | rfl | rfl | rfl <;> exact ⟨rfl, rfl, fun _ => rfl⟩

theorem letter_not {b : UInt8} (h : Sp.letter (b.toNat : Int) = true) : Sp.blank (b.toNat : Int) = false ∧ ¬ (b.toNat : Int) = 45 ∧ b.toNat < 128 := by
  simp only [Sp.letter, Bool.or_eq_true, Bool.and_eq_true, decide_eq_true_eq] at h
  refine ⟨?_, by omega, by omega⟩
  unfold Sp.blank
  rw [decide_eq_false (by omega), decide_eq_false (by omega), decide_eq_false (by omega), decide_eq_false (by omega)]; rfl

theorem digit_not {b : UInt8} (h : Sp.digit (b.toNat : Int) = true) : b.toNat < 128 := by
  simp only [Sp.digit, Bool.and_eq_true, decide_eq_true_eq] at h
  omega

theorem tk_ne {k : Int} {t : List UInt8} (h : Tk k t) : t ≠ [] := by
  rcases h with ⟨_, b, r, rfl, _⟩ | ⟨_, ht⟩
  · simp
  · intro h; subst h; simp [Sp.signs] at ht

/-- A token stands where it stands. -/
theorem tk_one {k : Int} {t : List UInt8} (h : Tk k t) {r : List UInt8} (hr : stops r) : Sp.one (t ++ r) = (k, t) ∧ ∀ j, Sp.pastGo false (t ++ r) j = j := by
  rcases h with ⟨rfl, b, u, rfl, hb, hu⟩ | ⟨rfl, ht⟩
  · obtain ⟨h1, h2, _⟩ := letter_not hb
    refine ⟨?_, fun j => ?_⟩
    · have hn : Sp.nameLen (b :: u ++ r) = (b :: u).length := by
        unfold Sp.nameLen
        rw [List.cons_append, Sp.nameGo, hb, Bool.true_or, cond_true, nameGo_all u r 1 (by omega) hu hr, List.length_cons]; omega
      unfold Sp.one
      rw [hn, decide_eq_true (by simp), cond_true, List.take_left]
    · rw [List.cons_append, Sp.pastGo, h1, cond_false, decide_eq_false h2, Bool.false_and, cond_false]
  · have hh : Sp.nameLen (t ++ r) = 0 ∧ Sp.signGo (t ++ r) Sp.signs = (2, t) ∧ ∀ j, Sp.pastGo false (t ++ r) j = j := by
      rcases hr with rfl | ⟨c, r', rfl, hc⟩
      · exact sign_tabn t ht
      · exact sign_tab t ht c hc r'
    refine ⟨?_, hh.2.2⟩
    unfold Sp.one
    rw [hh.1, hh.2.1]; rfl

theorem tk_low {k : Int} {t : List UInt8} (h : Tk k t) : ∀ c ∈ t, c.toNat < 128 := by
  rcases h with ⟨rfl, b, u, rfl, hb, hu⟩ | ⟨rfl, ht⟩
  · intro c hc
    cases hc with
    | head => exact (letter_not hb).2.2
    | tail _ hc =>
      have := hu c hc
      rw [Bool.or_eq_true] at this
      rcases this with h | h
      · exact (letter_not h).2.2
      · exact digit_not h
  · have : ∀ t ∈ Sp.signs, ∀ c ∈ t, c.toNat < 128 := by decide
    exact this t ht

/-- Low bytes are a text. -/
theorem utf_low : ∀ (f : Nat) (r : List UInt8) (j : Nat), r.length ≤ f → (∀ c ∈ r, c.toNat < 128) → Sp.utfGo f r j = none
  | f, [], j, _, _ => by cases f <;> rfl
  | 0, b :: r, j, h, _ => by simp at h
  | f + 1, b :: r, j, h, hl => by
    have hu : Sp.uni (b :: r) = 1 := by simp only [Sp.uni, decide_eq_true (hl b List.mem_cons_self), cond_true]
    rw [Sp.utfGo, hu]
    exact utf_low f r (j + 1) (by simpa using h) fun c hc => hl c (List.mem_cons_of_mem _ hc)

/-- Tokens, the last one the end. -/
inductive LTok : List D → Prop
  | fin {a : Int} : LTok [tokD 0 [] a]
  | tok {k : Int} {t : List UInt8} {a : Int} {l : List D} : Tk k t → t.length ≤ 65536 → LTok l → LTok (tokD k t a :: l)

theorem cov_ltok {s : List UInt8} (hs : s.length ≤ 65536) {e : Nat} {l : List D} (h : Cov s e l) : LTok l := by
  induction h with
  | fin _ _ => exact .fin
  | @tok e j k t rest he hp hlt ho hne hr ih =>
    have hle := one_le (s.drop j)
    rw [List.length_drop, ho] at hle
    have hle' : t.length ≤ s.length - j := hle
    exact .tok (tk_of_one ho hne) (by omega) ih

def txt : D → List UInt8 | .agg [_, .str t, _] => t | _ => []
def kt : D → Int × List UInt8 | .agg [.int _ k, .str t, _] => (k, t) | _ => (0, [])

def joinT (g : List UInt8) : List D → List UInt8
  | [] => []
  | d :: l => txt d ++ (g ++ joinT g l)

theorem joinT_app (g : List UInt8) : ∀ (a b : List D), joinT g (a ++ b) = joinT g a ++ joinT g b
  | [], b => rfl
  | x :: a, b => by rw [List.cons_append, joinT, joinT, joinT_app g a b]; simp

theorem joinT_len {g : List UInt8} (hg : g.length ≤ 3) {l : List D} (h : LTok l) : (joinT g l).length ≤ l.length * 65539 := by
  induction h with
  | fin => simp [joinT, txt, tokD]; omega
  | @tok k t a l hk ht hl ih => simp only [joinT, txt, tokD, List.length_append, List.length_cons]; omega

structure Gap (g : List UInt8) : Prop where
  len : g.length ≤ 3
  stop : ∀ r, stops (g ++ r)
  past : ∀ x e, Sp.pastGo false (g ++ x) e = Sp.pastGo false x (e + g.length)
  low : ∀ c ∈ g, c.toNat < 128

theorem gap1 : Gap [32] := ⟨by decide, fun r => .inr ⟨32, r, rfl, .inl rfl⟩, fun _ _ => rfl, by decide⟩
theorem gap2 : Gap [10] := ⟨by decide, fun r => .inr ⟨10, r, rfl, .inr (.inl rfl)⟩, fun _ _ => rfl, by decide⟩
theorem gap3 : Gap [45, 45, 10] := ⟨by decide, fun r => .inr ⟨45, 45 :: 10 :: r, rfl, .inr (.inr rfl)⟩, fun _ _ => rfl, by decide⟩

theorem join_low {g : List UInt8} (hg : Gap g) {l : List D} (h : LTok l) : ∀ c ∈ joinT g l, c.toNat < 128 := by
  induction h with
  | fin =>
    intro c hc
    simp [joinT, txt, tokD] at hc
    exact hg.low c hc
  | @tok k t a l hk ht hl ih =>
    intro c hc
    simp only [joinT, txt, tokD, List.mem_append] at hc
    rcases hc with hc | hc | hc
    · exact tk_low hk c hc
    · exact hg.low c hc
    · exact ih c hc

theorem join_cov {g : List UInt8} (hg : Gap g) {x : List UInt8} {l : List D} (h : LTok l) : ∀ (e p : Nat), e ≤ x.length → p ≤ x.length → x.drop p = joinT g l → Sp.past x e = Sp.pastGo false (joinT g l) p → ∃ m, Cov x e m ∧ m.map kt = l.map kt := by
  induction h with
  | @fin a =>
    intro e p he hp hd hpast
    have h1 : joinT g [tokD 0 [] a] = g ++ [] := rfl
    rw [h1, hg.past] at hpast
    rw [h1] at hd
    have hlen : g.length = x.length - p := by
      have := congrArg List.length hd
      simpa using this.symm
    refine ⟨_, .fin he ?_, rfl⟩
    rw [hpast, Sp.pastGo]; omega
  | @tok k t a l hk ht hl ih =>
    intro e p he hp hd hpast
    have h1 : joinT g (tokD k t a :: l) = t ++ (g ++ joinT g l) := rfl
    rw [h1] at hd hpast
    obtain ⟨o1, o2⟩ := tk_one hk (hg.stop (joinT g l))
    rw [o2] at hpast
    have hne := tk_ne hk
    have hpos : 0 < t.length := List.length_pos_iff.2 hne
    have hlen : t.length + (g.length + (joinT g l).length) = x.length - p := by
      have := congrArg List.length hd
      simpa using this.symm
    have hd1 : x.drop (p + t.length) = g ++ joinT g l := by rw [← List.drop_drop, hd, List.drop_left]
    have hd2 : x.drop (p + t.length + g.length) = joinT g l := by rw [← List.drop_drop, hd1, List.drop_left]
    obtain ⟨m, hm1, hm2⟩ := ih (p + t.length) (p + t.length + g.length) (by omega) (by omega) hd2 (by unfold Sp.past; rw [hd1, hg.past])
    exact ⟨_, .tok he hpast (by omega) (by rw [hd, o1]) hne hm1, by rw [List.map_cons, List.map_cons, hm2]; rfl⟩

theorem join_scan {g : List UInt8} (hg : Gap g) {l : List D} (h : LTok l) (hlen : (joinT g l).length ≤ 65536) : ∃ m, Sp.scan (joinT g l) = (m, 0, 0) ∧ m.map kt = l.map kt ∧ (∀ d ∈ m, IsTok d) := by
  obtain ⟨m, h1, h2⟩ := join_cov hg (x := joinT g l) h 0 0 (Nat.zero_le _) (Nat.zero_le _) rfl rfl
  have hb := past_bounds (s := joinT g l) (j := 0) (Nat.zero_le _)
  have hs : Sp.scan (joinT g l) = (m, 0, 0) := by
    unfold Sp.scan
    rw [decide_eq_false (by omega), cond_false, utf_low _ _ _ (Nat.le_refl _) (join_low hg h)]
    have := cov_toks h1 ((joinT g l).length + 1) [] (by omega)
    simpa using this
  refine ⟨m, hs, h2, ?_⟩
  have := scan_tok (joinT g l)
  rw [hs] at this
  exact this

end Go.Vai
end

section
namespace Go.Vai
open Go.Proofs

theorem b5 (n : Nat) (s : List UInt8) :
    evBody cx S4 n 5 [.d (.str s)] [] =
  bif decide ((20000 : Int) < (↑s.length : Int)) then some (Out.ret (V.d (D.bool true)), [])
  else
    must (decide (s.length ≤ big))
      (bif !decide ((Sp.scan s).snd.snd = (0 : Int)) then some (Out.ret (V.d (D.bool true)), [])
      else
        LP cx S4 n 5 0 9 n
          [(3, V.d (D.sl 3 (Sp.scan s).1)), (28, V.sl 1 [D.str [32], D.str [10], D.str [45, 45, 10]] 28),
            (29, V.d (D.int IntKind.i64 (3 : Int))), (30, V.d (D.int IntKind.i64 (0 : Int)))]
          [(28, Ob.tok 3)] (AK cx S4 n 5 0 9 (EK cx 5 0))) := by kernel_rfl

theorem l5o (n k : Nat) (l : List D) (gi : Int) :
    LP cx S4 n 5 0 9 (k+1) [(3, .d (.sl 3 l)), (28, .sl 1 [.str [32], .str [10], .str [45, 45, 10]] 28), (29, .d (.int .i64 3)), (30, .d (.int .i64 gi))] [(28, .tok 3)] (AK cx S4 n 5 0 9 (EK cx 5 0)) =
  bif decide (gi < (3 : Int)) then
    must (decide (0 ≤ gi) && decide (gi < (↑[D.str [32], D.str [10], D.str [45, 45, 10]].length : Int)))
      (nthD [D.str [32], D.str [10], D.str [45, 45, 10]] gi.toNat fun y =>
        OPS cx S4 n 5 0 10 1
          [(32, V.eptr y 0), (31, V.d (D.bool (decide (gi < (3 : Int))))), (3, V.d (D.sl 3 l)),
            (28, V.sl 1 [D.str [32], D.str [10], D.str [45, 45, 10]] 28), (29, V.d (D.int IntKind.i64 (3 : Int))),
            (30, V.d (D.int IntKind.i64 gi))]
          [(28, Ob.tok 3)] (RL cx S4 n 5 0 9 10 (inK cx S4 n 5 0 9 k (AK cx S4 n 5 0 9 (EK cx 5 0)))))
  else some (Out.ret (V.d (D.bool true)), []) := by kernel_rfl

theorem l5t (n k k' : Nat) (l : List D) (g acc : List UInt8) (gi j : Int) :
    LP cx S4 n 5 0 13 (k+1) [(3, V.d (D.sl 3 l)), (7, V.d (D.str g)), (8, V.d (D.str acc)), (28, V.sl 1 [D.str [32], D.str [10], D.str [45, 45, 10]] 28), (29, V.d (D.int IntKind.i64 (3 : Int))), (30, V.d (D.int IntKind.i64 gi)), (34, V.d (D.sl 3 l)), (35, V.d (D.int IntKind.i64 (l.length : Int))), (36, V.d (D.int IntKind.i64 j))] [(28, Ob.tok 3)] (AL cx S4 n 5 0 9 13 (inK cx S4 n 5 0 9 k' (AK cx S4 n 5 0 9 (EK cx 5 0)))) =
  bif decide (j < (↑l.length : Int)) then
    must (decide (0 ≤ j) && decide (j < (↑l.length : Int)))
      (nthD l j.toNat fun y =>
        OPS cx S4 n 5 0 14 1
          [(38, V.eptr y 0), (37, V.d (D.bool (decide (j < (↑l.length : Int))))), (3, V.d (D.sl 3 l)),
            (7, V.d (D.str g)), (8, V.d (D.str acc)), (28, V.sl 1 [D.str [32], D.str [10], D.str [45, 45, 10]] 28),
            (29, V.d (D.int IntKind.i64 (3 : Int))), (30, V.d (D.int IntKind.i64 gi)), (34, V.d (D.sl 3 l)),
            (35, V.d (D.int IntKind.i64 (↑l.length : Int))), (36, V.d (D.int IntKind.i64 j))]
          [(28, Ob.tok 3)]
          (RL cx S4 n 5 0 13 14
            (inK cx S4 n 5 0 13 k (AL cx S4 n 5 0 9 13 (inK cx S4 n 5 0 9 k' (AK cx S4 n 5 0 9 (EK cx 5 0)))))))
  else
    bif decide ((65536 : Int) < (↑acc.length : Int)) then
      LP cx S4 n 5 0 9 k'
        [(3, V.d (D.sl 3 l)), (28, V.sl 1 [D.str [32], D.str [10], D.str [45, 45, 10]] 28),
          (29, V.d (D.int IntKind.i64 (3 : Int))),
          (30, V.d (D.int IntKind.i64 (IntKind.i64.wrap (gi + (1 : Int)))))]
        [(28, Ob.tok 3)] (AK cx S4 n 5 0 9 (EK cx 5 0))
    else
      must (decide (acc.length ≤ big))
        (bif !decide ((Sp.scan acc).snd.snd = (0 : Int)) then some (Out.ret (V.d (D.bool false)), [])
        else
          bif !decide ((Sp.scan acc).snd.fst = (0 : Int)) then some (Out.ret (V.d (D.bool false)), [])
          else
            bif !decide ((↑(Sp.scan acc).1.length : Int) = (↑l.length : Int)) then
              some (Out.ret (V.d (D.bool false)), [])
            else
              LP cx S4 n 5 0 22 n
                [(3, V.d (D.sl 3 l)), (11, V.d (D.sl 3 (Sp.scan acc).1)),
                  (28, V.sl 1 [D.str [32], D.str [10], D.str [45, 45, 10]] 28),
                  (29, V.d (D.int IntKind.i64 (3 : Int))), (30, V.d (D.int IntKind.i64 gi)),
                  (70, V.d (D.int IntKind.i64 (↑(Sp.scan acc).1.length : Int))),
                  (71, V.d (D.int IntKind.i64 (0 : Int)))]
                [(28, Ob.tok 3)] (AL cx S4 n 5 0 9 22 (inK cx S4 n 5 0 9 k' (AK cx S4 n 5 0 9 (EK cx 5 0))))) := by kernel_rfl

theorem o5o (n k : Nat) (l : List D) (gi : Int) (g : List UInt8) :
    OPS cx S4 n 5 0 10 1 [(32, V.eptr (.str g) 0), (31, V.d (D.bool (decide (gi < (3 : Int))))), (3, V.d (D.sl 3 l)), (28, V.sl 1 [D.str [32], D.str [10], D.str [45, 45, 10]] 28), (29, V.d (D.int IntKind.i64 (3 : Int))), (30, V.d (D.int IntKind.i64 gi))] [(28, Ob.tok 3)] (RL cx S4 n 5 0 9 10 (inK cx S4 n 5 0 9 k (AK cx S4 n 5 0 9 (EK cx 5 0)))) =
  LP cx S4 n 5 0 13 n
    [(3, V.d (D.sl 3 l)), (7, V.d (D.str g)), (8, V.d (D.str [])),
      (28, V.sl 1 [D.str [32], D.str [10], D.str [45, 45, 10]] 28), (29, V.d (D.int IntKind.i64 (3 : Int))),
      (30, V.d (D.int IntKind.i64 gi)), (34, V.d (D.sl 3 l)), (35, V.d (D.int IntKind.i64 (↑l.length : Int))),
      (36, V.d (D.int IntKind.i64 (0 : Int)))]
    [(28, Ob.tok 3)] (AL cx S4 n 5 0 9 13 (inK cx S4 n 5 0 9 k (AK cx S4 n 5 0 9 (EK cx 5 0)))) := by kernel_rfl

theorem o5t (n k k' : Nat) (l : List D) (g acc t : List UInt8) (gi j kd a : Int) :
    OPS cx S4 n 5 0 14 1 [(38, V.eptr (tokD kd t a) 0), (37, V.d (D.bool (decide (j < (↑l.length : Int))))), (3, V.d (D.sl 3 l)), (7, V.d (D.str g)), (8, V.d (D.str acc)), (28, V.sl 1 [D.str [32], D.str [10], D.str [45, 45, 10]] 28), (29, V.d (D.int IntKind.i64 (3 : Int))), (30, V.d (D.int IntKind.i64 gi)), (34, V.d (D.sl 3 l)), (35, V.d (D.int IntKind.i64 (↑l.length : Int))), (36, V.d (D.int IntKind.i64 j))] [(28, Ob.tok 3)] (RL cx S4 n 5 0 13 14 (inK cx S4 n 5 0 13 k (AL cx S4 n 5 0 9 13 (inK cx S4 n 5 0 9 k' (AK cx S4 n 5 0 9 (EK cx 5 0)))))) =
  must (decide (t.length + g.length ≤ 4611686018427387904))
    (must (decide (acc.length + (t ++ g).length ≤ 4611686018427387904))
      (LP cx S4 n 5 0 13 k
        [(3, V.d (D.sl 3 l)), (7, V.d (D.str g)), (8, V.d (D.str (acc ++ (t ++ g)))),
          (28, V.sl 1 [D.str [32], D.str [10], D.str [45, 45, 10]] 28), (29, V.d (D.int IntKind.i64 (3 : Int))),
          (30, V.d (D.int IntKind.i64 gi)), (34, V.d (D.sl 3 l)), (35, V.d (D.int IntKind.i64 (↑l.length : Int))),
          (36, V.d (D.int IntKind.i64 (IntKind.i64.wrap (j + (1 : Int)))))]
        [(28, Ob.tok 3)] (AL cx S4 n 5 0 9 13 (inK cx S4 n 5 0 9 k' (AK cx S4 n 5 0 9 (EK cx 5 0)))))) := by kernel_rfl

theorem l5c (n k k' : Nat) (l m : List D) (gi j : Int) :
    LP cx S4 n 5 0 22 (k+1) [(3, V.d (D.sl 3 l)), (11, V.d (D.sl 3 m)), (28, V.sl 1 [D.str [32], D.str [10], D.str [45, 45, 10]] 28), (29, V.d (D.int IntKind.i64 (3 : Int))), (30, V.d (D.int IntKind.i64 gi)), (70, V.d (D.int IntKind.i64 (m.length : Int))), (71, V.d (D.int IntKind.i64 j))] [(28, Ob.tok 3)] (AL cx S4 n 5 0 9 22 (inK cx S4 n 5 0 9 k' (AK cx S4 n 5 0 9 (EK cx 5 0)))) =
  bif decide (j < (↑m.length : Int)) then
    must (decide (0 ≤ j) && decide (j < (↑m.length : Int)))
      (nthD m j.toNat fun y =>
        nthD y.cells 0 fun c =>
          match c with
          | D.int k'_1 n_1 =>
            bif decide (k'_1 = IntKind.i64) then
              must (decide (0 ≤ j) && decide (j < (↑l.length : Int)))
                (nthD l j.toNat fun y =>
                  nthD y.cells 0 fun c =>
                    match c with
                    | D.int k'_2 n_2 =>
                      bif decide (k'_2 = IntKind.i64) then
                        bif !decide (n_1 = n_2) then some (Out.ret (V.d (D.bool false)), [])
                        else
                          must (decide (0 ≤ j) && decide (j < (↑m.length : Int)))
                            (nthD m j.toNat fun y =>
                              nthD y.cells 1 fun c =>
                                match c with
                                | D.str s =>
                                  must (decide (0 ≤ j) && decide (j < (↑l.length : Int)))
                                    (nthD l j.toNat fun y =>
                                      nthD y.cells 1 fun c =>
                                        match c with
                                        | D.str s_1 =>
                                          bif !decide (s = s_1) then some (Out.ret (V.d (D.bool false)), [])
                                          else
                                            LP cx S4 n 5 0 22 k
                                              [(3, V.d (D.sl 3 l)), (11, V.d (D.sl 3 m)),
                                                (28, V.sl 1 [D.str [32], D.str [10], D.str [45, 45, 10]] 28),
                                                (29, V.d (D.int IntKind.i64 (3 : Int))),
                                                (30, V.d (D.int IntKind.i64 gi)),
                                                (70, V.d (D.int IntKind.i64 (↑m.length : Int))),
                                                (71, V.d (D.int IntKind.i64 (IntKind.i64.wrap (j + (1 : Int)))))]
                                              [(28, Ob.tok 3)]
                                              (AL cx S4 n 5 0 9 22
                                                (inK cx S4 n 5 0 9 k' (AK cx S4 n 5 0 9 (EK cx 5 0))))
                                        | x => none)
                                | x => none)
                      else none
                    | x => none)
            else none
          | x => none)
  else
    LP cx S4 n 5 0 9 k'
      [(3, V.d (D.sl 3 l)), (28, V.sl 1 [D.str [32], D.str [10], D.str [45, 45, 10]] 28),
        (29, V.d (D.int IntKind.i64 (3 : Int))),
        (30, V.d (D.int IntKind.i64 (IntKind.i64.wrap (gi + (1 : Int)))))]
      [(28, Ob.tok 3)] (AK cx S4 n 5 0 9 (EK cx 5 0)) := by kernel_rfl


noncomputable abbrev L9 (n k : Nat) (l : List D) (gi : Int) : Option (Out × St) :=
  LP cx S4 n 5 0 9 k [(3, .d (.sl 3 l)), (28, .sl 1 [.str [32], .str [10], .str [45, 45, 10]] 28), (29, .d (.int .i64 3)), (30, .d (.int .i64 gi))] [(28, .tok 3)] (AK cx S4 n 5 0 9 (EK cx 5 0))

theorem ltok_is {l : List D} (h : LTok l) : ∀ d ∈ l, ∃ k t a, d = tokD k t a ∧ t.length ≤ 65536 := by
  induction h with
  | @fin a => intro d hd; cases hd with | head => exact ⟨_, _, _, rfl, Nat.zero_le _⟩ | tail _ h => cases h
  | @tok k t a l hk ht hl ih => intro d hd; cases hd with | head => exact ⟨_, _, _, rfl, ht⟩ | tail _ h => exact ih d h

theorem cmp_loop {l m : List D} (hl : ∀ d ∈ l, IsTok d) (hm : ∀ d ∈ m, IsTok d) (he : m.map kt = l.map kt) (hb : m.length ≤ 70000) (n k' : Nat) (gi : Int) : ∀ (N j k : Nat), m.length - j ≤ N → N < k → j ≤ m.length →
    LP cx S4 n 5 0 22 k [(3, V.d (D.sl 3 l)), (11, V.d (D.sl 3 m)), (28, V.sl 1 [D.str [32], D.str [10], D.str [45, 45, 10]] 28), (29, V.d (D.int IntKind.i64 (3 : Int))), (30, V.d (D.int IntKind.i64 gi)), (70, V.d (D.int IntKind.i64 (m.length : Int))), (71, V.d (D.int IntKind.i64 (j : Int)))] [(28, Ob.tok 3)] (AL cx S4 n 5 0 9 22 (inK cx S4 n 5 0 9 k' (AK cx S4 n 5 0 9 (EK cx 5 0)))) = L9 n k' l (IntKind.i64.wrap (gi + 1)) := by
  have hlen : m.length = l.length := by have := congrArg List.length he; simpa using this
  intro N
  induction N with
  | zero =>
    intro j k h hk hj
    obtain ⟨k, rfl⟩ : ∃ i, k = i + 1 := ⟨k - 1, by omega⟩
    rw [l5c, decide_eq_false (by omega), cond_false]
  | succ N ih =>
    intro j k h hk hj
    obtain ⟨k, rfl⟩ : ∃ i, k = i + 1 := ⟨k - 1, by omega⟩
    rw [l5c]
    by_cases hlt : j < m.length
    · have hg : m[j]? = some m[j] := List.getElem?_eq_getElem hlt
      have hg' : l[j]? = some (l[j]'(by omega)) := List.getElem?_eq_getElem (by omega)
      obtain ⟨x, t, y, e1⟩ := hm m[j] (List.getElem_mem hlt)
      obtain ⟨x', t', y', e2⟩ := hl (l[j]'(by omega)) (List.getElem_mem _)
      rw [e1] at hg
      rw [e2] at hg'
      have hx : (x, t) = (x', t') := by
        have h2 := congrArg (fun q => q[j]?) he
        simp only [List.getElem?_map, hg, hg', Option.map_some] at h2
        exact Option.some.inj h2
      cases hx
      have c0 : (tokD x t y).cells[0]? = some (.int .i64 x) := rfl
      have c1 : (tokD x t y).cells[1]? = some (.str t) := rfl
      have d0 : (tokD x t y').cells[0]? = some (.int .i64 x) := rfl
      have d1 : (tokD x t y').cells[1]? = some (.str t) := rfl
      simp only [decide_eq_true (p := (j : Int) < (m.length : Int)) (by omega), decide_eq_true (p := (j : Int) < (l.length : Int)) (by omega), decide_eq_true (p := (0 : Int) ≤ (j : Int)) (by omega), cond_true, Bool.and_self, must, Int.toNat_natCast, nthD_at hg, nthD_at hg', nthD_at c0, nthD_at c1, nthD_at d0, nthD_at d1, decide_true, Bool.not_true, cond_false]
      rw [wrap1 (by omega)]
      exact ih (j + 1) k (by omega) (by omega) hlt
    · rw [decide_eq_false (by omega), cond_false]

theorem text_loop {l : List D} (hl : LTok l) (hb : l.length ≤ 65537) {g : List UInt8} (hg : Gap g) {n : Nat} (hn : l.length < n) (k' : Nat) (gi : Int) : ∀ (rest pre : List D) (k : Nat), l = pre ++ rest → rest.length < k →
    LP cx S4 n 5 0 13 k [(3, V.d (D.sl 3 l)), (7, V.d (D.str g)), (8, V.d (D.str (joinT g pre))), (28, V.sl 1 [D.str [32], D.str [10], D.str [45, 45, 10]] 28), (29, V.d (D.int IntKind.i64 (3 : Int))), (30, V.d (D.int IntKind.i64 gi)), (34, V.d (D.sl 3 l)), (35, V.d (D.int IntKind.i64 (l.length : Int))), (36, V.d (D.int IntKind.i64 (pre.length : Int)))] [(28, Ob.tok 3)] (AL cx S4 n 5 0 9 13 (inK cx S4 n 5 0 9 k' (AK cx S4 n 5 0 9 (EK cx 5 0)))) = L9 n k' l (IntKind.i64.wrap (gi + 1))
  | _, _, 0, _, hk => by omega
  | [], pre, k + 1, hpre, _ => by
    rw [List.append_nil] at hpre
    subst hpre
    rw [l5t, decide_eq_false (by omega), cond_false]
    by_cases hbig : 65536 < (joinT g l).length
    · rw [decide_eq_true (by omega), cond_true]
    · obtain ⟨m, h1, h2, h3⟩ := join_scan hg hl (by omega)
      have hlen : m.length = l.length := by have := congrArg List.length h2; simpa using this
      rw [decide_eq_false (by omega), cond_false, decide_eq_true (p := (joinT g l).length ≤ big) (by simp [big]; omega), h1]
      simp only [must, cond_true, decide_true, Bool.not_true, cond_false, decide_eq_true (p := (m.length : Int) = (l.length : Int)) (by omega)]
      exact cmp_loop (fun d hd => by obtain ⟨k, t, a, h, _⟩ := ltok_is hl d hd; exact ⟨k, t, a, h⟩) h3 h2 (by omega) n k' gi m.length 0 n (by omega) (by omega) (by omega)
  | d :: rest, pre, k + 1, hpre, hk => by
    have hgt := at_mid hpre
    have hlen : l.length = pre.length + 1 + rest.length := by rw [hpre]; simp; omega
    obtain ⟨kd, t, a, rfl, ht⟩ := ltok_is hl d (by rw [hpre]; simp)
    have hj := joinT_len hg.len hl
    have hjl : (joinT g l).length = (joinT g pre).length + (t.length + (g.length + (joinT g rest).length)) := by
      rw [hpre, joinT_app, joinT]; simp [txt, tokD]
    have hgl := hg.len
    rw [l5t]
    simp only [decide_eq_true (p := (pre.length : Int) < (l.length : Int)) (by omega), decide_eq_true (p := (0 : Int) ≤ (pre.length : Int)) (by omega), cond_true, Bool.and_self, must, Int.toNat_natCast, nthD_at hgt]
    have h := o5t n k k' l g (joinT g pre) t gi (pre.length : Int) kd a
    simp only [decide_eq_true (p := (pre.length : Int) < (l.length : Int)) (by omega)] at h
    rw [h, decide_eq_true (p := t.length + g.length ≤ 4611686018427387904) (by omega), decide_eq_true (p := (joinT g pre).length + (t ++ g).length ≤ 4611686018427387904) (by rw [List.length_append]; omega), wrap1 (by omega)]
    have ih := text_loop hl hb hg hn k' gi rest (pre ++ [tokD kd t a]) k (by rw [hpre, List.append_assoc]; rfl) (by simpa using hk)
    have hjp : joinT g (pre ++ [tokD kd t a]) = joinT g pre ++ (t ++ g) := by rw [joinT_app]; simp [joinT, txt, tokD]
    rw [hjp, List.length_append] at ih
    exact ih

theorem gap_round {l : List D} (hl : LTok l) (hb : l.length ≤ 65537) {g : List UInt8} (hg : Gap g) {n : Nat} (hn : l.length < n) (k gi : Nat) (hgi : gi < 3) (hat : [D.str [32], D.str [10], D.str [45, 45, 10]][gi]? = some (.str g)) :
    L9 n (k + 1) l (gi : Int) = L9 n k l ((gi + 1 : Nat) : Int) := by
  unfold L9
  rw [l5o]
  have h := o5o n k l (gi : Int) g
  simp only [decide_eq_true (p := (gi : Int) < 3) (by omega)] at h
  simp only [decide_eq_true (p := (gi : Int) < 3) (by omega), decide_eq_true (p := (0 : Int) ≤ (gi : Int)) (by omega), decide_eq_true (p := (gi : Int) < (([D.str [32], D.str [10], D.str [45, 45, 10]].length : Nat) : Int)) (by simp; omega), cond_true, Bool.and_self, must, Int.toNat_natCast, nthD_at hat]
  rw [h]
  have := text_loop hl hb hg hn k (gi : Int) l [] n rfl hn
  rw [wrap1 (by omega)] at this
  exact this

theorem pure_lexJoins (s : List UInt8) (h : s.length ≤ 1048576) : ∃ n, evFun cx n 5 [.d (.str s)] [] = some (.ret (.d (.bool true)), []) := by
  refine lim_ex (lim_body (N := (Sp.scan s).1.length + 5) S4_knows ?_)
  rw [b5]
  by_cases hbig : 20000 < s.length
  · rw [decide_eq_true (by omega), cond_true]
  · rw [decide_eq_false (by omega), cond_false, decide_eq_true (p := s.length ≤ big) (by simp [big]; omega)]
    rcases scan_says s with ⟨h1, _, l, h2, h3⟩ | ⟨h1, h2, p, h3, h4⟩
    · have hl := scan_len s
      rw [h2] at hl
      have hl' : l.length ≤ s.length + 1 := hl
      have hlt := cov_ltok h1 h3
      rw [h2]
      simp only [must, cond_true, decide_true, Bool.not_true, cond_false]
      refine (gap_round (n := l.length + 5) hlt (by omega) gap1 (by omega) (l.length + 4) 0 (by omega) rfl).trans ?_
      refine (gap_round (n := l.length + 5) hlt (by omega) gap2 (by omega) (l.length + 3) 1 (by omega) rfl).trans ?_
      refine (gap_round (n := l.length + 5) hlt (by omega) gap3 (by omega) (l.length + 2) 2 (by omega) rfl).trans ?_
      unfold L9
      rw [l5o]; rfl
    · rw [decide_eq_false h1]; rfl

end Go.Vai
end

section
namespace Go.Vai
open Go.Proofs

theorem b6 (n : Nat) (s : List UInt8) (c : Int) :
    evBody cx S4 n 6 [.d (.str s), .d (.int .u8 c)] [] =
  must (decide (s.length ≤ big))
    (bif !decide ((Sp.scan s).snd.snd = (0 : Int)) then some (Out.ret (V.d (D.bool true)), [])
    else
      bif decide ((↑(Sp.scan s).1.length : Int) = (0 : Int)) then some (Out.ret (V.d (D.bool true)), [])
      else
        bif decide ((65535 : Int) ≤ (↑s.length : Int)) then some (Out.ret (V.d (D.bool true)), [])
        else
          must (decide (s.length + [10].length ≤ 4611686018427387904))
            (must (decide ((s ++ [10]).length + [UInt8.ofNat c.toNat].length ≤ 4611686018427387904))
              (must (decide ((s ++ [10] ++ [UInt8.ofNat c.toNat]).length ≤ big))
                (bif decide ((128 : Int) ≤ c) then
                  bif decide ((Sp.scan (s ++ [10] ++ [UInt8.ofNat c.toNat])).snd.snd = (60 : Int)) then
                    some
                      (Out.ret
                          (V.d
                            (D.bool
                              (decide
                                ((Sp.scan (s ++ [10] ++ [UInt8.ofNat c.toNat])).snd.fst =
                                  IntKind.i64.wrap ((↑s.length : Int) + (1 : Int)))))),
                        [])
                  else some (Out.ret (V.d (D.bool false)), [])
                else
                  bif decide (c = (95 : Int)) then
                    LP cx S4 n 6 0 11 n
                      [(0, V.d (D.str s)), (1, V.d (D.int IntKind.u8 c)),
                        (9, V.d (D.int IntKind.i64 (Sp.scan (s ++ [10] ++ [UInt8.ofNat c.toNat])).snd.fst)),
                        (10, V.d (D.int IntKind.i64 (Sp.scan (s ++ [10] ++ [UInt8.ofNat c.toNat])).snd.snd)),
                        (11, V.d (D.bool true)),
                        (83,
                          V.sl 1
                            [D.int IntKind.u8 (40 : Int), D.int IntKind.u8 (41 : Int),
                              D.int IntKind.u8 (91 : Int), D.int IntKind.u8 (93 : Int),
                              D.int IntKind.u8 (44 : Int), D.int IntKind.u8 (46 : Int),
                              D.int IntKind.u8 (58 : Int), D.int IntKind.u8 (59 : Int),
                              D.int IntKind.u8 (61 : Int), D.int IntKind.u8 (92 : Int),
                              D.int IntKind.u8 (60 : Int), D.int IntKind.u8 (62 : Int),
                              D.int IntKind.u8 (64 : Int), D.int IntKind.u8 (126 : Int),
                              D.int IntKind.u8 (42 : Int), D.int IntKind.u8 (32 : Int),
                              D.int IntKind.u8 (9 : Int), D.int IntKind.u8 (10 : Int),
                              D.int IntKind.u8 (13 : Int)]
                            82),
                        (84, V.d (D.int IntKind.i64 (19 : Int))), (85, V.d (D.int IntKind.i64 (0 : Int)))]
                      [(82, Ob.tok 19)] (AK cx S4 n 6 0 11 (EK cx 6 0))
                  else
                    bif decide ((97 : Int) ≤ c) then
                      bif decide (c ≤ (122 : Int)) then
                        LP cx S4 n 6 0 11 n
                          [(0, V.d (D.str s)), (1, V.d (D.int IntKind.u8 c)),
                            (9, V.d (D.int IntKind.i64 (Sp.scan (s ++ [10] ++ [UInt8.ofNat c.toNat])).snd.fst)),
                            (10, V.d (D.int IntKind.i64 (Sp.scan (s ++ [10] ++ [UInt8.ofNat c.toNat])).snd.snd)),
                            (11, V.d (D.bool true)),
                            (83,
                              V.sl 1
                                [D.int IntKind.u8 (40 : Int), D.int IntKind.u8 (41 : Int),
                                  D.int IntKind.u8 (91 : Int), D.int IntKind.u8 (93 : Int),
                                  D.int IntKind.u8 (44 : Int), D.int IntKind.u8 (46 : Int),
                                  D.int IntKind.u8 (58 : Int), D.int IntKind.u8 (59 : Int),
                                  D.int IntKind.u8 (61 : Int), D.int IntKind.u8 (92 : Int),
                                  D.int IntKind.u8 (60 : Int), D.int IntKind.u8 (62 : Int),
                                  D.int IntKind.u8 (64 : Int), D.int IntKind.u8 (126 : Int),
                                  D.int IntKind.u8 (42 : Int), D.int IntKind.u8 (32 : Int),
                                  D.int IntKind.u8 (9 : Int), D.int IntKind.u8 (10 : Int),
                                  D.int IntKind.u8 (13 : Int)]
                                82),
                            (84, V.d (D.int IntKind.i64 (19 : Int))), (85, V.d (D.int IntKind.i64 (0 : Int)))]
                          [(82, Ob.tok 19)] (AK cx S4 n 6 0 11 (EK cx 6 0))
                      else
                        bif decide ((65 : Int) ≤ c) then
                          bif decide (c ≤ (90 : Int)) then
                            LP cx S4 n 6 0 11 n
                              [(0, V.d (D.str s)), (1, V.d (D.int IntKind.u8 c)),
                                (9, V.d (D.int IntKind.i64 (Sp.scan (s ++ [10] ++ [UInt8.ofNat c.toNat])).snd.fst)),
                                (10, V.d (D.int IntKind.i64 (Sp.scan (s ++ [10] ++ [UInt8.ofNat c.toNat])).snd.snd)),
                                (11, V.d (D.bool true)),
                                (83,
                                  V.sl 1
                                    [D.int IntKind.u8 (40 : Int), D.int IntKind.u8 (41 : Int),
                                      D.int IntKind.u8 (91 : Int), D.int IntKind.u8 (93 : Int),
                                      D.int IntKind.u8 (44 : Int), D.int IntKind.u8 (46 : Int),
                                      D.int IntKind.u8 (58 : Int), D.int IntKind.u8 (59 : Int),
                                      D.int IntKind.u8 (61 : Int), D.int IntKind.u8 (92 : Int),
                                      D.int IntKind.u8 (60 : Int), D.int IntKind.u8 (62 : Int),
                                      D.int IntKind.u8 (64 : Int), D.int IntKind.u8 (126 : Int),
                                      D.int IntKind.u8 (42 : Int), D.int IntKind.u8 (32 : Int),
                                      D.int IntKind.u8 (9 : Int), D.int IntKind.u8 (10 : Int),
                                      D.int IntKind.u8 (13 : Int)]
                                    82),
                                (84, V.d (D.int IntKind.i64 (19 : Int))),
                                (85, V.d (D.int IntKind.i64 (0 : Int)))]
                              [(82, Ob.tok 19)] (AK cx S4 n 6 0 11 (EK cx 6 0))
                          else
                            bif decide (c = (48 : Int)) then
                              LP cx S4 n 6 0 11 n
                                [(0, V.d (D.str s)), (1, V.d (D.int IntKind.u8 c)),
                                  (9, V.d (D.int IntKind.i64 (Sp.scan (s ++ [10] ++ [UInt8.ofNat c.toNat])).snd.fst)),
                                  (10, V.d (D.int IntKind.i64 (Sp.scan (s ++ [10] ++ [UInt8.ofNat c.toNat])).snd.snd)),
                                  (11, V.d (D.bool true)),
                                  (83,
                                    V.sl 1
                                      [D.int IntKind.u8 (40 : Int), D.int IntKind.u8 (41 : Int),
                                        D.int IntKind.u8 (91 : Int), D.int IntKind.u8 (93 : Int),
                                        D.int IntKind.u8 (44 : Int), D.int IntKind.u8 (46 : Int),
                                        D.int IntKind.u8 (58 : Int), D.int IntKind.u8 (59 : Int),
                                        D.int IntKind.u8 (61 : Int), D.int IntKind.u8 (92 : Int),
                                        D.int IntKind.u8 (60 : Int), D.int IntKind.u8 (62 : Int),
                                        D.int IntKind.u8 (64 : Int), D.int IntKind.u8 (126 : Int),
                                        D.int IntKind.u8 (42 : Int), D.int IntKind.u8 (32 : Int),
                                        D.int IntKind.u8 (9 : Int), D.int IntKind.u8 (10 : Int),
                                        D.int IntKind.u8 (13 : Int)]
                                      82),
                                  (84, V.d (D.int IntKind.i64 (19 : Int))),
                                  (85, V.d (D.int IntKind.i64 (0 : Int)))]
                                [(82, Ob.tok 19)] (AK cx S4 n 6 0 11 (EK cx 6 0))
                            else
                              LP cx S4 n 6 0 11 n
                                [(0, V.d (D.str s)), (1, V.d (D.int IntKind.u8 c)),
                                  (9, V.d (D.int IntKind.i64 (Sp.scan (s ++ [10] ++ [UInt8.ofNat c.toNat])).snd.fst)),
                                  (10, V.d (D.int IntKind.i64 (Sp.scan (s ++ [10] ++ [UInt8.ofNat c.toNat])).snd.snd)),
                                  (11, V.d (D.bool (decide (c = (49 : Int))))),
                                  (83,
                                    V.sl 1
                                      [D.int IntKind.u8 (40 : Int), D.int IntKind.u8 (41 : Int),
                                        D.int IntKind.u8 (91 : Int), D.int IntKind.u8 (93 : Int),
                                        D.int IntKind.u8 (44 : Int), D.int IntKind.u8 (46 : Int),
                                        D.int IntKind.u8 (58 : Int), D.int IntKind.u8 (59 : Int),
                                        D.int IntKind.u8 (61 : Int), D.int IntKind.u8 (92 : Int),
                                        D.int IntKind.u8 (60 : Int), D.int IntKind.u8 (62 : Int),
                                        D.int IntKind.u8 (64 : Int), D.int IntKind.u8 (126 : Int),
                                        D.int IntKind.u8 (42 : Int), D.int IntKind.u8 (32 : Int),
                                        D.int IntKind.u8 (9 : Int), D.int IntKind.u8 (10 : Int),
                                        D.int IntKind.u8 (13 : Int)]
                                      82),
                                  (84, V.d (D.int IntKind.i64 (19 : Int))),
                                  (85, V.d (D.int IntKind.i64 (0 : Int)))]
                                [(82, Ob.tok 19)] (AK cx S4 n 6 0 11 (EK cx 6 0))
                        else
                          bif decide (c = (48 : Int)) then
                            LP cx S4 n 6 0 11 n
                              [(0, V.d (D.str s)), (1, V.d (D.int IntKind.u8 c)),
                                (9, V.d (D.int IntKind.i64 (Sp.scan (s ++ [10] ++ [UInt8.ofNat c.toNat])).snd.fst)),
                                (10, V.d (D.int IntKind.i64 (Sp.scan (s ++ [10] ++ [UInt8.ofNat c.toNat])).snd.snd)),
                                (11, V.d (D.bool true)),
                                (83,
                                  V.sl 1
                                    [D.int IntKind.u8 (40 : Int), D.int IntKind.u8 (41 : Int),
                                      D.int IntKind.u8 (91 : Int), D.int IntKind.u8 (93 : Int),
                                      D.int IntKind.u8 (44 : Int), D.int IntKind.u8 (46 : Int),
                                      D.int IntKind.u8 (58 : Int), D.int IntKind.u8 (59 : Int),
                                      D.int IntKind.u8 (61 : Int), D.int IntKind.u8 (92 : Int),
                                      D.int IntKind.u8 (60 : Int), D.int IntKind.u8 (62 : Int),
                                      D.int IntKind.u8 (64 : Int), D.int IntKind.u8 (126 : Int),
                                      D.int IntKind.u8 (42 : Int), D.int IntKind.u8 (32 : Int),
                                      D.int IntKind.u8 (9 : Int), D.int IntKind.u8 (10 : Int),
                                      D.int IntKind.u8 (13 : Int)]
                                    82),
                                (84, V.d (D.int IntKind.i64 (19 : Int))),
                                (85, V.d (D.int IntKind.i64 (0 : Int)))]
                              [(82, Ob.tok 19)] (AK cx S4 n 6 0 11 (EK cx 6 0))
                          else
                            LP cx S4 n 6 0 11 n
                              [(0, V.d (D.str s)), (1, V.d (D.int IntKind.u8 c)),
                                (9, V.d (D.int IntKind.i64 (Sp.scan (s ++ [10] ++ [UInt8.ofNat c.toNat])).snd.fst)),
                                (10, V.d (D.int IntKind.i64 (Sp.scan (s ++ [10] ++ [UInt8.ofNat c.toNat])).snd.snd)),
                                (11, V.d (D.bool (decide (c = (49 : Int))))),
                                (83,
                                  V.sl 1
                                    [D.int IntKind.u8 (40 : Int), D.int IntKind.u8 (41 : Int),
                                      D.int IntKind.u8 (91 : Int), D.int IntKind.u8 (93 : Int),
                                      D.int IntKind.u8 (44 : Int), D.int IntKind.u8 (46 : Int),
                                      D.int IntKind.u8 (58 : Int), D.int IntKind.u8 (59 : Int),
                                      D.int IntKind.u8 (61 : Int), D.int IntKind.u8 (92 : Int),
                                      D.int IntKind.u8 (60 : Int), D.int IntKind.u8 (62 : Int),
                                      D.int IntKind.u8 (64 : Int), D.int IntKind.u8 (126 : Int),
                                      D.int IntKind.u8 (42 : Int), D.int IntKind.u8 (32 : Int),
                                      D.int IntKind.u8 (9 : Int), D.int IntKind.u8 (10 : Int),
                                      D.int IntKind.u8 (13 : Int)]
                                    82),
                                (84, V.d (D.int IntKind.i64 (19 : Int))),
                                (85, V.d (D.int IntKind.i64 (0 : Int)))]
                              [(82, Ob.tok 19)] (AK cx S4 n 6 0 11 (EK cx 6 0))
                    else
                      bif decide ((65 : Int) ≤ c) then
                        bif decide (c ≤ (90 : Int)) then
                          LP cx S4 n 6 0 11 n
                            [(0, V.d (D.str s)), (1, V.d (D.int IntKind.u8 c)),
                              (9, V.d (D.int IntKind.i64 (Sp.scan (s ++ [10] ++ [UInt8.ofNat c.toNat])).snd.fst)),
                              (10, V.d (D.int IntKind.i64 (Sp.scan (s ++ [10] ++ [UInt8.ofNat c.toNat])).snd.snd)),
                              (11, V.d (D.bool true)),
                              (83,
                                V.sl 1
                                  [D.int IntKind.u8 (40 : Int), D.int IntKind.u8 (41 : Int),
                                    D.int IntKind.u8 (91 : Int), D.int IntKind.u8 (93 : Int),
                                    D.int IntKind.u8 (44 : Int), D.int IntKind.u8 (46 : Int),
                                    D.int IntKind.u8 (58 : Int), D.int IntKind.u8 (59 : Int),
                                    D.int IntKind.u8 (61 : Int), D.int IntKind.u8 (92 : Int),
                                    D.int IntKind.u8 (60 : Int), D.int IntKind.u8 (62 : Int),
                                    D.int IntKind.u8 (64 : Int), D.int IntKind.u8 (126 : Int),
                                    D.int IntKind.u8 (42 : Int), D.int IntKind.u8 (32 : Int),
                                    D.int IntKind.u8 (9 : Int), D.int IntKind.u8 (10 : Int),
                                    D.int IntKind.u8 (13 : Int)]
                                  82),
                              (84, V.d (D.int IntKind.i64 (19 : Int))), (85, V.d (D.int IntKind.i64 (0 : Int)))]
                            [(82, Ob.tok 19)] (AK cx S4 n 6 0 11 (EK cx 6 0))
                        else
                          bif decide (c = (48 : Int)) then
                            LP cx S4 n 6 0 11 n
                              [(0, V.d (D.str s)), (1, V.d (D.int IntKind.u8 c)),
                                (9, V.d (D.int IntKind.i64 (Sp.scan (s ++ [10] ++ [UInt8.ofNat c.toNat])).snd.fst)),
                                (10, V.d (D.int IntKind.i64 (Sp.scan (s ++ [10] ++ [UInt8.ofNat c.toNat])).snd.snd)),
                                (11, V.d (D.bool true)),
                                (83,
                                  V.sl 1
                                    [D.int IntKind.u8 (40 : Int), D.int IntKind.u8 (41 : Int),
                                      D.int IntKind.u8 (91 : Int), D.int IntKind.u8 (93 : Int),
                                      D.int IntKind.u8 (44 : Int), D.int IntKind.u8 (46 : Int),
                                      D.int IntKind.u8 (58 : Int), D.int IntKind.u8 (59 : Int),
                                      D.int IntKind.u8 (61 : Int), D.int IntKind.u8 (92 : Int),
                                      D.int IntKind.u8 (60 : Int), D.int IntKind.u8 (62 : Int),
                                      D.int IntKind.u8 (64 : Int), D.int IntKind.u8 (126 : Int),
                                      D.int IntKind.u8 (42 : Int), D.int IntKind.u8 (32 : Int),
                                      D.int IntKind.u8 (9 : Int), D.int IntKind.u8 (10 : Int),
                                      D.int IntKind.u8 (13 : Int)]
                                    82),
                                (84, V.d (D.int IntKind.i64 (19 : Int))),
                                (85, V.d (D.int IntKind.i64 (0 : Int)))]
                              [(82, Ob.tok 19)] (AK cx S4 n 6 0 11 (EK cx 6 0))
                          else
                            LP cx S4 n 6 0 11 n
                              [(0, V.d (D.str s)), (1, V.d (D.int IntKind.u8 c)),
                                (9, V.d (D.int IntKind.i64 (Sp.scan (s ++ [10] ++ [UInt8.ofNat c.toNat])).snd.fst)),
                                (10, V.d (D.int IntKind.i64 (Sp.scan (s ++ [10] ++ [UInt8.ofNat c.toNat])).snd.snd)),
                                (11, V.d (D.bool (decide (c = (49 : Int))))),
                                (83,
                                  V.sl 1
                                    [D.int IntKind.u8 (40 : Int), D.int IntKind.u8 (41 : Int),
                                      D.int IntKind.u8 (91 : Int), D.int IntKind.u8 (93 : Int),
                                      D.int IntKind.u8 (44 : Int), D.int IntKind.u8 (46 : Int),
                                      D.int IntKind.u8 (58 : Int), D.int IntKind.u8 (59 : Int),
                                      D.int IntKind.u8 (61 : Int), D.int IntKind.u8 (92 : Int),
                                      D.int IntKind.u8 (60 : Int), D.int IntKind.u8 (62 : Int),
                                      D.int IntKind.u8 (64 : Int), D.int IntKind.u8 (126 : Int),
                                      D.int IntKind.u8 (42 : Int), D.int IntKind.u8 (32 : Int),
                                      D.int IntKind.u8 (9 : Int), D.int IntKind.u8 (10 : Int),
                                      D.int IntKind.u8 (13 : Int)]
                                    82),
                                (84, V.d (D.int IntKind.i64 (19 : Int))),
                                (85, V.d (D.int IntKind.i64 (0 : Int)))]
                              [(82, Ob.tok 19)] (AK cx S4 n 6 0 11 (EK cx 6 0))
                      else
                        bif decide (c = (48 : Int)) then
                          LP cx S4 n 6 0 11 n
                            [(0, V.d (D.str s)), (1, V.d (D.int IntKind.u8 c)),
                              (9, V.d (D.int IntKind.i64 (Sp.scan (s ++ [10] ++ [UInt8.ofNat c.toNat])).snd.fst)),
                              (10, V.d (D.int IntKind.i64 (Sp.scan (s ++ [10] ++ [UInt8.ofNat c.toNat])).snd.snd)),
                              (11, V.d (D.bool true)),
                              (83,
                                V.sl 1
                                  [D.int IntKind.u8 (40 : Int), D.int IntKind.u8 (41 : Int),
                                    D.int IntKind.u8 (91 : Int), D.int IntKind.u8 (93 : Int),
                                    D.int IntKind.u8 (44 : Int), D.int IntKind.u8 (46 : Int),
                                    D.int IntKind.u8 (58 : Int), D.int IntKind.u8 (59 : Int),
                                    D.int IntKind.u8 (61 : Int), D.int IntKind.u8 (92 : Int),
                                    D.int IntKind.u8 (60 : Int), D.int IntKind.u8 (62 : Int),
                                    D.int IntKind.u8 (64 : Int), D.int IntKind.u8 (126 : Int),
                                    D.int IntKind.u8 (42 : Int), D.int IntKind.u8 (32 : Int),
                                    D.int IntKind.u8 (9 : Int), D.int IntKind.u8 (10 : Int),
                                    D.int IntKind.u8 (13 : Int)]
                                  82),
                              (84, V.d (D.int IntKind.i64 (19 : Int))), (85, V.d (D.int IntKind.i64 (0 : Int)))]
                            [(82, Ob.tok 19)] (AK cx S4 n 6 0 11 (EK cx 6 0))
                        else
                          LP cx S4 n 6 0 11 n
                            [(0, V.d (D.str s)), (1, V.d (D.int IntKind.u8 c)),
                              (9, V.d (D.int IntKind.i64 (Sp.scan (s ++ [10] ++ [UInt8.ofNat c.toNat])).snd.fst)),
                              (10, V.d (D.int IntKind.i64 (Sp.scan (s ++ [10] ++ [UInt8.ofNat c.toNat])).snd.snd)),
                              (11, V.d (D.bool (decide (c = (49 : Int))))),
                              (83,
                                V.sl 1
                                  [D.int IntKind.u8 (40 : Int), D.int IntKind.u8 (41 : Int),
                                    D.int IntKind.u8 (91 : Int), D.int IntKind.u8 (93 : Int),
                                    D.int IntKind.u8 (44 : Int), D.int IntKind.u8 (46 : Int),
                                    D.int IntKind.u8 (58 : Int), D.int IntKind.u8 (59 : Int),
                                    D.int IntKind.u8 (61 : Int), D.int IntKind.u8 (92 : Int),
                                    D.int IntKind.u8 (60 : Int), D.int IntKind.u8 (62 : Int),
                                    D.int IntKind.u8 (64 : Int), D.int IntKind.u8 (126 : Int),
                                    D.int IntKind.u8 (42 : Int), D.int IntKind.u8 (32 : Int),
                                    D.int IntKind.u8 (9 : Int), D.int IntKind.u8 (10 : Int),
                                    D.int IntKind.u8 (13 : Int)]
                                  82),
                              (84, V.d (D.int IntKind.i64 (19 : Int))), (85, V.d (D.int IntKind.i64 (0 : Int)))]
                            [(82, Ob.tok 19)] (AK cx S4 n 6 0 11 (EK cx 6 0)))))) := by kernel_rfl

theorem l6 (n k : Nat) (s : List UInt8) (c x y i : Int) (kn : Bool) :
    LP cx S4 n 6 0 11 (k+1) [(0, .d (.str s)), (1, .d (.int .u8 c)), (9, .d (.int .i64 x)), (10, .d (.int .i64 y)), (11, .d (.bool kn)), (83, .sl 1 [.int .u8 40, .int .u8 41, .int .u8 91, .int .u8 93, .int .u8 44, .int .u8 46, .int .u8 58, .int .u8 59, .int .u8 61, .int .u8 92, .int .u8 60, .int .u8 62, .int .u8 64, .int .u8 126, .int .u8 42, .int .u8 32, .int .u8 9, .int .u8 10, .int .u8 13] 82), (84, .d (.int .i64 19)), (85, .d (.int .i64 i))] [(82, .tok 19)] (AK cx S4 n 6 0 11 (EK cx 6 0)) =
  bif decide (i < (19 : Int)) then
    must
      (decide (0 ≤ i) &&
        decide
          (i <
            (↑[D.int IntKind.u8 (40 : Int), D.int IntKind.u8 (41 : Int), D.int IntKind.u8 (91 : Int),
                    D.int IntKind.u8 (93 : Int), D.int IntKind.u8 (44 : Int), D.int IntKind.u8 (46 : Int),
                    D.int IntKind.u8 (58 : Int), D.int IntKind.u8 (59 : Int), D.int IntKind.u8 (61 : Int),
                    D.int IntKind.u8 (92 : Int), D.int IntKind.u8 (60 : Int), D.int IntKind.u8 (62 : Int),
                    D.int IntKind.u8 (64 : Int), D.int IntKind.u8 (126 : Int), D.int IntKind.u8 (42 : Int),
                    D.int IntKind.u8 (32 : Int), D.int IntKind.u8 (9 : Int), D.int IntKind.u8 (10 : Int),
                    D.int IntKind.u8 (13 : Int)].length :
              Int)))
      (nthD
        [D.int IntKind.u8 (40 : Int), D.int IntKind.u8 (41 : Int), D.int IntKind.u8 (91 : Int),
          D.int IntKind.u8 (93 : Int), D.int IntKind.u8 (44 : Int), D.int IntKind.u8 (46 : Int),
          D.int IntKind.u8 (58 : Int), D.int IntKind.u8 (59 : Int), D.int IntKind.u8 (61 : Int),
          D.int IntKind.u8 (92 : Int), D.int IntKind.u8 (60 : Int), D.int IntKind.u8 (62 : Int),
          D.int IntKind.u8 (64 : Int), D.int IntKind.u8 (126 : Int), D.int IntKind.u8 (42 : Int),
          D.int IntKind.u8 (32 : Int), D.int IntKind.u8 (9 : Int), D.int IntKind.u8 (10 : Int),
          D.int IntKind.u8 (13 : Int)]
        i.toNat fun y_1 =>
        OPS cx S4 n 6 0 12 1
          [(87, V.eptr y_1 0), (86, V.d (D.bool (decide (i < (19 : Int))))), (0, V.d (D.str s)),
            (1, V.d (D.int IntKind.u8 c)), (9, V.d (D.int IntKind.i64 x)), (10, V.d (D.int IntKind.i64 y)),
            (11, V.d (D.bool kn)),
            (83,
              V.sl 1
                [D.int IntKind.u8 (40 : Int), D.int IntKind.u8 (41 : Int), D.int IntKind.u8 (91 : Int),
                  D.int IntKind.u8 (93 : Int), D.int IntKind.u8 (44 : Int), D.int IntKind.u8 (46 : Int),
                  D.int IntKind.u8 (58 : Int), D.int IntKind.u8 (59 : Int), D.int IntKind.u8 (61 : Int),
                  D.int IntKind.u8 (92 : Int), D.int IntKind.u8 (60 : Int), D.int IntKind.u8 (62 : Int),
                  D.int IntKind.u8 (64 : Int), D.int IntKind.u8 (126 : Int), D.int IntKind.u8 (42 : Int),
                  D.int IntKind.u8 (32 : Int), D.int IntKind.u8 (9 : Int), D.int IntKind.u8 (10 : Int),
                  D.int IntKind.u8 (13 : Int)]
                82),
            (84, V.d (D.int IntKind.i64 (19 : Int))), (85, V.d (D.int IntKind.i64 i))]
          [(82, Ob.tok 19)] (RL cx S4 n 6 0 11 12 (inK cx S4 n 6 0 11 k (AK cx S4 n 6 0 11 (EK cx 6 0)))))
  else
    bif decide (decide (y = (0 : Int)) = kn) then
      bif kn then some (Out.ret (V.d (D.bool true)), [])
      else
        bif decide (y = (61 : Int)) then
          some (Out.ret (V.d (D.bool (decide (x = IntKind.i64.wrap ((↑s.length : Int) + (1 : Int)))))), [])
        else some (Out.ret (V.d (D.bool false)), [])
    else some (Out.ret (V.d (D.bool false)), []) := by kernel_rfl

theorem o6 (n k : Nat) (s : List UInt8) (c x y i d : Int) (kn : Bool) :
    OPS cx S4 n 6 0 12 1 [(87, V.eptr (.int .u8 d) 0), (86, V.d (D.bool (decide (i < (19 : Int))))), (0, V.d (D.str s)), (1, V.d (D.int IntKind.u8 c)), (9, V.d (D.int IntKind.i64 x)), (10, V.d (D.int IntKind.i64 y)), (11, V.d (D.bool kn)), (83, .sl 1 [.int .u8 40, .int .u8 41, .int .u8 91, .int .u8 93, .int .u8 44, .int .u8 46, .int .u8 58, .int .u8 59, .int .u8 61, .int .u8 92, .int .u8 60, .int .u8 62, .int .u8 64, .int .u8 126, .int .u8 42, .int .u8 32, .int .u8 9, .int .u8 10, .int .u8 13] 82), (84, V.d (D.int IntKind.i64 (19 : Int))), (85, V.d (D.int IntKind.i64 i))] [(82, Ob.tok 19)] (RL cx S4 n 6 0 11 12 (inK cx S4 n 6 0 11 k (AK cx S4 n 6 0 11 (EK cx 6 0)))) =
  bif kn then
    LP cx S4 n 6 0 11 k
      [(0, V.d (D.str s)), (1, V.d (D.int IntKind.u8 c)), (9, V.d (D.int IntKind.i64 x)),
        (10, V.d (D.int IntKind.i64 y)), (11, V.d (D.bool true)),
        (83,
          V.sl 1
            [D.int IntKind.u8 (40 : Int), D.int IntKind.u8 (41 : Int), D.int IntKind.u8 (91 : Int),
              D.int IntKind.u8 (93 : Int), D.int IntKind.u8 (44 : Int), D.int IntKind.u8 (46 : Int),
              D.int IntKind.u8 (58 : Int), D.int IntKind.u8 (59 : Int), D.int IntKind.u8 (61 : Int),
              D.int IntKind.u8 (92 : Int), D.int IntKind.u8 (60 : Int), D.int IntKind.u8 (62 : Int),
              D.int IntKind.u8 (64 : Int), D.int IntKind.u8 (126 : Int), D.int IntKind.u8 (42 : Int),
              D.int IntKind.u8 (32 : Int), D.int IntKind.u8 (9 : Int), D.int IntKind.u8 (10 : Int),
              D.int IntKind.u8 (13 : Int)]
            82),
        (84, V.d (D.int IntKind.i64 (19 : Int))),
        (85, V.d (D.int IntKind.i64 (IntKind.i64.wrap (i + (1 : Int)))))]
      [(82, Ob.tok 19)] (AK cx S4 n 6 0 11 (EK cx 6 0))
  else
    LP cx S4 n 6 0 11 k
      [(0, V.d (D.str s)), (1, V.d (D.int IntKind.u8 c)), (9, V.d (D.int IntKind.i64 x)),
        (10, V.d (D.int IntKind.i64 y)), (11, V.d (D.bool (decide (d = c)))),
        (83,
          V.sl 1
            [D.int IntKind.u8 (40 : Int), D.int IntKind.u8 (41 : Int), D.int IntKind.u8 (91 : Int),
              D.int IntKind.u8 (93 : Int), D.int IntKind.u8 (44 : Int), D.int IntKind.u8 (46 : Int),
              D.int IntKind.u8 (58 : Int), D.int IntKind.u8 (59 : Int), D.int IntKind.u8 (61 : Int),
              D.int IntKind.u8 (92 : Int), D.int IntKind.u8 (60 : Int), D.int IntKind.u8 (62 : Int),
              D.int IntKind.u8 (64 : Int), D.int IntKind.u8 (126 : Int), D.int IntKind.u8 (42 : Int),
              D.int IntKind.u8 (32 : Int), D.int IntKind.u8 (9 : Int), D.int IntKind.u8 (10 : Int),
              D.int IntKind.u8 (13 : Int)]
            82),
        (84, V.d (D.int IntKind.i64 (19 : Int))),
        (85, V.d (D.int IntKind.i64 (IntKind.i64.wrap (i + (1 : Int)))))]
      [(82, Ob.tok 19)] (AK cx S4 n 6 0 11 (EK cx 6 0)) := by kernel_rfl


theorem uni_app : ∀ {l : List UInt8} (x : List UInt8), Sp.uni l ≠ 0 → Sp.uni (l ++ x) = Sp.uni l
  | [], _, h => absurd rfl h
  | [b], x, h => by
    cases h0 : decide (b.toNat < 128)
    · exfalso; apply h
      simp only [Sp.uni, h0, cond_false]
      cases (decide (194 ≤ b.toNat) && decide (b.toNat ≤ 223)) <;> cases (decide (224 ≤ b.toNat) && decide (b.toNat ≤ 239)) <;> cases (decide (240 ≤ b.toNat) && decide (b.toNat ≤ 244)) <;> rfl
    · simp only [List.cons_append, Sp.uni, h0, cond_true]
  | [b, c], x, h => by
    cases h0 : decide (b.toNat < 128)
    · cases h1 : (decide (194 ≤ b.toNat) && decide (b.toNat ≤ 223))
      · exfalso; apply h
        simp only [Sp.uni, h0, h1, cond_false]
        cases (decide (224 ≤ b.toNat) && decide (b.toNat ≤ 239)) <;> cases (decide (240 ≤ b.toNat) && decide (b.toNat ≤ 244)) <;> rfl
      · simp only [List.cons_append, Sp.uni, h0, h1, cond_true, cond_false]
    · simp only [List.cons_append, Sp.uni, h0, cond_true]
  | [b, c, d], x, h => by
    cases h0 : decide (b.toNat < 128)
    · cases h1 : (decide (194 ≤ b.toNat) && decide (b.toNat ≤ 223))
      · cases h2 : (decide (224 ≤ b.toNat) && decide (b.toNat ≤ 239))
        · exfalso; apply h
          simp only [Sp.uni, h0, h1, h2, cond_false]
          cases (decide (240 ≤ b.toNat) && decide (b.toNat ≤ 244)) <;> rfl
        · simp only [List.cons_append, Sp.uni, h0, h1, h2, cond_true, cond_false]
      · simp only [List.cons_append, Sp.uni, h0, h1, cond_true, cond_false]
    · simp only [List.cons_append, Sp.uni, h0, cond_true]
  | b :: c :: d :: e :: r, x, _ => rfl

theorem utf_app (x : List UInt8) : ∀ (f : Nat) (r : List UInt8) (j : Nat), r.length ≤ f → Sp.utfGo f r j = none → ∀ f', r.length + x.length ≤ f' → ∃ f'', x.length ≤ f'' ∧ Sp.utfGo f' (r ++ x) j = Sp.utfGo f'' x (j + r.length)
  | f, [], j, _, _, f', hf => ⟨f', by simpa using hf, rfl⟩
  | 0, b :: r, j, h, _, _, _ => by simp at h
  | f + 1, b :: r, j, h, hn, f', hf => by
    rw [Sp.utfGo] at hn
    by_cases hu : Sp.uni (b :: r) = 0
    · rw [hu] at hn; cases hn
    · rw [beqF hu, cond_false] at hn
      have hle := uni_le (b :: r)
      have ha := uni_app x hu
      simp only [List.length_cons] at h hf hle
      obtain ⟨f', rfl⟩ : ∃ i, f' = i + 1 := ⟨f' - 1, by omega⟩
      obtain ⟨f'', h1, h2⟩ := utf_app x f ((b :: r).drop (Sp.uni (b :: r))) (j + Sp.uni (b :: r)) (by rw [List.length_drop, List.length_cons]; omega) hn f' (by rw [List.length_drop, List.length_cons]; omega)
      refine ⟨f'', h1, ?_⟩
      rw [List.cons_append] at ha ⊢
      rw [Sp.utfGo, ha, beqF hu, cond_false, ← List.cons_append, List.drop_append_of_le_length (by rw [List.length_cons]; omega), h2, List.length_drop, List.length_cons]
      congr 1; omega

theorem past_app (y : List UInt8) : ∀ (r : List UInt8) (c : Bool) (j : Nat), Sp.pastGo c r j = j + r.length → Sp.pastGo c (r ++ 10 :: y) j = Sp.pastGo false y (j + r.length + 1)
  | [], c, j, _ => by cases c <;> rfl
  | d :: r, true, j, h => by
    rw [Sp.pastGo, List.length_cons] at h
    rw [List.cons_append, Sp.pastGo, past_app y r _ (j + 1) (by omega), List.length_cons]
    congr 1; omega
  | d :: r, false, j, h => by
    rw [Sp.pastGo, List.length_cons] at h
    rw [List.cons_append, Sp.pastGo, List.length_cons]
    cases hb : Sp.blank (d.toNat : Int)
    · rw [hb, cond_false] at h
      cases hc : (decide ((d.toNat : Int) = 45) && Sp.hasPre (d :: r) [45, 45])
      · rw [hc, cond_false] at h; omega
      · rw [hc, cond_true] at h
        have hc' : (decide ((d.toNat : Int) = 45) && Sp.hasPre (d :: (r ++ 10 :: y)) [45, 45]) = true := by
          rw [Bool.and_eq_true] at hc ⊢
          refine ⟨hc.1, ?_⟩
          have hp := of_decide_eq_true hc.2
          cases r with
          | nil => simp at hp
          | cons e r => simp at hp; simp [Sp.hasPre, hp]
        rw [cond_false, hc', cond_true, past_app y r true (j + 1) (by omega)]
        congr 1; omega
    · rw [hb, cond_true] at h
      rw [cond_true, past_app y r false (j + 1) (by omega)]
      congr 1; omega

theorem past_same (y : List UInt8) : ∀ (r : List UInt8) (c : Bool) (j : Nat), Sp.pastGo c r j < j + r.length → Sp.pastGo c (r ++ 10 :: y) j = Sp.pastGo c r j
  | [], c, j, h => by cases c <;> simp [Sp.pastGo] at h
  | d :: r, true, j, h => by
    rw [Sp.pastGo, List.length_cons] at h
    rw [List.cons_append, Sp.pastGo, Sp.pastGo, past_same y r _ (j + 1) (by omega)]
  | d :: r, false, j, h => by
    rw [Sp.pastGo, List.length_cons] at h
    rw [List.cons_append, Sp.pastGo, Sp.pastGo]
    cases hb : Sp.blank (d.toNat : Int)
    · rw [hb, cond_false] at h
      rw [cond_false, cond_false]
      have hc' : Sp.hasPre (d :: (r ++ 10 :: y)) [45, 45] = Sp.hasPre (d :: r) [45, 45] := by
        cases r with
        | nil => simp [Sp.hasPre]
        | cons e r => simp [Sp.hasPre]
      rw [hc']
      cases hc : (decide ((d.toNat : Int) = 45) && Sp.hasPre (d :: r) [45, 45])
      · rfl
      · rw [hc, cond_true] at h
        rw [cond_true, cond_true, past_same y r true (j + 1) (by omega)]
    · rw [hb, cond_true] at h
      rw [cond_true, cond_true, past_same y r false (j + 1) (by omega)]

theorem nameGo_nl (y : List UInt8) : ∀ (r : List UInt8) (j : Nat), Sp.nameGo (r ++ 10 :: y) j = Sp.nameGo r j
  | [], j => by simp [Sp.nameGo, Sp.letter, Sp.digit]
  | b :: r, j => by rw [List.cons_append, Sp.nameGo, Sp.nameGo, nameGo_nl y r (j + 1)]

theorem one_nl (y : List UInt8) (x : List UInt8) (hx : x ≠ []) : Sp.one (x ++ 10 :: y) = Sp.one x := by
  have hn : Sp.nameLen (x ++ 10 :: y) = Sp.nameLen x := nameGo_nl y x 0
  unfold Sp.one
  rw [hn]
  have hle := nameLen_le x
  cases decide (0 < Sp.nameLen x)
  · rw [cond_false, cond_false]
    cases x with
    | nil => exact absurd rfl hx
    | cons b x =>
      cases x with
      | nil =>
        have h2 : ∀ p q : UInt8, (p, q) ∈ [((45 : UInt8), (62 : UInt8)), (47, 92), (92, 47)] → Sp.hasPre ([b] ++ 10 :: y) [p, q] = Sp.hasPre [b] [p, q] := by
          intro p q h
          have hq : ¬ (10 : UInt8) = q := by
            simp only [List.mem_cons, Prod.mk.injEq, List.not_mem_nil, or_false] at h
            rcases h with h | h | h <;> rw [h.2] <;> decide
          simp [Sp.hasPre, hq]
        have h1 : ∀ p : UInt8, Sp.hasPre ([b] ++ 10 :: y) [p] = Sp.hasPre [b] [p] := fun p => by simp [Sp.hasPre]
        simp only [signs_ones, Sp.ones, List.map_cons, List.map_nil, Sp.signGo, h1, h2 45 62 (by simp), h2 47 92 (by simp), h2 92 47 (by simp)]
      | cons c x =>
        have h2 : ∀ p q : UInt8, Sp.hasPre (b :: c :: x ++ 10 :: y) [p, q] = Sp.hasPre (b :: c :: x) [p, q] := fun p q => by simp [Sp.hasPre]
        have h1 : ∀ p : UInt8, Sp.hasPre (b :: c :: x ++ 10 :: y) [p] = Sp.hasPre (b :: c :: x) [p] := fun p => by simp [Sp.hasPre]
        simp only [signs_ones, Sp.ones, List.map_cons, List.map_nil, Sp.signGo, h1, h2]
  · rw [cond_true, cond_true, List.take_append_of_le_length hle]

/-- The tokens of a text stand in the longer one, up to its end. -/
theorem cov_ext {s : List UInt8} (y : List UInt8) {e : Nat} {l : List D} (h : Cov s e l) : ∀ (f : Nat) (acc : List D), s.length + 1 < f + e →
    ∃ f' acc', 1 ≤ f' ∧ Sp.toks (f + y.length) (s ++ 10 :: y) (Sp.past (s ++ 10 :: y) e) acc = Sp.toks (f' + y.length) (s ++ 10 :: y) (Sp.pastGo false y (s.length + 1)) acc' := by
  induction h with
  | @fin e he hp =>
    intro f acc hf
    refine ⟨f, acc, by omega, ?_⟩
    have hp' : Sp.pastGo false (s.drop e) e = e + (s.drop e).length := by rw [List.length_drop]; unfold Sp.past at hp; omega
    have h2 := past_app y (s.drop e) false e hp'
    rw [show e + (s.drop e).length + 1 = s.length + 1 by rw [List.length_drop]; omega] at h2
    rw [Sp.past, List.drop_append_of_le_length he, h2]
  | @tok e j k t rest he hp hlt ho hne hr ih =>
    intro f acc hf
    have hb := past_bounds he
    have hle := one_le (s.drop j)
    rw [List.length_drop, ho] at hle
    have hle' : t.length ≤ s.length - j := hle
    have hpos : 0 < t.length := List.length_pos_iff.2 hne
    have hp' : Sp.past (s ++ 10 :: y) e = j := by
      rw [Sp.past, List.drop_append_of_le_length he, past_same y (s.drop e) false e (by rw [List.length_drop]; unfold Sp.past at hp; omega)]
      exact hp
    have ho' : Sp.one ((s ++ 10 :: y).drop j) = (k, t) := by
      rw [List.drop_append_of_le_length (by omega), one_nl y (s.drop j) (by intro h; have := congrArg List.length h; simp at this; omega), ho]
    obtain ⟨f, rfl⟩ : ∃ i, f = i + 1 := ⟨f - 1, by omega⟩
    obtain ⟨f', acc', h1, h2⟩ := ih f (acc ++ [tokD k t (j : Int)]) (by omega)
    refine ⟨f', acc', h1, ?_⟩
    rw [hp', show f + 1 + y.length = (f + y.length) + 1 by omega, Sp.toks, decide_eq_true (by rw [List.length_append]; omega), cond_true, ho']
    simp only []
    rw [decide_eq_false hne, cond_false]
    exact h2

def tab : List Int := [40, 41, 91, 93, 44, 46, 58, 59, 61, 92, 60, 62, 64, 126, 42, 32, 9, 10, 13]
def tabD : List D := [D.int IntKind.u8 (40 : Int), D.int IntKind.u8 (41 : Int), D.int IntKind.u8 (91 : Int), D.int IntKind.u8 (93 : Int), D.int IntKind.u8 (44 : Int), D.int IntKind.u8 (46 : Int), D.int IntKind.u8 (58 : Int), D.int IntKind.u8 (59 : Int), D.int IntKind.u8 (61 : Int), D.int IntKind.u8 (92 : Int), D.int IntKind.u8 (60 : Int), D.int IntKind.u8 (62 : Int), D.int IntKind.u8 (64 : Int), D.int IntKind.u8 (126 : Int), D.int IntKind.u8 (42 : Int), D.int IntKind.u8 (32 : Int), D.int IntKind.u8 (9 : Int), D.int IntKind.u8 (10 : Int), D.int IntKind.u8 (13 : Int)]

def known (c : Int) : Bool := (decide (c = 95) || (decide (97 ≤ c) && decide (c ≤ 122)) || (decide (65 ≤ c) && decide (c ≤ 90)) || decide (c = 48) || decide (c = 49)) || tab.any fun d => decide (d = c)

/-- What a last byte does. -/
theorem known_at : ∀ n : Fin 128, (Sp.blank (n.val : Int) || (! decide ((Sp.one [UInt8.ofNat n.val]).2 = []))) = known (n.val : Int) := by decide +kernel

theorem one_len {b : UInt8} (h : (Sp.one [b]).2 ≠ []) : (Sp.one [b]).2.length = 1 := by
  have h1 := one_le [b]
  have h2 := List.length_pos_iff.2 h
  simp at h1; omega

/-- The longer text's tokens, or that it has none. -/
theorem scan_more {s : List UInt8} (hs : s.length < 65535) (hu : Sp.utfGo s.length s 0 = none) {l : List D} (hc : Cov s 0 l) {c : Int} (h0 : 0 ≤ c) (h1 : c < 256) :
    (128 ≤ c → (Sp.scan (s ++ [10] ++ [UInt8.ofNat c.toNat])).2 = ((s.length : Int) + 1, 60)) ∧
    (c < 128 → (Sp.scan (s ++ [10] ++ [UInt8.ofNat c.toNat])).2 = if known c then (0, 0) else ((s.length : Int) + 1, 61)) := by
  have hb : (UInt8.ofNat c.toNat).toNat = c.toNat := by simp; omega
  obtain ⟨b, hbe⟩ : ∃ b, UInt8.ofNat c.toNat = b := ⟨_, rfl⟩
  rw [hbe] at hb ⊢
  have hs' : s ++ [10] ++ [b] = s ++ 10 :: [b] := by simp
  rw [hs']
  have hlen : (s ++ 10 :: [b]).length = s.length + 2 := by simp
  obtain ⟨f, hf, hg⟩ := utf_app (10 :: [b]) s.length s 0 (Nat.le_refl _) hu (s.length + 2) (by simp)
  have hf' : 2 ≤ f := hf
  obtain ⟨f, rfl⟩ : ∃ i, f = i + 2 := ⟨f - 2, by omega⟩
  rw [Nat.zero_add] at hg
  have u10 : ∀ x, Sp.uni (10 :: x) = 1 := fun x => rfl
  unfold Sp.scan
  rw [hlen, decide_eq_false (by omega), cond_false, hg]
  have hstep : Sp.utfGo (f + 2) (10 :: [b]) s.length = Sp.utfGo (f + 1) [b] (s.length + 1) := by rw [Sp.utfGo, u10]; rfl
  rw [hstep]
  constructor
  · intro h128
    have hub : Sp.uni [b] = 0 := by
      simp only [Sp.uni, decide_eq_false (p := b.toNat < 128) (by omega), cond_false]
      cases (decide (194 ≤ b.toNat) && decide (b.toNat ≤ 223)) <;> cases (decide (224 ≤ b.toNat) && decide (b.toNat ≤ 239)) <;> cases (decide (240 ≤ b.toNat) && decide (b.toNat ≤ 244)) <;> rfl
    rw [Sp.utfGo, hub]; rfl
  · intro h128
    have hub : Sp.uni [b] = 1 := by simp only [Sp.uni, decide_eq_true (p := b.toNat < 128) (by omega), cond_true]
    have hn : Sp.utfGo (f + 1) [b] (s.length + 1) = none := by rw [Sp.utfGo, hub]; cases f <;> rfl
    rw [hn]
    have hk := known_at ⟨c.toNat, by omega⟩
    simp only [hbe, show ((c.toNat : Nat) : Int) = c by omega] at hk
    have hbc : (b.toNat : Int) = c := by omega
    obtain ⟨f', acc', g1, g2⟩ := cov_ext [b] hc (s.length + 2) [] (by omega)
    have g2' : Sp.toks (s.length + 2 + 1) (s ++ 10 :: [b]) (Sp.past (s ++ 10 :: [b]) 0) [] = Sp.toks (f' + 1) (s ++ 10 :: [b]) (Sp.pastGo false [b] (s.length + 1)) acc' := g2
    simp only [g2']
    rw [← hk, Sp.pastGo, hbc]
    cases hbl : Sp.blank c
    · have hh : Sp.hasPre [b] [45, 45] = false := by simp [Sp.hasPre]
      rw [cond_false, hh, Bool.and_false, cond_false, Bool.false_or, Sp.toks, decide_eq_true (p := s.length + 1 < _) (by rw [hlen]; omega), cond_true]
      have hdr : (s ++ 10 :: [b]).drop (s.length + 1) = [b] := by
        rw [← List.drop_drop, List.drop_left]; rfl
      rw [hdr]
      by_cases ho : (Sp.one [b]).2 = []
      · rw [decide_eq_true ho, cond_true]; rfl
      · rw [decide_eq_false ho, cond_false, one_len ho]
        have hp : Sp.past (s ++ 10 :: [b]) (s.length + 1 + 1) = s.length + 2 := by
          have : (s ++ 10 :: [b]).drop (s.length + 1 + 1) = [] := List.drop_eq_nil_of_le (by rw [hlen]; omega)
          unfold Sp.past; rw [this]; rfl
        obtain ⟨f', rfl⟩ : ∃ i, f' = i + 1 := ⟨f' - 1, by omega⟩
        rw [hp, Sp.toks, decide_eq_false (p := s.length + 2 < _) (by rw [hlen]; omega)]
        rfl
    · rw [cond_true, Sp.pastGo, Sp.toks, decide_eq_false (p := s.length + 1 + 1 < _) (by rw [hlen]; omega)]
      rfl

noncomputable abbrev L6 (n k : Nat) (s : List UInt8) (c x y i : Int) (kn : Bool) : Option (Out × St) :=
  LP cx S4 n 6 0 11 k [(0, .d (.str s)), (1, .d (.int .u8 c)), (9, .d (.int .i64 x)), (10, .d (.int .i64 y)), (11, .d (.bool kn)), (83, .sl 1 tabD 82), (84, .d (.int .i64 19)), (85, .d (.int .i64 i))] [(82, .tok 19)] (AK cx S4 n 6 0 11 (EK cx 6 0))

theorem known_loop {s : List UInt8} (n : Nat) {c x y : Int} : ∀ (r : List Int) (i k : Nat) (kn : Bool), tab.drop i = r → i ≤ 19 → r.length < k →
    L6 n k s c x y (i : Int) kn = (bif decide (decide (y = (0 : Int)) = (kn || r.any fun d => decide (d = c))) then
      bif (kn || r.any fun d => decide (d = c)) then some (Out.ret (V.d (D.bool true)), [])
      else
        bif decide (y = (61 : Int)) then
          some (Out.ret (V.d (D.bool (decide (x = IntKind.i64.wrap ((↑s.length : Int) + (1 : Int)))))), [])
        else some (Out.ret (V.d (D.bool false)), [])
    else some (Out.ret (V.d (D.bool false)), []))
  | _, _, 0, _, _, _, hk => by omega
  | [], i, k + 1, kn, hr, hi, _ => by
    have h1 : (19 : Nat) ≤ i := List.drop_eq_nil_iff.1 hr
    unfold L6 tabD
    rw [l6, decide_eq_false (p := (i : Int) < 19) (by omega), cond_false]
    simp only [List.any_nil, Bool.or_false]
  | d :: r, i, k + 1, kn, hr, hi, hk => by
    have hlt : i < tab.length := by
      rcases Nat.lt_or_ge i tab.length with h | h
      · exact h
      · rw [List.drop_eq_nil_of_le h] at hr; cases hr
    have hlt' : i < 19 := hlt
    have hd : tab[i]? = some d := by rw [List.drop_eq_getElem_cons hlt] at hr; rw [List.getElem?_eq_getElem hlt]; cases hr; rfl
    have hr' : tab.drop (i + 1) = r := by rw [List.drop_eq_getElem_cons hlt] at hr; cases hr; rfl
    have hD : tabD[i]? = some (.int .u8 d) := by
      have : tabD = tab.map (D.int .u8) := rfl
      rw [this, List.getElem?_map, hd]; rfl
    have ih := fun kn => known_loop (s := s) n (c := c) (x := x) (y := y) r (i + 1) k kn hr' hlt' (by simpa using hk)
    unfold L6 tabD at ih ⊢
    unfold tabD at hD
    have h := o6 n k s c x y (i : Int) d kn
    simp only [decide_eq_true (p := (i : Int) < 19) (by omega)] at h
    rw [l6]
    simp only [decide_eq_true (p := (i : Int) < 19) (by omega), decide_eq_true (p := (0 : Int) ≤ (i : Int)) (by omega), cond_true, Bool.and_self, must, Int.toNat_natCast, nthD_at hD]
    rw [decide_eq_true (by simp; omega), Bool.and_true, cond_true, h, wrap1 (by omega), ih, ih, List.any_cons]
    cases kn
    · rw [cond_false, Bool.false_or]
    · simp only [cond_true, Bool.true_or]

theorem pure_lexBytes (s : List UInt8) (c : Int) (h : s.length ≤ 1048576) (wc : (Lit.int .u8 c).wf = true) : ∃ n, evFun cx n 6 [.d (.str s), .d (.int .u8 c)] [] = some (.ret (.d (.bool true)), []) := by
  have hw : (0 : Int) ≤ c ∧ c ≤ 255 := by
    simp only [Lit.wf, Bool.and_eq_true, decide_eq_true_eq] at wc
    exact wc
  refine lim_ex (lim_body (N := 20) S4_knows ?_)
  rw [b6, decide_eq_true (p := s.length ≤ big) (by simp [big]; omega)]
  rcases scan_says s with ⟨h1, hu, l, h2, h3⟩ | ⟨h1, h2, p, h3, h4⟩
  · rw [h2]
    have hne := h3.ne
    simp only [must, cond_true, decide_true, Bool.not_true, cond_false, decide_eq_false (p := (l.length : Int) = 0) (by omega)]
    by_cases hbig : 65535 ≤ s.length
    · rw [decide_eq_true (by omega), cond_true]
    · obtain ⟨a1, a2⟩ := scan_more (by omega) hu h3 hw.1 (by omega : c < 256)
      have q1 : decide (s.length + [10].length ≤ 4611686018427387904) = true := decide_eq_true (by simp; omega)
      have q2 : decide ((s ++ [(10 : UInt8)]).length + [UInt8.ofNat c.toNat].length ≤ 4611686018427387904) = true := decide_eq_true (by simp; omega)
      have q3 : decide ((s ++ [(10 : UInt8)] ++ [UInt8.ofNat c.toNat]).length ≤ big) = true := decide_eq_true (by simp [big]; omega)
      rw [decide_eq_false (by omega), cond_false, q1, q2, q3]
      simp only [cond_true]
      by_cases h128 : 128 ≤ c
      · rw [a1 h128, decide_eq_true h128]
        simp only [cond_true, decide_true]
        rw [wrap1 (by omega)]; simp
      · have ha := a2 (by omega)
        rw [decide_eq_false h128, cond_false]
        have key : ∀ kn, (kn || tab.any fun d => decide (d = c)) = known c → L6 20 20 s c (Sp.scan (s ++ [10] ++ [UInt8.ofNat c.toNat])).2.1 (Sp.scan (s ++ [10] ++ [UInt8.ofNat c.toNat])).2.2 0 kn = some (.ret (.d (.bool true)), []) := by
          intro kn hkn
          have := known_loop (s := s) 20 (c := c) (x := (Sp.scan (s ++ [10] ++ [UInt8.ofNat c.toNat])).2.1) (y := (Sp.scan (s ++ [10] ++ [UInt8.ofNat c.toNat])).2.2) tab 0 20 kn rfl (by omega) (by decide)
          rw [hkn] at this
          refine this.trans ?_
          rw [ha]
          cases known c
          · simp only [Bool.false_eq_true, if_false]
            rw [wrap1 (by omega)]; simp
          · simp
        by_cases k1 : c = 95
        · rw [decide_eq_true k1, cond_true]; exact key true (by simp [known, k1])
        · rw [decide_eq_false k1, cond_false]
          by_cases k2 : 97 ≤ c
          · rw [decide_eq_true k2, cond_true]
            by_cases k3 : c ≤ 122
            · rw [decide_eq_true k3, cond_true]; exact key true (by simp [known, k2, k3])
            · rw [decide_eq_false k3, cond_false]
              by_cases k4 : 65 ≤ c
              · rw [decide_eq_true k4, cond_true, decide_eq_false (p := c ≤ 90) (by omega), cond_false, decide_eq_false (p := c = 48) (by omega), cond_false]
                exact key _ (by simp [known, k1, k3, show ¬ c ≤ 90 by omega, show ¬ c = 48 by omega])
              · omega
          · rw [decide_eq_false k2, cond_false]
            by_cases k4 : 65 ≤ c
            · rw [decide_eq_true k4, cond_true]
              by_cases k5 : c ≤ 90
              · rw [decide_eq_true k5, cond_true]; exact key true (by simp [known, k4, k5])
              · rw [decide_eq_false k5, cond_false, decide_eq_false (p := c = 48) (by omega), cond_false]
                exact key _ (by simp [known, k1, k2, k5, show ¬ c = 48 by omega])
            · rw [decide_eq_false k4, cond_false]
              by_cases k6 : c = 48
              · rw [decide_eq_true k6, cond_true]; exact key true (by simp [known, k6])
              · rw [decide_eq_false k6, cond_false]
                exact key _ (by simp [known, k1, k2, k4, k6])
  · rw [decide_eq_false h1]; rfl

end Go.Vai
end

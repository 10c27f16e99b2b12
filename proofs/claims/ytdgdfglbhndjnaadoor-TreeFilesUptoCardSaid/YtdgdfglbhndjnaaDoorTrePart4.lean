/-
  Tree: what the three laws ask.
  Tree: what reading answers, whatever is read: it ends, and each part of a tree begins at a token.
  Tree: the same tokens at other places, or at some other level, are read alike.
  Tree: the same tokens at other places, or at some other level, are read alike: all functions.
  Tree: the tokens of texts that are put together.
  Tree: a text's tokens as a reader has them; what a text is as a term; the law of places.
  Tree: texts in brackets, in declarations, behind one another: their tokens.
  Tree: the law of brackets.
  Tree: the law of brackets, pure.
  Tree: declarations one behind the other.
-/
import Derived.Test.YtdgdfglbhndjnaaDoorTrePart3

set_option linter.all false
set_option linter.unusedSimpArgs false
set_option linter.unusedVariables false

section
namespace Go.Vai
open Go.Proofs

def dec9 : List V → St → Option Unit | [], [] => some () | _, _ => none
def go9 (K : Out → St → Option R1) (_ : Unit) : Option R1 := K (.ret (.d (.bool true))) []
theorem go9_ok (K : Out → St → Option R1) (q : Unit) : go9 K q = optP (go9 (fun o s => some (o, s)) q) K := rfl
def decStr : List V → St → Option (List UInt8) | [.d (.str s)], [] => some s | _, _ => none

def Sp.okT : TR → Bool | .ok _ => true | _ => false
def Sp.tOf : TR → Tr | .ok t => t | _ => default
def Sp.aT : TR → Int | .bad a _ => a | _ => 0
def Sp.eT : TR → Int | .bad _ e => e | _ => 0
def Sp.okU : TL → Bool | .ok _ => true | _ => false
def Sp.lOf : TL → List D | .ok t => t | _ => []
def Sp.aU : TL → Int | .bad a _ => a | _ => 0
def Sp.eU : TL → Int | .bad _ e => e | _ => 0
def go10 (k : List UInt8 → Nat) (K : Out → St → Option R1) (s : List UInt8) : Option R1 := must (decide (s.length ≤ big)) <| optK (Sp.termOf (k s) s) fun r =>
  bif Sp.okT r then K (.ret (.tup [.d (trD (Sp.tOf r)), .d (.int .i64 0), .d (.int .i64 0)])) []
  else must (!decide (Sp.eT r = 0)) (K (.ret (.tup [.d (trD ⟨0, [], [], [], 0⟩), .d (.int .i64 (Sp.aT r)), .d (.int .i64 (Sp.eT r))])) [])
theorem go10_ok (k : List UInt8 → Nat) (K : Out → St → Option R1) (q : List UInt8) : go10 k K q = optP (go10 k (fun o s => some (o, s)) q) K := by
  simp only [go10, must, optP_cond, optP_optK]
  rfl
def go11 (k : List UInt8 → Nat) (K : Out → St → Option R1) (s : List UInt8) : Option R1 := must (decide (s.length ≤ big)) <| optK (Sp.parseOf (k s) s) fun r =>
  bif Sp.okU r then K (.ret (.tup [.d (.sl 5 (Sp.lOf r)), .d (.int .i64 0), .d (.int .i64 0)])) []
  else must (!decide (Sp.eU r = 0)) (K (.ret (.tup [.d (.sl 5 []), .d (.int .i64 (Sp.aU r)), .d (.int .i64 (Sp.eU r))])) [])
theorem go11_ok (k : List UInt8 → Nat) (K : Out → St → Option R1) (q : List UInt8) : go11 k K q = optP (go11 k (fun o s => some (o, s)) q) K := by
  simp only [go11, must, optP_cond, optP_optK]
  rfl
def dec15 : List V → St → Option (List D × List D × Bool)
  | [.d (.sl 5 x), .d (.sl 5 y), .d (.bool w)], [] => some (x, y, w)
  | _, _ => none
def Sp.listT (n : Nat) (w : Bool) (a b : List D) : Bool := Sp.all2 (Sp.sameT n w) a b && Sp.short a
def go15 (n : Nat) (K : Out → St → Option R1) : List D × List D × Bool → Option R1
  | (x, y, w) => must (Sp.listT n w x y) (K (.ret (.d (.bool true))) [])
theorem go15_ok (n : Nat) (K : Out → St → Option R1) (q : List D × List D × Bool) : go15 n K q = optP (go15 n (fun o s => some (o, s)) q) K := by
  obtain ⟨x, y, w⟩ := q
  simp only [go15, must, optP_cond]
  rfl
noncomputable def T3c (k : List UInt8 → Nat) (n : Nat) : CK R1 := more 9 dec9 go9 go9_ok (more 10 decStr (go10 k) (go10_ok k) (more 11 decStr (go11 k) (go11_ok k) (more 12 dec12 (go12 n) (go12_ok n) (more 15 dec15 (go15 n) (go15_ok n) (more 14 dec14 (go14 n) (go14_ok n) (more 13 dec13 go13 go13_ok (CK.plain none1)))))))

theorem g3 (n m : Nat) (k : List UInt8 → Nat) (s : List UInt8) :
    evBody cx (T3c k m) n 3 [.d (.str s)] [] =
  must (decide (s.length ≤ big))
    (must (decide (s.length ≤ big))
      (optK (Sp.termOf (k s) s) fun r =>
        bif Sp.okT r then
          bif decide ((60000 : Int) < (↑s.length : Int)) then some (Out.ret (V.d (D.bool true)), [])
          else
            must (decide ([40].length + s.length ≤ 4611686018427387904))
              (must (decide ((40 :: s).length + [10, 41].length ≤ 4611686018427387904))
                (must
                  (decide
                    ((40 ::
                          (s ++ [10, 41])).length ≤
                      big))
                  (must
                    (decide
                      ((40 ::
                            (s ++ [10, 41])).length ≤
                        big))
                    (optK
                      (Sp.termOf
                        (k
                          (40 ::
                            (s ++ [10, 41])))
                        (40 ::
                          (s ++ [10, 41])))
                      fun r_1 =>
                      bif Sp.okT r_1 then
                        must (decide ([120, 32, 58, 32].length + s.length ≤ 4611686018427387904))
                          (must
                            (decide
                              ((120 :: 32 :: 58 :: 32 :: s).length + [10, 61, 32, 85, 59].length ≤ 4611686018427387904))
                            (must
                              (decide
                                ((120 ::
                                      32 ::
                                        58 ::
                                          32 ::
                                            (s ++ [10, 61, 32, 85, 59])).length ≤
                                  big))
                              (must
                                (decide
                                  ((120 ::
                                        32 ::
                                          58 ::
                                            32 ::
                                              (s ++ [10, 61, 32, 85, 59])).length ≤
                                    big))
                                (optK
                                  (Sp.parseOf
                                    (k
                                      (120 ::
                                        32 ::
                                          58 ::
                                            32 ::
                                              (s ++ [10, 61, 32, 85, 59])))
                                    (120 ::
                                      32 ::
                                        58 ::
                                          32 ::
                                            (s ++ [10, 61, 32, 85, 59])))
                                  fun r_2 =>
                                  bif Sp.okU r_2 then
                                    must
                                      (Sp.sameT m false
                                        (D.agg
                                          [D.int IntKind.i64 (Sp.tOf r).k, D.str (Sp.tOf r).2, D.sl 5 (Sp.tOf r).3,
                                            D.sl 1 (Sp.tOf r).4, D.int IntKind.i64 (Sp.tOf r).pl])
                                        (D.agg
                                          [D.int IntKind.i64 (Sp.tOf r_1).k, D.str (Sp.tOf r_1).2,
                                            D.sl 5 (Sp.tOf r_1).3, D.sl 1 (Sp.tOf r_1).4,
                                            D.int IntKind.i64 (Sp.tOf r_1).pl]))
                                      (bif decide ((↑(Sp.lOf r_2).length : Int) = (1 : Int)) then
                                        must (decide ((0 : Int) < (↑(Sp.lOf r_2).length : Int)))
                                          (nthD (Sp.lOf r_2) (0 : Int).toNat fun y =>
                                            nthD y.cells 2 fun c =>
                                              match c with
                                              | D.sl s l =>
                                                bif s.beq (cx.P.cellsOf 26) || l.isEmpty then
                                                  bif decide ((↑l.length : Int) = (2 : Int)) then
                                                    must (decide ((0 : Int) < (↑(Sp.lOf r_2).length : Int)))
                                                      (nthD (Sp.lOf r_2) (0 : Int).toNat fun y =>
                                                        nthD y.cells 2 fun c =>
                                                          match c with
                                                          | D.sl s l =>
                                                            bif s.beq (cx.P.cellsOf 26) || l.isEmpty then
                                                              must (decide ((0 : Int) < (↑l.length : Int)))
                                                                (nthD l (0 : Int).toNat fun y =>
                                                                  bif y.cells.length.beq (cx.P.cellsOf 26) then
                                                                    asAgg y (cx.P.cellsOf 26) fun y =>
                                                                      must
                                                                        (Sp.sameT m false y
                                                                          (D.agg
                                                                            [D.int IntKind.i64 (Sp.tOf r).k,
                                                                              D.str (Sp.tOf r).2, D.sl 5 (Sp.tOf r).3,
                                                                              D.sl 1 (Sp.tOf r).4,
                                                                              D.int IntKind.i64 (Sp.tOf r).pl]))
                                                                        (some (Out.ret (V.d (D.bool true)), []))
                                                                  else
                                                                    must ((0 + cx.P.cellsOf 26).ble y.cells.length)
                                                                      (must
                                                                        (Sp.sameT m false
                                                                          (D.agg
                                                                            (List.take (cx.P.cellsOf 26)
                                                                              (List.drop 0 y.cells)))
                                                                          (D.agg
                                                                            [D.int IntKind.i64 (Sp.tOf r).k,
                                                                              D.str (Sp.tOf r).2, D.sl 5 (Sp.tOf r).3,
                                                                              D.sl 1 (Sp.tOf r).4,
                                                                              D.int IntKind.i64 (Sp.tOf r).pl]))
                                                                        (some (Out.ret (V.d (D.bool true)), []))))
                                                            else none
                                                          | x => none)
                                                  else some (Out.ret (V.d (D.bool false)), [])
                                                else none
                                              | x => none)
                                      else some (Out.ret (V.d (D.bool false)), []))
                                  else
                                    must (!decide (Sp.eU r_2 = 0))
                                      (must
                                        (Sp.sameT m false
                                          (D.agg
                                            [D.int IntKind.i64 (Sp.tOf r).k, D.str (Sp.tOf r).2, D.sl 5 (Sp.tOf r).3,
                                              D.sl 1 (Sp.tOf r).4, D.int IntKind.i64 (Sp.tOf r).pl])
                                          (D.agg
                                            [D.int IntKind.i64 (Sp.tOf r_1).k, D.str (Sp.tOf r_1).2,
                                              D.sl 5 (Sp.tOf r_1).3, D.sl 1 (Sp.tOf r_1).4,
                                              D.int IntKind.i64 (Sp.tOf r_1).pl]))
                                        (bif decide (Sp.eU r_2 = (0 : Int)) then
                                          some (Out.ret (V.d (D.bool false)), [])
                                        else some (Out.ret (V.d (D.bool false)), [])))))))
                      else
                        must (!decide (Sp.eT r_1 = 0))
                          (bif decide (Sp.eT r_1 = (62 : Int)) then some (Out.ret (V.d (D.bool true)), [])
                          else
                            must (decide ([120, 32, 58, 32].length + s.length ≤ 4611686018427387904))
                              (must
                                (decide
                                  ((120 :: 32 :: 58 :: 32 :: s).length + [10, 61, 32, 85, 59].length ≤
                                    4611686018427387904))
                                (must
                                  (decide
                                    ((120 ::
                                          32 ::
                                            58 ::
                                              32 ::
                                                (s ++ [10, 61, 32, 85, 59])).length ≤
                                      big))
                                  (must
                                    (decide
                                      ((120 ::
                                            32 ::
                                              58 ::
                                                32 ::
                                                  (s ++ [10, 61, 32, 85, 59])).length ≤
                                        big))
                                    (optK
                                      (Sp.parseOf
                                        (k
                                          (120 ::
                                            32 ::
                                              58 ::
                                                32 ::
                                                  (s ++ [10, 61, 32, 85, 59])))
                                        (120 ::
                                          32 ::
                                            58 ::
                                              32 ::
                                                (s ++ [10, 61, 32, 85, 59])))
                                      fun r_2 =>
                                      bif Sp.okU r_2 then
                                        bif decide (Sp.eT r_1 = (0 : Int)) then
                                          must
                                            (Sp.sameT m false
                                              (D.agg
                                                [D.int IntKind.i64 (Sp.tOf r).k, D.str (Sp.tOf r).2,
                                                  D.sl 5 (Sp.tOf r).3, D.sl 1 (Sp.tOf r).4,
                                                  D.int IntKind.i64 (Sp.tOf r).pl])
                                              (D.agg
                                                [D.int IntKind.i64 (0 : Int), D.str [], D.sl 5 [], D.sl 1 [],
                                                  D.int IntKind.i64 (0 : Int)]))
                                            (bif decide ((↑(Sp.lOf r_2).length : Int) = (1 : Int)) then
                                              must (decide ((0 : Int) < (↑(Sp.lOf r_2).length : Int)))
                                                (nthD (Sp.lOf r_2) (0 : Int).toNat fun y =>
                                                  nthD y.cells 2 fun c =>
                                                    match c with
                                                    | D.sl s l =>
                                                      bif s.beq (cx.P.cellsOf 26) || l.isEmpty then
                                                        bif decide ((↑l.length : Int) = (2 : Int)) then
                                                          must (decide ((0 : Int) < (↑(Sp.lOf r_2).length : Int)))
                                                            (nthD (Sp.lOf r_2) (0 : Int).toNat fun y =>
                                                              nthD y.cells 2 fun c =>
                                                                match c with
                                                                | D.sl s l =>
                                                                  bif s.beq (cx.P.cellsOf 26) || l.isEmpty then
                                                                    must (decide ((0 : Int) < (↑l.length : Int)))
                                                                      (nthD l (0 : Int).toNat fun y =>
                                                                        bif y.cells.length.beq (cx.P.cellsOf 26) then
                                                                          asAgg y (cx.P.cellsOf 26) fun y =>
                                                                            must
                                                                              (Sp.sameT m false y
                                                                                (D.agg
                                                                                  [D.int IntKind.i64 (Sp.tOf r).k,
                                                                                    D.str (Sp.tOf r).2,
                                                                                    D.sl 5 (Sp.tOf r).3,
                                                                                    D.sl 1 (Sp.tOf r).4,
                                                                                    D.int IntKind.i64 (Sp.tOf r).pl]))
                                                                              (some (Out.ret (V.d (D.bool true)), []))
                                                                        else
                                                                          must
                                                                            ((0 + cx.P.cellsOf 26).ble y.cells.length)
                                                                            (must
                                                                              (Sp.sameT m false
                                                                                (D.agg
                                                                                  (List.take (cx.P.cellsOf 26)
                                                                                    (List.drop 0 y.cells)))
                                                                                (D.agg
                                                                                  [D.int IntKind.i64 (Sp.tOf r).k,
                                                                                    D.str (Sp.tOf r).2,
                                                                                    D.sl 5 (Sp.tOf r).3,
                                                                                    D.sl 1 (Sp.tOf r).4,
                                                                                    D.int IntKind.i64 (Sp.tOf r).pl]))
                                                                              (some (Out.ret (V.d (D.bool true)), []))))
                                                                  else none
                                                                | x => none)
                                                        else some (Out.ret (V.d (D.bool false)), [])
                                                      else none
                                                    | x => none)
                                            else some (Out.ret (V.d (D.bool false)), []))
                                        else some (Out.ret (V.d (D.bool false)), [])
                                      else
                                        must (!decide (Sp.eU r_2 = 0))
                                          (bif decide (Sp.eT r_1 = (0 : Int)) then
                                            must
                                              (Sp.sameT m false
                                                (D.agg
                                                  [D.int IntKind.i64 (Sp.tOf r).k, D.str (Sp.tOf r).2,
                                                    D.sl 5 (Sp.tOf r).3, D.sl 1 (Sp.tOf r).4,
                                                    D.int IntKind.i64 (Sp.tOf r).pl])
                                                (D.agg
                                                  [D.int IntKind.i64 (0 : Int), D.str [], D.sl 5 [], D.sl 1 [],
                                                    D.int IntKind.i64 (0 : Int)]))
                                              (bif decide (Sp.eU r_2 = (0 : Int)) then
                                                some (Out.ret (V.d (D.bool false)), [])
                                              else some (Out.ret (V.d (D.bool false)), []))
                                          else some (Out.ret (V.d (D.bool false)), [])))))))))))
        else
          must (!decide (Sp.eT r = 0))
            (bif decide ((60000 : Int) < (↑s.length : Int)) then some (Out.ret (V.d (D.bool true)), [])
            else
              must (decide ([40].length + s.length ≤ 4611686018427387904))
                (must (decide ((40 :: s).length + [10, 41].length ≤ 4611686018427387904))
                  (must
                    (decide
                      ((40 ::
                            (s ++ [10, 41])).length ≤
                        big))
                    (must
                      (decide
                        ((40 ::
                              (s ++ [10, 41])).length ≤
                          big))
                      (optK
                        (Sp.termOf
                          (k
                            (40 ::
                              (s ++ [10, 41])))
                          (40 ::
                            (s ++ [10, 41])))
                        fun r_1 =>
                        bif Sp.okT r_1 then
                          bif !decide (Sp.eT r = (0 : Int)) then
                            bif decide ((0 : Int) ≤ Sp.aT r) then
                              bif !decide (Sp.eT r = (60 : Int)) then some (Out.ret (V.d (D.bool true)), [])
                              else some (Out.ret (V.d (D.bool false)), [])
                            else some (Out.ret (V.d (D.bool false)), [])
                          else
                            must (decide ([120, 32, 58, 32].length + s.length ≤ 4611686018427387904))
                              (must
                                (decide
                                  ((120 :: 32 :: 58 :: 32 :: s).length + [10, 61, 32, 85, 59].length ≤
                                    4611686018427387904))
                                (must
                                  (decide
                                    ((120 ::
                                          32 ::
                                            58 ::
                                              32 ::
                                                (s ++ [10, 61, 32, 85, 59])).length ≤
                                      big))
                                  (must
                                    (decide
                                      ((120 ::
                                            32 ::
                                              58 ::
                                                32 ::
                                                  (s ++ [10, 61, 32, 85, 59])).length ≤
                                        big))
                                    (optK
                                      (Sp.parseOf
                                        (k
                                          (120 ::
                                            32 ::
                                              58 ::
                                                32 ::
                                                  (s ++ [10, 61, 32, 85, 59])))
                                        (120 ::
                                          32 ::
                                            58 ::
                                              32 ::
                                                (s ++ [10, 61, 32, 85, 59])))
                                      fun r =>
                                      bif Sp.okU r then
                                        must
                                          (Sp.sameT m false
                                            (D.agg
                                              [D.int IntKind.i64 (0 : Int), D.str [], D.sl 5 [], D.sl 1 [],
                                                D.int IntKind.i64 (0 : Int)])
                                            (D.agg
                                              [D.int IntKind.i64 (Sp.tOf r_1).k, D.str (Sp.tOf r_1).2,
                                                D.sl 5 (Sp.tOf r_1).3, D.sl 1 (Sp.tOf r_1).4,
                                                D.int IntKind.i64 (Sp.tOf r_1).pl]))
                                          (bif decide ((↑(Sp.lOf r).length : Int) = (1 : Int)) then
                                            must (decide ((0 : Int) < (↑(Sp.lOf r).length : Int)))
                                              (nthD (Sp.lOf r) (0 : Int).toNat fun y =>
                                                nthD y.cells 2 fun c =>
                                                  match c with
                                                  | D.sl s l =>
                                                    bif s.beq (cx.P.cellsOf 26) || l.isEmpty then
                                                      bif decide ((↑l.length : Int) = (2 : Int)) then
                                                        must (decide ((0 : Int) < (↑(Sp.lOf r).length : Int)))
                                                          (nthD (Sp.lOf r) (0 : Int).toNat fun y =>
                                                            nthD y.cells 2 fun c =>
                                                              match c with
                                                              | D.sl s l =>
                                                                bif s.beq (cx.P.cellsOf 26) || l.isEmpty then
                                                                  must (decide ((0 : Int) < (↑l.length : Int)))
                                                                    (nthD l (0 : Int).toNat fun y =>
                                                                      bif y.cells.length.beq (cx.P.cellsOf 26) then
                                                                        asAgg y (cx.P.cellsOf 26) fun y =>
                                                                          must
                                                                            (Sp.sameT m false y
                                                                              (D.agg
                                                                                [D.int IntKind.i64 (0 : Int),
                                                                                  D.str [], D.sl 5 [], D.sl 1 [],
                                                                                  D.int IntKind.i64 (0 : Int)]))
                                                                            (some (Out.ret (V.d (D.bool true)), []))
                                                                      else
                                                                        must ((0 + cx.P.cellsOf 26).ble y.cells.length)
                                                                          (must
                                                                            (Sp.sameT m false
                                                                              (D.agg
                                                                                (List.take (cx.P.cellsOf 26)
                                                                                  (List.drop 0 y.cells)))
                                                                              (D.agg
                                                                                [D.int IntKind.i64 (0 : Int),
                                                                                  D.str [], D.sl 5 [], D.sl 1 [],
                                                                                  D.int IntKind.i64 (0 : Int)]))
                                                                            (some (Out.ret (V.d (D.bool true)), []))))
                                                                else none
                                                              | x => none)
                                                      else some (Out.ret (V.d (D.bool false)), [])
                                                    else none
                                                  | x => none)
                                          else some (Out.ret (V.d (D.bool false)), []))
                                      else
                                        must (!decide (Sp.eU r = 0))
                                          (must
                                            (Sp.sameT m false
                                              (D.agg
                                                [D.int IntKind.i64 (0 : Int), D.str [], D.sl 5 [], D.sl 1 [],
                                                  D.int IntKind.i64 (0 : Int)])
                                              (D.agg
                                                [D.int IntKind.i64 (Sp.tOf r_1).k, D.str (Sp.tOf r_1).2,
                                                  D.sl 5 (Sp.tOf r_1).3, D.sl 1 (Sp.tOf r_1).4,
                                                  D.int IntKind.i64 (Sp.tOf r_1).pl]))
                                            (bif decide (Sp.eU r = (0 : Int)) then
                                              some (Out.ret (V.d (D.bool false)), [])
                                            else some (Out.ret (V.d (D.bool false)), [])))))))
                        else
                          must (!decide (Sp.eT r_1 = 0))
                            (bif !decide (Sp.eT r = (0 : Int)) then
                              bif decide ((0 : Int) ≤ Sp.aT r) then
                                bif decide ((0 : Int) ≤ Sp.aT r_1) then
                                  bif !decide (Sp.eT r = (60 : Int)) then some (Out.ret (V.d (D.bool true)), [])
                                  else
                                    bif decide (Sp.eT r_1 = (60 : Int)) then
                                      some
                                        (Out.ret
                                            (V.d
                                              (D.bool (decide (Sp.aT r_1 = IntKind.i64.wrap (Sp.aT r + (1 : Int)))))),
                                          [])
                                    else some (Out.ret (V.d (D.bool false)), [])
                                else some (Out.ret (V.d (D.bool false)), [])
                              else some (Out.ret (V.d (D.bool false)), [])
                            else
                              bif decide (Sp.eT r_1 = (62 : Int)) then some (Out.ret (V.d (D.bool true)), [])
                              else
                                must (decide ([120, 32, 58, 32].length + s.length ≤ 4611686018427387904))
                                  (must
                                    (decide
                                      ((120 :: 32 :: 58 :: 32 :: s).length + [10, 61, 32, 85, 59].length ≤
                                        4611686018427387904))
                                    (must
                                      (decide
                                        ((120 ::
                                              32 ::
                                                58 ::
                                                  32 ::
                                                    (s ++ [10, 61, 32, 85, 59])).length ≤
                                          big))
                                      (must
                                        (decide
                                          ((120 ::
                                                32 ::
                                                  58 ::
                                                    32 ::
                                                      (s ++ [10, 61, 32, 85, 59])).length ≤
                                            big))
                                        (optK
                                          (Sp.parseOf
                                            (k
                                              (120 ::
                                                32 ::
                                                  58 ::
                                                    32 ::
                                                      (s ++ [10, 61, 32, 85, 59])))
                                            (120 ::
                                              32 ::
                                                58 ::
                                                  32 ::
                                                    (s ++ [10, 61, 32, 85, 59])))
                                          fun r =>
                                          bif Sp.okU r then
                                            bif decide (Sp.eT r_1 = (0 : Int)) then
                                              must
                                                (Sp.sameT m false
                                                  (D.agg
                                                    [D.int IntKind.i64 (0 : Int), D.str [], D.sl 5 [], D.sl 1 [],
                                                      D.int IntKind.i64 (0 : Int)])
                                                  (D.agg
                                                    [D.int IntKind.i64 (0 : Int), D.str [], D.sl 5 [], D.sl 1 [],
                                                      D.int IntKind.i64 (0 : Int)]))
                                                (bif decide ((↑(Sp.lOf r).length : Int) = (1 : Int)) then
                                                  must (decide ((0 : Int) < (↑(Sp.lOf r).length : Int)))
                                                    (nthD (Sp.lOf r) (0 : Int).toNat fun y =>
                                                      nthD y.cells 2 fun c =>
                                                        match c with
                                                        | D.sl s l =>
                                                          bif s.beq (cx.P.cellsOf 26) || l.isEmpty then
                                                            bif decide ((↑l.length : Int) = (2 : Int)) then
                                                              must (decide ((0 : Int) < (↑(Sp.lOf r).length : Int)))
                                                                (nthD (Sp.lOf r) (0 : Int).toNat fun y =>
                                                                  nthD y.cells 2 fun c =>
                                                                    match c with
                                                                    | D.sl s l =>
                                                                      bif s.beq (cx.P.cellsOf 26) || l.isEmpty then
                                                                        must (decide ((0 : Int) < (↑l.length : Int)))
                                                                          (nthD l (0 : Int).toNat fun y =>
                                                                            bif
                                                                                y.cells.length.beq
                                                                                  (cx.P.cellsOf 26) then
                                                                              asAgg y (cx.P.cellsOf 26) fun y =>
                                                                                must
                                                                                  (Sp.sameT m false y
                                                                                    (D.agg
                                                                                      [D.int IntKind.i64 (0 : Int),
                                                                                        D.str [], D.sl 5 [], D.sl 1 [],
                                                                                        D.int IntKind.i64
                                                                                          (0 : Int)]))
                                                                                  (some
                                                                                    (Out.ret (V.d (D.bool true)), []))
                                                                            else
                                                                              must
                                                                                ((0 + cx.P.cellsOf 26).ble
                                                                                  y.cells.length)
                                                                                (must
                                                                                  (Sp.sameT m false
                                                                                    (D.agg
                                                                                      (List.take (cx.P.cellsOf 26)
                                                                                        (List.drop 0 y.cells)))
                                                                                    (D.agg
                                                                                      [D.int IntKind.i64 (0 : Int),
                                                                                        D.str [], D.sl 5 [], D.sl 1 [],
                                                                                        D.int IntKind.i64
                                                                                          (0 : Int)]))
                                                                                  (some
                                                                                    (Out.ret (V.d (D.bool true)), []))))
                                                                      else none
                                                                    | x => none)
                                                            else some (Out.ret (V.d (D.bool false)), [])
                                                          else none
                                                        | x => none)
                                                else some (Out.ret (V.d (D.bool false)), []))
                                            else some (Out.ret (V.d (D.bool false)), [])
                                          else
                                            must (!decide (Sp.eU r = 0))
                                              (bif decide (Sp.eT r_1 = (0 : Int)) then
                                                must
                                                  (Sp.sameT m false
                                                    (D.agg
                                                      [D.int IntKind.i64 (0 : Int), D.str [], D.sl 5 [], D.sl 1 [],
                                                        D.int IntKind.i64 (0 : Int)])
                                                    (D.agg
                                                      [D.int IntKind.i64 (0 : Int), D.str [], D.sl 5 [], D.sl 1 [],
                                                        D.int IntKind.i64 (0 : Int)]))
                                                  (bif decide (Sp.eU r = (0 : Int)) then
                                                    some (Out.ret (V.d (D.bool false)), [])
                                                  else some (Out.ret (V.d (D.bool false)), []))
                                              else some (Out.ret (V.d (D.bool false)), [])))))))))))))) := by kernel_rfl

theorem g4 (n m : Nat) (k : List UInt8 → Nat) (s : List UInt8) :
    evBody cx (T3c k m) n 4 [.d (.str s)] [] =
  bif decide ((3000 : Int) < (↑s.length : Int)) then some (Out.ret (V.d (D.bool true)), [])
  else
    must (decide (s.length ≤ big))
      (must (decide (s.length ≤ big))
        (optK (Sp.termOf (k s) s) fun r =>
          bif Sp.okT r then
            must (decide (s.length ≤ big))
              (bif decide (Sp.scE s = 0) then
                bif decide ((↑(Sp.scL s).length : Int) < (2 : Int)) then some (Out.ret (V.d (D.bool false)), [])
                else
                  must
                    (Sp.withT m
                      (D.agg
                        [D.int IntKind.i64 (Sp.tOf r).k, D.str (Sp.tOf r).2, D.sl 5 (Sp.tOf r).3, D.sl 1 (Sp.tOf r).4,
                          D.int IntKind.i64 (Sp.tOf r).pl])
                      (Sp.scL s) (0 : Int))
                    (some (Out.ret (V.d (D.bool true)), []))
              else
                bif !decide (Sp.scE s = (0 : Int)) then some (Out.ret (V.d (D.bool false)), [])
                else some (Out.ret (V.d (D.bool false)), []))
          else
            must (!decide (Sp.eT r = 0))
              (bif !decide (Sp.eT r = (0 : Int)) then
                bif decide ((0 : Int) ≤ Sp.aT r) then
                  some (Out.ret (V.d (D.bool (decide (Sp.aT r ≤ (↑s.length : Int))))), [])
                else some (Out.ret (V.d (D.bool false)), [])
              else
                must (decide (s.length ≤ big))
                  (bif decide (Sp.scE s = 0) then
                    bif decide ((↑(Sp.scL s).length : Int) < (2 : Int)) then some (Out.ret (V.d (D.bool false)), [])
                    else
                      must
                        (Sp.withT m
                          (D.agg
                            [D.int IntKind.i64 (0 : Int), D.str [], D.sl 5 [], D.sl 1 [],
                              D.int IntKind.i64 (0 : Int)])
                          (Sp.scL s) (0 : Int))
                        (some (Out.ret (V.d (D.bool true)), []))
                  else
                    bif !decide (Sp.scE s = (0 : Int)) then some (Out.ret (V.d (D.bool false)), [])
                    else some (Out.ret (V.d (D.bool false)), []))))) := by kernel_rfl

theorem g5 (n m : Nat) (k : List UInt8 → Nat) (s u : List UInt8) :
    evBody cx (T3c k m) n 5 [.d (.str s), .d (.str u)] [] =
  must (decide (s.length ≤ big))
    (must (decide (s.length ≤ big))
      (optK (Sp.parseOf (k s) s) fun r =>
        bif Sp.okU r then
          must (decide (u.length ≤ big))
            (must (decide (u.length ≤ big))
              (optK (Sp.parseOf (k u) u) fun r_1 =>
                bif Sp.okU r_1 then
                  must (decide (s.length + [10].length ≤ 4611686018427387904))
                    (must (decide ((s ++ [10]).length + u.length ≤ 4611686018427387904))
                      (must (decide ((s ++ [10] ++ u).length ≤ big))
                        (must (decide ((s ++ [10] ++ u).length ≤ big))
                          (optK (Sp.parseOf (k (s ++ [10] ++ u)) (s ++ [10] ++ u)) fun r_2 =>
                            bif Sp.okU r_2 then
                              bif decide ((65536 : Int) ≤ (↑u.length : Int)) then
                                some (Out.ret (V.d (D.bool true)), [])
                              else
                                bif
                                    decide
                                      ((65536 : Int) ≤ IntKind.i64.wrap ((↑s.length : Int) + (↑u.length : Int))) then
                                  some (Out.ret (V.d (D.bool true)), [])
                                else
                                  bif
                                      decide
                                        ((↑(Sp.lOf r_2).length : Int) =
                                          IntKind.i64.wrap
                                            ((↑(Sp.lOf r).length : Int) + (↑(Sp.lOf r_1).length : Int))) then
                                    must (decide ((↑(Sp.lOf r).length : Int) ≤ (↑(Sp.lOf r_2).length : Int)))
                                      (must
                                        (Sp.listT m true
                                          (List.drop 0 (List.take (↑(Sp.lOf r).length : Int).toNat (Sp.lOf r_2)))
                                          (Sp.lOf r))
                                        (must (decide ((↑(Sp.lOf r).length : Int) ≤ (↑(Sp.lOf r_2).length : Int)))
                                          (must
                                            (Sp.listT m false
                                              (List.drop (↑(Sp.lOf r).length : Int).toNat
                                                (List.take (Sp.lOf r_2).length (Sp.lOf r_2)))
                                              (Sp.lOf r_1))
                                            (some (Out.ret (V.d (D.bool true)), [])))))
                                  else some (Out.ret (V.d (D.bool false)), [])
                            else
                              must (!decide (Sp.eU r_2 = 0))
                                (bif decide ((65536 : Int) ≤ (↑u.length : Int)) then
                                  some (Out.ret (V.d (D.bool true)), [])
                                else
                                  bif
                                      decide
                                        ((65536 : Int) ≤
                                          IntKind.i64.wrap ((↑s.length : Int) + (↑u.length : Int))) then
                                    some (Out.ret (V.d (D.bool true)), [])
                                  else
                                    bif decide (Sp.eU r_2 = (0 : Int)) then
                                      bif
                                          decide
                                            ((0 : Int) =
                                              IntKind.i64.wrap
                                                ((↑(Sp.lOf r).length : Int) + (↑(Sp.lOf r_1).length : Int))) then
                                        must (decide ((↑(Sp.lOf r).length : Int) ≤ (↑([] : List D).length : Int)))
                                          (must
                                            (Sp.listT m true
                                              (List.drop 0 (List.take (↑(Sp.lOf r).length : Int).toNat [])) (Sp.lOf r))
                                            (must (decide ((↑(Sp.lOf r).length : Int) ≤ (↑([] : List D).length : Int)))
                                              (must
                                                (Sp.listT m false
                                                  (List.drop (↑(Sp.lOf r).length : Int).toNat (List.take ([] : List D).length []))
                                                  (Sp.lOf r_1))
                                                (some (Out.ret (V.d (D.bool true)), [])))))
                                      else some (Out.ret (V.d (D.bool false)), [])
                                    else some (Out.ret (V.d (D.bool false)), []))))))
                else
                  must (!decide (Sp.eU r_1 = 0))
                    (must (decide (s.length + [10].length ≤ 4611686018427387904))
                      (must (decide ((s ++ [10]).length + u.length ≤ 4611686018427387904))
                        (must (decide ((s ++ [10] ++ u).length ≤ big))
                          (must (decide ((s ++ [10] ++ u).length ≤ big))
                            (optK (Sp.parseOf (k (s ++ [10] ++ u)) (s ++ [10] ++ u)) fun r_2 =>
                              bif Sp.okU r_2 then
                                bif decide ((65536 : Int) ≤ (↑u.length : Int)) then
                                  some (Out.ret (V.d (D.bool true)), [])
                                else
                                  bif
                                      decide
                                        ((65536 : Int) ≤
                                          IntKind.i64.wrap ((↑s.length : Int) + (↑u.length : Int))) then
                                    some (Out.ret (V.d (D.bool true)), [])
                                  else
                                    bif !decide (Sp.eU r_1 = (0 : Int)) then
                                      bif decide ((0 : Int) = Sp.eU r_1) then
                                        bif
                                            decide
                                              ((0 : Int) =
                                                IntKind.i64.wrap
                                                  (IntKind.i64.wrap (Sp.aU r_1 + (↑s.length : Int)) + (1 : Int))) then
                                          some
                                            (Out.ret
                                                (V.d (D.bool (decide ((↑(Sp.lOf r_2).length : Int) = (0 : Int))))),
                                              [])
                                        else some (Out.ret (V.d (D.bool false)), [])
                                      else some (Out.ret (V.d (D.bool false)), [])
                                    else
                                      bif
                                          decide
                                            ((↑(Sp.lOf r_2).length : Int) =
                                              IntKind.i64.wrap ((↑(Sp.lOf r).length : Int) + (0 : Int))) then
                                        must (decide ((↑(Sp.lOf r).length : Int) ≤ (↑(Sp.lOf r_2).length : Int)))
                                          (must
                                            (Sp.listT m true
                                              (List.drop 0 (List.take (↑(Sp.lOf r).length : Int).toNat (Sp.lOf r_2)))
                                              (Sp.lOf r))
                                            (must (decide ((↑(Sp.lOf r).length : Int) ≤ (↑(Sp.lOf r_2).length : Int)))
                                              (must
                                                (Sp.listT m false
                                                  (List.drop (↑(Sp.lOf r).length : Int).toNat
                                                    (List.take (Sp.lOf r_2).length (Sp.lOf r_2)))
                                                  [])
                                                (some (Out.ret (V.d (D.bool true)), [])))))
                                      else some (Out.ret (V.d (D.bool false)), [])
                              else
                                must (!decide (Sp.eU r_2 = 0))
                                  (bif decide ((65536 : Int) ≤ (↑u.length : Int)) then
                                    some (Out.ret (V.d (D.bool true)), [])
                                  else
                                    bif
                                        decide
                                          ((65536 : Int) ≤
                                            IntKind.i64.wrap ((↑s.length : Int) + (↑u.length : Int))) then
                                      some (Out.ret (V.d (D.bool true)), [])
                                    else
                                      bif !decide (Sp.eU r_1 = (0 : Int)) then
                                        bif decide (Sp.eU r_2 = Sp.eU r_1) then
                                          bif
                                              decide
                                                (Sp.aU r_2 =
                                                  IntKind.i64.wrap
                                                    (IntKind.i64.wrap (Sp.aU r_1 + (↑s.length : Int)) +
                                                      (1 : Int))) then
                                            some (Out.ret (V.d (D.bool true)), [])
                                          else some (Out.ret (V.d (D.bool false)), [])
                                        else some (Out.ret (V.d (D.bool false)), [])
                                      else
                                        bif decide (Sp.eU r_2 = (0 : Int)) then
                                          bif
                                              decide
                                                ((0 : Int) =
                                                  IntKind.i64.wrap ((↑(Sp.lOf r).length : Int) + (0 : Int))) then
                                            must (decide ((↑(Sp.lOf r).length : Int) ≤ (↑([] : List D).length : Int)))
                                              (must
                                                (Sp.listT m true
                                                  (List.drop 0 (List.take (↑(Sp.lOf r).length : Int).toNat []))
                                                  (Sp.lOf r))
                                                (must (decide ((↑(Sp.lOf r).length : Int) ≤ (↑([] : List D).length : Int)))
                                                  (must
                                                    (Sp.listT m false
                                                      (List.drop (↑(Sp.lOf r).length : Int).toNat
                                                        (List.take ([] : List D).length []))
                                                      [])
                                                    (some (Out.ret (V.d (D.bool true)), [])))))
                                          else some (Out.ret (V.d (D.bool false)), [])
                                        else some (Out.ret (V.d (D.bool false)), [])))))))))
        else
          must (!decide (Sp.eU r = 0))
            (must (decide (u.length ≤ big))
              (must (decide (u.length ≤ big))
                (optK (Sp.parseOf (k u) u) fun r_1 =>
                  bif Sp.okU r_1 then
                    must (decide (s.length + [10].length ≤ 4611686018427387904))
                      (must (decide ((s ++ [10]).length + u.length ≤ 4611686018427387904))
                        (must (decide ((s ++ [10] ++ u).length ≤ big))
                          (must (decide ((s ++ [10] ++ u).length ≤ big))
                            (optK (Sp.parseOf (k (s ++ [10] ++ u)) (s ++ [10] ++ u)) fun r_2 =>
                              bif Sp.okU r_2 then
                                bif !decide (Sp.eU r = (0 : Int)) then some (Out.ret (V.d (D.bool true)), [])
                                else
                                  bif decide ((65536 : Int) ≤ (↑u.length : Int)) then
                                    some (Out.ret (V.d (D.bool true)), [])
                                  else
                                    bif
                                        decide
                                          ((65536 : Int) ≤
                                            IntKind.i64.wrap ((↑s.length : Int) + (↑u.length : Int))) then
                                      some (Out.ret (V.d (D.bool true)), [])
                                    else
                                      bif
                                          decide
                                            ((↑(Sp.lOf r_2).length : Int) =
                                              IntKind.i64.wrap ((0 : Int) + (↑(Sp.lOf r_1).length : Int))) then
                                        must
                                          (Sp.listT m false
                                            (List.drop (0 : Int).toNat (List.take (Sp.lOf r_2).length (Sp.lOf r_2)))
                                            (Sp.lOf r_1))
                                          (some (Out.ret (V.d (D.bool true)), []))
                                      else some (Out.ret (V.d (D.bool false)), [])
                              else
                                must (!decide (Sp.eU r_2 = 0))
                                  (bif !decide (Sp.eU r = (0 : Int)) then some (Out.ret (V.d (D.bool true)), [])
                                  else
                                    bif decide ((65536 : Int) ≤ (↑u.length : Int)) then
                                      some (Out.ret (V.d (D.bool true)), [])
                                    else
                                      bif
                                          decide
                                            ((65536 : Int) ≤
                                              IntKind.i64.wrap ((↑s.length : Int) + (↑u.length : Int))) then
                                        some (Out.ret (V.d (D.bool true)), [])
                                      else
                                        bif decide (Sp.eU r_2 = (0 : Int)) then
                                          bif
                                              decide
                                                ((0 : Int) =
                                                  IntKind.i64.wrap ((0 : Int) + (↑(Sp.lOf r_1).length : Int))) then
                                            must (Sp.listT m false [] (Sp.lOf r_1))
                                              (some (Out.ret (V.d (D.bool true)), []))
                                          else some (Out.ret (V.d (D.bool false)), [])
                                        else some (Out.ret (V.d (D.bool false)), []))))))
                  else
                    must (!decide (Sp.eU r_1 = 0))
                      (must (decide (s.length + [10].length ≤ 4611686018427387904))
                        (must (decide ((s ++ [10]).length + u.length ≤ 4611686018427387904))
                          (must (decide ((s ++ [10] ++ u).length ≤ big))
                            (must (decide ((s ++ [10] ++ u).length ≤ big))
                              (optK (Sp.parseOf (k (s ++ [10] ++ u)) (s ++ [10] ++ u)) fun r_2 =>
                                bif Sp.okU r_2 then
                                  bif !decide (Sp.eU r = (0 : Int)) then some (Out.ret (V.d (D.bool true)), [])
                                  else
                                    bif decide ((65536 : Int) ≤ (↑u.length : Int)) then
                                      some (Out.ret (V.d (D.bool true)), [])
                                    else
                                      bif
                                          decide
                                            ((65536 : Int) ≤
                                              IntKind.i64.wrap ((↑s.length : Int) + (↑u.length : Int))) then
                                        some (Out.ret (V.d (D.bool true)), [])
                                      else
                                        bif !decide (Sp.eU r_1 = (0 : Int)) then
                                          bif decide ((0 : Int) = Sp.eU r_1) then
                                            bif
                                                decide
                                                  ((0 : Int) =
                                                    IntKind.i64.wrap
                                                      (IntKind.i64.wrap (Sp.aU r_1 + (↑s.length : Int)) +
                                                        (1 : Int))) then
                                              some
                                                (Out.ret
                                                    (V.d
                                                      (D.bool (decide ((↑(Sp.lOf r_2).length : Int) = (0 : Int))))),
                                                  [])
                                            else some (Out.ret (V.d (D.bool false)), [])
                                          else some (Out.ret (V.d (D.bool false)), [])
                                        else
                                          bif decide ((↑(Sp.lOf r_2).length : Int) = (0 : Int)) then
                                            must
                                              (Sp.listT m false
                                                (List.drop (0 : Int).toNat
                                                  (List.take (Sp.lOf r_2).length (Sp.lOf r_2)))
                                                [])
                                              (some (Out.ret (V.d (D.bool true)), []))
                                          else some (Out.ret (V.d (D.bool false)), [])
                                else
                                  must (!decide (Sp.eU r_2 = 0))
                                    (bif !decide (Sp.eU r = (0 : Int)) then some (Out.ret (V.d (D.bool true)), [])
                                    else
                                      bif decide ((65536 : Int) ≤ (↑u.length : Int)) then
                                        some (Out.ret (V.d (D.bool true)), [])
                                      else
                                        bif
                                            decide
                                              ((65536 : Int) ≤
                                                IntKind.i64.wrap ((↑s.length : Int) + (↑u.length : Int))) then
                                          some (Out.ret (V.d (D.bool true)), [])
                                        else
                                          bif !decide (Sp.eU r_1 = (0 : Int)) then
                                            bif decide (Sp.eU r_2 = Sp.eU r_1) then
                                              bif
                                                  decide
                                                    (Sp.aU r_2 =
                                                      IntKind.i64.wrap
                                                        (IntKind.i64.wrap (Sp.aU r_1 + (↑s.length : Int)) +
                                                          (1 : Int))) then
                                                some (Out.ret (V.d (D.bool true)), [])
                                              else some (Out.ret (V.d (D.bool false)), [])
                                            else some (Out.ret (V.d (D.bool false)), [])
                                          else
                                            bif decide (Sp.eU r_2 = (0 : Int)) then
                                              some (Out.ret (V.d (D.bool true)), [])
                                            else some (Out.ret (V.d (D.bool false)), [])))))))))))) := by kernel_rfl

theorem T3c_knows (k : List UInt8 → Nat) (n : Nat) : knows cx (T3c k n).S (evLim cx) := by
  unfold T3c
  refine more_knows (more_knows (more_knows (more_knows (more_knows (more_knows (more_knows none1K_knows lim13') ?_) ?_) ?_) ?_) ?_) ?_
  · intro a σ q r hd h
    obtain ⟨x, l, p⟩ := q
    simp only [go14] at h
    obtain ⟨hs, h⟩ := must_some h
    cases h
    unfold dec14 at hd
    split at hd
    · cases hd; exact limWithin hs
    · cases hd
  · intro a σ q r hd h
    obtain ⟨x, y, w⟩ := q
    simp only [go15, Sp.listT] at h
    obtain ⟨hs, h⟩ := must_some h
    simp only [Bool.and_eq_true] at hs
    cases h
    unfold dec15 at hd
    split at hd
    · cases hd; exact limLists hs.1 (of_decide_eq_true hs.2)
    · cases hd
  · intro a σ q r hd h
    obtain ⟨x, y, w⟩ := q
    simp only [go12] at h
    obtain ⟨hs, h⟩ := must_some h
    cases h
    unfold dec12 at hd
    split at hd
    · cases hd; exact limSame hs
    · cases hd
  · intro a σ s r hd h
    unfold decStr at hd
    split at hd
    · cases hd
      simp only [go11] at h
      obtain ⟨hs, h⟩ := must_some h
      obtain ⟨q, hq, h⟩ := optK_some h
      cases q with
      | ok l => cases h; exact lim11 (k s) s (of_decide_eq_true hs) _ hq trivial
      | bad a e =>
        obtain ⟨he, h⟩ := must_some h
        cases h
        exact lim11 (k s) s (of_decide_eq_true hs) _ hq (show e ≠ 0 from fun h0 => by subst h0; exact Bool.false_ne_true he)
    · cases hd
  · intro a σ s r hd h
    unfold decStr at hd
    split at hd
    · cases hd
      simp only [go10] at h
      obtain ⟨hs, h⟩ := must_some h
      obtain ⟨q, hq, h⟩ := optK_some h
      cases q with
      | ok l => cases h; exact lim10 (k s) s (of_decide_eq_true hs) _ hq trivial
      | bad a e =>
        obtain ⟨he, h⟩ := must_some h
        cases h
        exact lim10 (k s) s (of_decide_eq_true hs) _ hq (show e ≠ 0 from fun h0 => by subst h0; exact Bool.false_ne_true he)
    · cases hd
  · intro a σ q r hd h
    unfold dec9 at hd
    split at hd
    · cases h; exact lim9w
    · cases hd

end Go.Vai
end

section
namespace Go.Vai
open Go.Proofs

/-- A reader's tokens: so many, and the end behind them. -/
structure Toks (l : List D) (m : Nat) (N : Int) : Prop where
  at_ : ∀ x : Int, 0 ≤ x → x ≤ (m : Int) + 2 → ∃ p, Sp.tok l x = some p
  kind : ∀ (x : Int) p, Sp.tok l x = some p → x < m → p.1 = 1 ∨ p.1 = 2
  fin : ∀ (x : Int) p, Sp.tok l x = some p → (m : Int) ≤ x → p.1 = 0 ∧ p.2.1 = []
  small : m < 100000
  mono : ∀ (x y : Int) p q, Sp.tok l x = some p → Sp.tok l y = some q → x ≤ y → p.2.2 ≤ q.2.2
  low : ∀ (x : Int) p, Sp.tok l x = some p → 0 ≤ p.2.2 ∧ p.2.2 ≤ N

/-- A tree and its parts begin at tokens, to some depth. -/
def Wn (l : List D) : Nat → Int → Tr → Prop
  | 0, _, _ => False
  | n + 1, x, t => ∃ p, Sp.tok l x = some p ∧ t.pl = p.2.2 ∧ (t.k = 1 → t.nm = p.2.1) ∧ 1 ≤ t.k ∧ t.k ≤ 17 ∧ (∀ n ∈ t.nms, ∃ s, n = D.str s) ∧
      (∀ d ∈ t.kids, ∃ u y, d = trD u ∧ x ≤ y ∧ Wn l n y u) ∧ t.kids.length < 4294967296 ∧ t.nms.length < 4294967296
def W (l : List D) (x : Int) (t : Tr) : Prop := ∃ n, Wn l n x t

theorem Wn_up {l : List D} : ∀ {n : Nat} {x : Int} {t : Tr}, Wn l n x t → Wn l (n + 1) x t
  | 0, _, _, h => h.elim
  | n + 1, x, t, ⟨p, h1, h2, h3, h4, h5, h6, h7, h8⟩ => ⟨p, h1, h2, h3, h4, h5, h6, fun d hd => by
    obtain ⟨u, y, e, hy, hW⟩ := h7 d hd
    exact ⟨u, y, e, hy, Wn_up hW⟩, h8⟩
theorem Wn_le {l : List D} {n m : Nat} {x : Int} {t : Tr} (h : Wn l n x t) (hm : n ≤ m) : Wn l m x t := by
  induction hm with
  | refl => exact h
  | step _ ih => exact Wn_up ih
theorem Wn_all {l : List D} {x : Int} : ∀ {ks : List D}, (∀ d ∈ ks, ∃ u y, d = trD u ∧ x ≤ y ∧ W l y u) → ∃ n, ∀ d ∈ ks, ∃ u y, d = trD u ∧ x ≤ y ∧ Wn l n y u
  | [], _ => ⟨0, fun d hd => by cases hd⟩
  | k :: ks, h => by
    obtain ⟨n, hn⟩ := Wn_all fun d hd => h d (List.mem_cons_of_mem _ hd)
    obtain ⟨u, y, e, hy, n', hW⟩ := h k List.mem_cons_self
    refine ⟨max n n', fun d hd => ?_⟩
    rcases List.mem_cons.1 hd with rfl | hd
    · exact ⟨u, y, e, hy, Wn_le hW (Nat.le_max_right _ _)⟩
    · obtain ⟨u, y, e, hy, hW⟩ := hn d hd
      exact ⟨u, y, e, hy, Wn_le hW (Nat.le_max_left _ _)⟩
theorem W.mk {l : List D} {x : Int} {t : Tr} {p : Tk3} (h1 : Sp.tok l x = some p) (h2 : t.pl = p.2.2) (h3 : t.k = 1 → t.nm = p.2.1) (h4 : 1 ≤ t.k) (h5 : t.k ≤ 17) (h6 : ∀ n ∈ t.nms, ∃ s, n = D.str s)
    (h7 : ∀ d ∈ t.kids, ∃ u y, d = trD u ∧ x ≤ y ∧ W l y u) (h8 : t.kids.length < 4294967296) (h9 : t.nms.length < 4294967296) : W l x t := by
  obtain ⟨n, hn⟩ := Wn_all h7
  exact ⟨n + 1, p, h1, h2, h3, h4, h5, h6, hn, h8, h9⟩
theorem up_at {l : List D} {i : Int} {p : Tk3} (h : Sp.tok l i = some p) : up i = i + 1 := up_tok h

theorem isS_kind {p : Tk3} {s : List UInt8} (h : Sp.isS p s = true) : p.1 = 2 ∧ p.2.1 = s := by
  unfold Sp.isS at h
  simp only [Bool.and_eq_true, decide_eq_true_eq] at h
  exact h

theorem arr_pos {p : Tk3} (h : (!decide (Sp.arr p = 0)) = true) : p.1 = 2 ∧ (Sp.arr p = 4 ∨ Sp.arr p = 5) := by
  unfold Sp.arr at h ⊢
  cases h1 : Sp.isS p [45, 62]
  · cases h2 : Sp.isS p [42]
    · rw [h1, h2] at h; exact absurd h (by decide)
    · exact ⟨(isS_kind h2).1, .inr rfl⟩
  · exact ⟨(isS_kind h1).1, .inl rfl⟩

section
variable {l : List D} {m : Nat} {N : Int}

theorem Toks.lt (h : Toks l m N) {x : Int} {p : Tk3} (hp : Sp.tok l x = some p) (hk : p.1 = 1 ∨ p.1 = 2) : x < m := by
  by_cases hx : x < m
  · exact hx
  · have := (h.fin x p hp (by omega)).1; omega

theorem Toks.sign (h : Toks l m N) {x : Int} {p : Tk3} {s : List UInt8} (hp : Sp.tok l x = some p) (hs : Sp.isS p s = true) : x < m := h.lt hp (.inr (isS_kind hs).1)
theorem Toks.nm (h : Toks l m N) {x : Int} {p : Tk3} (hp : Sp.tok l x = some p) (hs : decide (p.1 = 1) = true) : x < m := h.lt hp (.inl (of_decide_eq_true hs))

def GoodR (l : List D) (m : Nat) (i : Int) : PR → Prop
  | .ok t j => ∃ x, i ≤ x ∧ x < j ∧ j ≤ m ∧ W l x t
  | .bad a e _ => (∃ x p, Sp.tok l x = some p ∧ a = p.2.2) ∧ (e = 61 ∨ e = 62)
def U (l : List D) (m : Nat) (i : Int) (o : Option PR) : Prop := ∃ out, o = some out ∧ GoodR l m i out
def GoodN (l : List D) (m : Nat) (i : Int) : PN → Prop
  | .ok ns j => i < j ∧ j ≤ m ∧ (∀ n ∈ ns, ∃ s, n = D.str s) ∧ (ns.length : Int) ≤ m
  | .bad a e _ => (∃ x p, Sp.tok l x = some p ∧ a = p.2.2) ∧ (e = 61 ∨ e = 62)
def UN (l : List D) (m : Nat) (i : Int) (o : Option PN) : Prop := ∃ out, o = some out ∧ GoodN l m i out

theorem u_bad {i x j e : Int} {p : Tk3} (hp : Sp.tok l x = some p) (he : e = 61 ∨ e = 62) : U l m i (some (.bad p.2.2 e j)) := ⟨_, rfl, ⟨x, p, hp, rfl⟩, he⟩
theorem u_ok {i x j : Int} {t : Tr} (hi : i ≤ x) (hx : x < j) (hj : j ≤ m) (hW : W l x t) : U l m i (some (.ok t j)) := ⟨_, rfl, x, hi, hx, hj, hW⟩
theorem u_if {i : Int} {c : Bool} {a b : Option PR} (ha : c = true → U l m i a) (hb : c = false → U l m i b) : U l m i (bif c then a else b) := by
  cases c
  · exact hb rfl
  · exact ha rfl
theorem u_call {i i' : Int} {c : Option PR} {K : Tr → Int → Option PR} (hc : U l m i' c) (hK : ∀ t j x, i' ≤ x → x < j → j ≤ m → W l x t → U l m i (K t j)) : U l m i (Sp.call c K) := by
  obtain ⟨out, rfl, hg⟩ := hc
  cases out with
  | ok t j => obtain ⟨x, h1, h2, h3, h4⟩ := hg; exact hK t j x h1 h2 h3 h4
  | bad a e j => exact ⟨_, rfl, hg⟩
theorem u_callN {i i' : Int} {c : Option PN} {K : List D → Int → Option PR} (hc : UN l m i' c) (hK : ∀ ns j, i' < j → j ≤ m → (∀ n ∈ ns, ∃ s, n = D.str s) → (ns.length : Int) ≤ m → U l m i (K ns j)) : U l m i (Sp.callN c K) := by
  obtain ⟨out, rfl, hg⟩ := hc
  cases out with
  | ok t j => obtain ⟨h1, h2, h3, h4⟩ := hg; exact hK t j h1 h2 h3 h4
  | bad a e j => exact ⟨_, rfl, hg⟩
theorem u_tok (h : Toks l m N) {i x : Int} {F : Tk3 → Option PR} (h0 : 0 ≤ x) (h1 : x ≤ m) (hF : ∀ p, Sp.tok l x = some p → U l m i (F p)) : U l m i (optK (Sp.tok l x) F) := by
  obtain ⟨p, hp⟩ := h.at_ x h0 (by omega)
  rw [hp]
  exact hF p hp
theorem u_want (h : Toks l m N) {i x : Int} {s : List UInt8} {K : Int → Option PR} (h0 : 0 ≤ x) (h1 : x ≤ m) (hK : x + 1 ≤ m → U l m i (K (x + 1))) : U l m i (Sp.want l x s K) := by
  refine u_tok h h0 h1 fun p hp => u_if (fun hs => ?_) fun _ => u_bad hp (.inl rfl)
  have := h.sign hp hs
  rw [up_at hp]
  exact hK (by omega)
theorem u_name (h : Toks l m N) {i x : Int} {K : List UInt8 → Int → Option PR} (h0 : 0 ≤ x) (h1 : x ≤ m) (hK : ∀ p, Sp.tok l x = some p → p.1 = 1 → x + 1 ≤ m → U l m i (K p.2.1 (x + 1))) : U l m i (Sp.name l x K) := by
  refine u_tok h h0 h1 fun p hp => u_if (fun hs => ?_) fun _ => u_bad hp (.inl rfl)
  have := h.nm hp hs
  rw [up_at hp]
  exact hK p hp (of_decide_eq_true hs) (by omega)
theorem u_must {i : Int} {c : Bool} {a : Option PR} (hc : c = true) (ha : U l m i a) : U l m i (must c a) := by rw [hc]; exact ha
theorem short_of {k : List D} {n : Int} (h : (k.length : Int) ≤ n) (hn : n ≤ 100000) : Sp.short k = true := decide_eq_true (by omega)

/-- What is shown of the functions with some fuel. -/
structure UU (l : List D) (m : Nat) (k : Nat) : Prop where
  names : ∀ i : Int, 0 ≤ i → i ≤ m → 8 * (m - i) + 3 ≤ k → UN l m i ((Sp.tbl k).names l i)
  face : ∀ i : Int, 0 ≤ i → i ≤ m → 8 * (m - i) + 3 ≤ k → U l m i ((Sp.tbl k).face l i)
  term : ∀ i v : Int, 0 ≤ i → i ≤ m → 8 * (m - i) + 6 ≤ k → U l m i ((Sp.tbl k).term l i v)
  after : ∀ (i v : Int) t x i0, 0 ≤ i0 → i0 ≤ x → x < i → i ≤ m → W l x t → 8 * (m - i) + 5 ≤ k → U l m i0 ((Sp.tbl k).after l i v t)
  atom : ∀ i v : Int, 0 ≤ i → i ≤ m → 8 * (m - i) + 4 ≤ k → U l m i ((Sp.tbl k).atom l i v)
  box : ∀ (i v : Int) p, 0 ≤ i → i ≤ m → Sp.tok l i = some p → Sp.isS p [91] = true → 8 * (m - i) + 3 ≤ k → U l m i ((Sp.tbl k).box l i v)
  join : ∀ i v : Int, 0 ≤ i → i ≤ m → 8 * (m - i) + 5 ≤ k → U l m i ((Sp.tbl k).join l i v)
  meet : ∀ i v : Int, 0 ≤ i → i ≤ m → 8 * (m - i) + 4 ≤ k → U l m i ((Sp.tbl k).meet l i v)
  dim : ∀ i v : Int, 0 ≤ i → i ≤ m → 8 * (m - i) + 3 ≤ k → U l m i ((Sp.tbl k).dim l i v)

theorem kids_none {x : Int} : ∀ d ∈ ([] : List D), ∃ u y, d = trD u ∧ x ≤ y ∧ W l y u := fun d hd => by cases hd
theorem kids_one {x y : Int} {t : Tr} (h : W l y t) (hx : x ≤ y) : ∀ d ∈ [trD t], ∃ u y, d = trD u ∧ x ≤ y ∧ W l y u := fun d hd => by
  rcases List.mem_singleton.1 hd with rfl
  exact ⟨t, y, rfl, hx, h⟩
theorem kids_two {x y z : Int} {t u : Tr} (h : W l y t) (hx : x ≤ y) (h' : W l z u) (hx' : x ≤ z) : ∀ d ∈ [trD t, trD u], ∃ u y, d = trD u ∧ x ≤ y ∧ W l y u := fun d hd => by
  simp only [List.mem_cons, List.not_mem_nil, or_false] at hd
  rcases hd with rfl | rfl
  · exact ⟨t, y, rfl, hx, h⟩
  · exact ⟨u, z, rfl, hx', h'⟩
theorem nms_none : ∀ n ∈ ([] : List D), ∃ s, n = D.str s := fun d hd => by cases hd
theorem nms_one {s : List UInt8} : ∀ n ∈ [D.str s], ∃ s, n = D.str s := fun d hd => ⟨s, List.mem_singleton.1 hd⟩
theorem W_leaf {x k : Int} {p : Tk3} (hp : Sp.tok l x = some p) (h1 : 1 ≤ k) (h2 : k ≤ 17) : W l x ⟨k, p.2.1, [], [], p.2.2⟩ :=
  .mk hp rfl (fun _ => rfl) h1 h2 nms_none kids_none (show 0 < 4294967296 by decide) (show 0 < 4294967296 by decide)
theorem W_node {x k : Int} {p : Tk3} {s : List UInt8} {kids nms : List D} (hp : Sp.tok l x = some p) (h1 : 2 ≤ k) (h2 : k ≤ 17) (hn : ∀ n ∈ nms, ∃ s, n = D.str s) (hk : ∀ d ∈ kids, ∃ u y, d = trD u ∧ x ≤ y ∧ W l y u)
    (hl : (kids.length : Int) ≤ 200000) (hl' : (nms.length : Int) ≤ 200000) : W l x ⟨k, s, kids, nms, p.2.2⟩ :=
  .mk hp rfl (fun h => by have : k = 1 := h; omega) (by show 1 ≤ k; omega) h2 hn hk (by show kids.length < _; omega) (by show nms.length < _; omega)
theorem W_at {x : Int} {t : Tr} (h : W l x t) : ∃ p, Sp.tok l x = some p ∧ t.pl = p.2.2 := by cases h with | intro n h => cases n with
  | zero => exact h.elim
  | succ n => obtain ⟨p, hp, he, _⟩ := h; exact ⟨p, hp, he⟩

theorem names_loop (h : Toks l m N) {i0 : Int} : ∀ (r : Nat) (i : Int) (ns : List D), 0 ≤ i → i ≤ m → i0 < i → (∀ n ∈ ns, ∃ s, n = D.str s) → (ns.length : Int) ≤ i → m - i < r → UN l m i0 (Sp.namesL r l i ns)
  | 0, i, ns, h0, h1, _, _, _, hr => by omega
  | r + 1, i, ns, h0, h1, hi, hn, hl, hr => by
    obtain ⟨p, hp⟩ := h.at_ i h0 (by omega)
    rw [Sp.namesL, hp, optK_now]
    cases hk : decide (p.1 = 1)
    · exact ⟨_, rfl, hi, h1, hn, by omega⟩
    · have := h.nm hp hk
      have hs := h.small
      rw [cond_true, up_at hp, short_of (n := (m : Int)) (by omega) (by omega), must, cond_true]
      exact names_loop h r (i + 1) _ (by omega) (by omega) (by omega) (fun n hn' => by
        rcases List.mem_append.1 hn' with h' | h'
        · exact hn n h'
        · exact nms_one n h') (by simp; omega) (by omega)

theorem face_loop (h : Toks l m N) {i0 x : Int} {q : Tk3} (hq : Sp.tok l x = some q) (hx0 : i0 ≤ x) : ∀ (r : Nat) (i : Int) (kids : List D), 0 ≤ i → x ≤ i → i ≤ m → (∀ d ∈ kids, ∃ u y, d = trD u ∧ x ≤ y ∧ W l y u) → (kids.length : Int) ≤ i → m - i < r → U l m i0 (Sp.faceL r l i kids q.2.2)
  | 0, i, _, h0, _, h1, _, _, hr => by omega
  | r + 1, i, kids, h0, hxi, h1, hk, hl, hr => by
    have hs := h.small
    rw [Sp.faceL]
    refine u_tok h h0 h1 fun p hp => u_if (fun hb => ?_) fun _ => u_bad hp (.inl rfl)
    have := h.sign hp hb
    rw [up_at hp]
    refine u_name h (by omega) (by omega) fun s hs' hs1 hs2 => ?_
    refine u_want h (by omega) (by omega) fun h3 => ?_
    refine u_tok h (by omega) (by omega) fun w hw => u_if (fun hb' => ?_) fun _ => u_bad hw (.inl rfl)
    have hw1 : i + 1 + 1 + 1 < m := by
      rcases Bool.or_eq_true _ _ |>.mp hb' with h | h
      · exact Toks.sign ‹Toks l m N› hw h
      · exact Toks.sign ‹Toks l m N› hw h
    rw [up_at hw]
    refine u_want h (by omega) (by omega) fun h4 => ?_
    refine u_must (short_of (n := (m : Int)) (by omega) (by omega)) ?_
    have hW : W l i ⟨13, s.2.1, [], [.str w.2.1], p.2.2⟩ := W_node hp (by decide) (by decide) nms_one kids_none (by decide) (by simp)
    have hks : ∀ d ∈ kids ++ [trD ⟨13, s.2.1, [], [.str w.2.1], p.2.2⟩], ∃ u y, d = trD u ∧ x ≤ y ∧ W l y u := fun d hd => by
      rcases List.mem_append.1 hd with h' | h'
      · exact hk d h'
      · exact kids_one hW hxi d h'
    refine u_tok h (by omega) (by omega) fun y hy => u_if (fun _ => ?_) fun _ => ?_
    · exact face_loop h hq hx0 r _ _ (by omega) (by omega) (by omega) hks (by simp; omega) (by omega)
    · exact u_ok hx0 (by omega) (by omega) (W_node hq (by decide) (by decide) nms_none hks (by simp; omega) (by decide))

theorem box_loop (h : Toks l m N) {k : Nat} (hU : UU l m k) {i0 x v : Int} {q : Tk3} (hq : Sp.tok l x = some q) (hx0 : i0 ≤ x) (h00 : 0 ≤ i0) : ∀ (r : Nat) (i : Int) (kids : List D), x < i → i ≤ m → (∀ d ∈ kids, ∃ u y, d = trD u ∧ x ≤ y ∧ W l y u) → (kids.length : Int) ≤ i → m - i < r → 8 * (m - i) + 6 ≤ k → U l m i0 (Sp.boxL (Sp.tbl k) r l i v kids q.2.2)
  | 0, i, _, _, h1, _, _, hr, _ => by omega
  | r + 1, i, kids, hxi, h1, hk, hl, hr, hf => by
    have hs := h.small
    rw [Sp.boxL]
    refine u_tok h (by omega) h1 fun p hp => u_if (fun hb => ?_) fun _ => ?_
    · have := h.sign hp hb
      rw [up_at hp]
      exact u_ok hx0 (by omega) (by omega) (W_node hq (by decide) (by decide) nms_none hk (by omega) (by decide))
    · have step : ∀ j : Int, i ≤ j → j ≤ m → U l m i0 (optK (Sp.tok l j) fun q_1 => Sp.call ((Sp.tbl k).face l j) fun f j => optK (Sp.tok l j) fun u =>
          bif Sp.isS u [45, 62] then Sp.call ((Sp.tbl k).term l (up j) (up v)) fun t j => must (Sp.short kids) (Sp.boxL (Sp.tbl k) r l j v (kids ++ [trD ⟨11, [], [trD f, trD t], [], q_1.2.2⟩]) q.2.2)
          else must (Sp.short kids) (Sp.boxL (Sp.tbl k) r l j v (kids ++ [trD ⟨11, [], [trD f], [], q_1.2.2⟩]) q.2.2)) := by
        intro j hj hjm
        refine u_tok h (by omega) hjm fun w hw => ?_
        refine u_call (hU.face j (by omega) hjm (by omega)) fun f j2 y hy hy2 hj2 hWf => ?_
        refine u_tok h (by omega) hj2 fun z hz => u_if (fun hb' => ?_) fun _ => ?_
        · have := h.sign hz hb'
          rw [up_at hz]
          refine u_call (hU.term (j2 + 1) _ (by omega) (by omega) (by omega)) fun t j3 y' hy' hy2' hj3 hWt => ?_
          refine u_must (short_of (n := (m : Int)) (by omega) (by omega)) ?_
          have hW : W l j ⟨11, [], [trD f, trD t], [], w.2.2⟩ := W_node hw (by decide) (by decide) nms_none (kids_two hWf (by omega) hWt (by omega)) (by simp) (by decide)
          refine box_loop h hU hq hx0 h00 r j3 _ (by omega) hj3 (fun d hd => ?_) (by simp; omega) (by omega) (by omega)
          rcases List.mem_append.1 hd with h' | h'
          · exact hk d h'
          · exact kids_one hW (by omega) d h'
        · refine u_must (short_of (n := (m : Int)) (by omega) (by omega)) ?_
          have hW : W l j ⟨11, [], [trD f], [], w.2.2⟩ := W_node hw (by decide) (by decide) nms_none (kids_one hWf (by omega)) (by simp) (by decide)
          refine box_loop h hU hq hx0 h00 r j2 _ (by omega) hj2 (fun d hd => ?_) (by simp; omega) (by omega) (by omega)
          rcases List.mem_append.1 hd with h' | h'
          · exact hk d h'
          · exact kids_one hW (by omega) d h'
      unfold Sp.comma
      refine u_if (fun _ => u_want h (by omega) h1 fun h2 => step _ (by omega) h2) fun _ => step i (by omega) h1

theorem after_loop (h : Toks l m N) {k : Nat} (hU : UU l m k) {i0 v : Int} (h00 : 0 ≤ i0) : ∀ (r : Nat) (i x : Int) (t : Tr), i0 ≤ x → x < i → i ≤ m → W l x t → m - i < r → 8 * (m - i) + 4 ≤ k → U l m i0 (Sp.afterG (Sp.tbl k) r l i v t)
  | 0, i, _, _, _, _, h1, _, hr, _ => by omega
  | r + 1, i, x, t, hx0, hxi, h1, hW, hr, hf => by
    rw [Sp.afterG]
    obtain ⟨q, hq, hqe⟩ := W_at hW
    refine u_tok h (by omega) h1 fun p hp => u_if (fun hb => ?_) fun _ => u_if (fun _ => ?_) fun _ => u_if (fun hb => ?_) fun _ => u_ok hx0 hxi h1 hW
    · have := h.sign hp hb
      rw [up_at hp]
      refine u_call (hU.dim (i + 1) _ (by omega) (by omega) (by omega)) fun u j y hy hyj hj hWu => ?_
      refine after_loop h hU h00 r j x _ hx0 (by omega) hj ?_ (by omega) (by omega)
      rw [hqe]
      exact W_node hq (by decide) (by decide) nms_none (kids_two hW (by omega) hWu (by omega)) (by simp) (by decide)
    · refine u_call (hU.atom i _ (by omega) (by omega) (by omega)) fun u j y hy hyj hj hWu => ?_
      refine after_loop h hU h00 r j x _ hx0 (by omega) hj ?_ (by omega) (by omega)
      rw [hqe]
      exact W_node hq (by decide) (by decide) nms_none (kids_two hW (by omega) hWu (by omega)) (by simp) (by decide)
    · have ha := arr_pos hb
      have := h.lt hp (.inr ha.1)
      rw [up_at hp]
      refine u_call (hU.term (i + 1) _ (by omega) (by omega) (by omega)) fun u j y hy hyj hj hWu => ?_
      refine u_ok hx0 (by omega) hj ?_
      rw [hqe]
      exact W_node hq (by omega) (by omega) nms_none (kids_two hW (by omega) hWu (by omega)) (by simp) (by decide)

theorem join_loop (h : Toks l m N) {k : Nat} (hU : UU l m k) {i0 v : Int} (h00 : 0 ≤ i0) : ∀ (r : Nat) (i x : Int) (t : Tr), i0 ≤ x → x < i → i ≤ m → W l x t → m - i < r → 8 * (m - i) + 1 ≤ k → U l m i0 (Sp.joinL (Sp.tbl k) r l i v t)
  | 0, i, _, _, _, _, h1, _, hr, _ => by omega
  | r + 1, i, x, t, hx0, hxi, h1, hW, hr, hf => by
    rw [Sp.joinL]
    obtain ⟨q, hq, hqe⟩ := W_at hW
    refine u_tok h (by omega) h1 fun p hp => u_if (fun hb => ?_) fun _ => u_ok hx0 hxi h1 hW
    have := h.sign hp hb
    rw [up_at hp]
    refine u_call (hU.meet (i + 1) _ (by omega) (by omega) (by omega)) fun u j y hy hyj hj hWu => ?_
    refine join_loop h hU h00 r j x _ hx0 (by omega) hj ?_ (by omega) (by omega)
    rw [hqe]
    exact W_node hq (by decide) (by decide) nms_none (kids_two hW (by omega) hWu (by omega)) (by simp) (by decide)

theorem meet_loop (h : Toks l m N) {k : Nat} (hU : UU l m k) {i0 v : Int} (h00 : 0 ≤ i0) : ∀ (r : Nat) (i x : Int) (t : Tr), i0 ≤ x → x < i → i ≤ m → W l x t → m - i < r → 8 * (m - i) + 1 ≤ k → U l m i0 (Sp.meetL (Sp.tbl k) r l i v t)
  | 0, i, _, _, _, _, h1, _, hr, _ => by omega
  | r + 1, i, x, t, hx0, hxi, h1, hW, hr, hf => by
    rw [Sp.meetL]
    obtain ⟨q, hq, hqe⟩ := W_at hW
    refine u_tok h (by omega) h1 fun p hp => u_if (fun hb => ?_) fun _ => u_ok hx0 hxi h1 hW
    have := h.sign hp hb
    rw [up_at hp]
    refine u_call (hU.dim (i + 1) _ (by omega) (by omega) (by omega)) fun u j y hy hyj hj hWu => ?_
    refine meet_loop h hU h00 r j x _ hx0 (by omega) hj ?_ (by omega) (by omega)
    rw [hqe]
    exact W_node hq (by decide) (by decide) nms_none (kids_two hW (by omega) hWu (by omega)) (by simp) (by decide)

theorem binds_is (h : Toks l m N) {i : Int} {p : Tk3} (hp : Sp.tok l i = some p) : ∃ b, Sp.binds l i = some b ∧ (b = true → Sp.isS p [40] = true ∧ i + 2 < m ∧ ∃ q, Sp.tok l (i + 1) = some q ∧ q.1 = 1) := by
  have h0 := tok_spec hp
  unfold Sp.binds
  rw [hp, optK_now]
  cases hs : Sp.isS p [40]
  · exact ⟨false, rfl, fun h => by cases h⟩
  · have hi := h.sign hp hs
    obtain ⟨q, hq⟩ := h.at_ (i + 1) (by omega) (by omega)
    rw [cond_true, hq, optK_now]
    cases hk : decide (q.1 = 1)
    · exact ⟨false, rfl, fun h => by cases h⟩
    · have hi1 := h.nm hq hk
      obtain ⟨r, hr⟩ := h.at_ (i + 2) (by omega) (by omega)
      rw [cond_true, hr, optK_now]
      refine ⟨_, rfl, fun hb => ⟨rfl, ?_, q, rfl, of_decide_eq_true hk⟩⟩
      by_cases hlt : i + 2 < m
      · exact hlt
      · have := (h.fin _ r hr (by omega)).2
        rw [this] at hb
        exact absurd hb (by decide)

theorem UU_all (h : Toks l m N) : ∀ k, UU l m k
  | 0 => by constructor <;> intros <;> omega
  | k + 1 => by
    have hU := UU_all h k
    have hs := h.small
    constructor
    · -- names
      intro i h0 h1 hf
      show UN l m i (Sp.namesG k l i)
      unfold Sp.namesG
      obtain ⟨p, hp⟩ := h.at_ i h0 (by omega)
      rw [hp, optK_now]
      cases hk : decide (p.1 = 1)
      · exact ⟨_, rfl, ⟨i, p, hp, rfl⟩, .inl rfl⟩
      · have := h.nm hp hk
        rw [cond_true, up_at hp]
        exact names_loop h k (i + 1) _ (by omega) (by omega) (by omega) nms_one (by simp; omega) (by omega)
    · -- face
      intro i h0 h1 hf
      show U l m i (Sp.faceG k l i)
      unfold Sp.faceG
      refine u_tok h h0 h1 fun p hp => u_if (fun hb => ?_) fun _ => ?_
      · have := h.sign hp hb
        rw [up_at hp]
        exact u_ok (Int.le_refl _) (by omega) (by omega) (W_node hp (by decide) (by decide) nms_none kids_none (by decide) (by decide))
      · exact face_loop h hp (Int.le_refl _) k i [] h0 (Int.le_refl _) h1 kids_none (by simpa using h0) (by omega)
    · -- term
      intro i v h0 h1 hf
      show U l m i (Sp.termG (Sp.tbl k) l i v)
      unfold Sp.termG
      refine u_tok h h0 h1 fun p hp => u_if (fun _ => u_bad hp (.inr rfl)) fun _ => u_if (fun hb => ?_) fun _ => u_if (fun hb => ?_) fun _ => ?_
      · have := h.sign hp hb
        rw [up_at hp]
        refine u_callN (hU.names (i + 1) (by omega) (by omega) (by omega)) fun ns j hj hjm hn hl => ?_
        refine u_want h (by omega) hjm fun h2 => ?_
        refine u_call (hU.term (j + 1) _ (by omega) h2 (by omega)) fun t j2 y hy hyj hj2 hWt => ?_
        exact u_ok (Int.le_refl _) (by omega) hj2 (W_node hp (by decide) (by decide) hn (kids_one hWt (by omega)) (by simp) (by omega))
      · have := h.sign hp hb
        rw [up_at hp]
        refine u_callN (hU.names (i + 1) (by omega) (by omega) (by omega)) fun ns j hj hjm hn hl => ?_
        refine u_want h (by omega) hjm fun h2 => ?_
        refine u_call (hU.term (j + 1) _ (by omega) h2 (by omega)) fun t j2 y hy hyj hj2 hWt => ?_
        exact u_ok (Int.le_refl _) (by omega) hj2 (W_node hp (by decide) (by decide) hn (kids_one hWt (by omega)) (by simp) (by omega))
      · obtain ⟨b, hb, hbt⟩ := binds_is h hp
        rw [hb, optK_now]
        refine u_if (fun hb' => ?_) fun _ => ?_
        · obtain ⟨hb1, hb2, q, hq, hq1⟩ := hbt hb'
          rw [up_at hp, hq, optK_now, up_at hq]
          have e : up (i + 1 + 1) = i + 3 := by
            obtain ⟨r, hr⟩ := h.at_ (i + 1 + 1) (by omega) (by omega)
            rw [up_at hr]; omega
          rw [e]
          refine u_call (hU.term (i + 3) _ (by omega) (by omega) (by omega)) fun a j y hy hyj hj hWa => ?_
          refine u_want h (by omega) hj fun h2 => ?_
          refine u_tok h (by omega) h2 fun w hw => u_if (fun hb3 => ?_) fun _ => ?_
          · have ha := arr_pos hb3
            have := h.lt hw (.inr ha.1)
            rw [up_at hw]
            refine u_call (hU.term (j + 1 + 1) _ (by omega) (by omega) (by omega)) fun t j2 y2 hy2 hyj2 hj2 hWt => ?_
            exact u_ok (Int.le_refl _) (by omega) hj2 (W_node hp (by omega) (by omega) nms_one (kids_two hWa (by omega) hWt (by omega)) (by simp) (by simp))
          · have hWx : W l (i + 1) ⟨1, q.2.1, [], [], q.2.2⟩ := W_leaf hq (by decide) (by decide)
            refine hU.after (j + 1) _ _ i i h0 (Int.le_refl _) (by omega) h2 ?_ (by omega)
            exact W_node hp (by decide) (by decide) nms_none (kids_two hWx (by omega) hWa (by omega)) (by simp) (by decide)
        · refine u_call (hU.atom i _ h0 h1 (by omega)) fun t j x hx hxj hj hWt => ?_
          exact hU.after j _ t x i h0 hx hxj hj hWt (by omega)
    · -- after
      intro i v t x i0 h0 hx hxi h1 hW hf
      exact after_loop h hU h0 k i x t hx hxi h1 hW (by omega) (by omega)
    · -- atom
      intro i v h0 h1 hf
      show U l m i (Sp.atomG (Sp.tbl k) l i v)
      unfold Sp.atomG
      refine u_tok h h0 h1 fun p hp => u_if (fun hb => ?_) fun _ => u_if (fun hb => ?_) fun _ => u_if (fun hb => ?_) fun _ => u_bad hp (.inl rfl)
      · have := h.nm hp hb
        rw [up_at hp]
        exact u_ok (Int.le_refl _) (by omega) (by omega) (W_leaf hp (by decide) (by decide))
      · exact hU.box i v p h0 h1 hp hb (by omega)
      · have := h.sign hp hb
        rw [up_at hp]
        refine u_call (hU.term (i + 1) _ (by omega) (by omega) (by omega)) fun t j x hx hxj hj hWt => ?_
        refine u_tok h (by omega) hj fun q hq => u_if (fun hb => ?_) fun _ => u_if (fun hb => ?_) fun _ => u_if (fun hb => ?_) fun _ => u_bad hq (.inl rfl)
        · have := h.sign hq hb
          rw [up_at hq]
          refine u_call (hU.term (j + 1) _ (by omega) (by omega) (by omega)) fun u j2 y hy hyj hj2 hWu => ?_
          refine u_want h (by omega) hj2 fun h2 => ?_
          exact u_ok (Int.le_refl _) (by omega) h2 (W_node hp (by decide) (by decide) nms_none (kids_two hWt (by omega) hWu (by omega)) (by simp) (by decide))
        · have := h.sign hq hb
          rw [up_at hq]
          refine u_call (hU.term (j + 1) _ (by omega) (by omega) (by omega)) fun u j2 y hy hyj hj2 hWu => ?_
          refine u_want h (by omega) hj2 fun h2 => ?_
          exact u_ok (Int.le_refl _) (by omega) h2 (W_node hp (by decide) (by decide) nms_none (kids_two hWt (by omega) hWu (by omega)) (by simp) (by decide))
        · have := h.sign hq hb
          rw [up_at hq]
          exact u_ok (x := x) (by omega) (by omega) (by omega) hWt
    · -- box
      intro i v p h0 h1 hp hb hf
      show U l m i (Sp.boxG (Sp.tbl k) k l i v)
      have := h.sign hp hb
      unfold Sp.boxG
      rw [hp, optK_now, up_at hp]
      exact box_loop h hU hp (Int.le_refl _) h0 k (i + 1) [] (by omega) (by omega) kids_none (by simp; omega) (by omega) (by omega)
    · -- join
      intro i v h0 h1 hf
      show U l m i (Sp.joinG (Sp.tbl k) k l i v)
      unfold Sp.joinG
      refine u_call (hU.meet i _ h0 h1 (by omega)) fun t j x hx hxj hj hWt => ?_
      exact join_loop h hU h0 k j x t hx hxj hj hWt (by omega) (by omega)
    · -- meet
      intro i v h0 h1 hf
      show U l m i (Sp.meetG (Sp.tbl k) k l i v)
      unfold Sp.meetG
      refine u_call (hU.dim i _ h0 h1 (by omega)) fun t j x hx hxj hj hWt => ?_
      exact meet_loop h hU h0 k j x t hx hxj hj hWt (by omega) (by omega)
    · -- dim
      intro i v h0 h1 hf
      show U l m i (Sp.dimG (Sp.tbl k) l i v)
      unfold Sp.dimG
      refine u_tok h h0 h1 fun p hp => u_if (fun _ => u_bad hp (.inr rfl)) fun _ => u_if (fun hb => ?_) fun _ => u_if (fun hb => ?_) fun _ => u_if (fun hb => ?_) fun _ => u_if (fun hb => ?_) fun _ => u_bad hp (.inl rfl)
      · have := h.nm hp hb
        rw [up_at hp]
        exact u_ok (Int.le_refl _) (by omega) (by omega) (W_leaf hp (by decide) (by decide))
      · have : i < m := by
          rcases Bool.or_eq_true _ _ |>.mp hb with h' | h'
          · exact h.sign hp h'
          · exact h.sign hp h'
        rw [up_at hp]
        exact u_ok (Int.le_refl _) (by omega) (by omega) (W_leaf hp (by decide) (by decide))
      · have := h.sign hp hb
        rw [up_at hp]
        refine u_call (hU.dim (i + 1) _ (by omega) (by omega) (by omega)) fun t j x hx hxj hj hWt => ?_
        exact u_ok (Int.le_refl _) (by omega) hj (W_node hp (by decide) (by decide) nms_none (kids_one hWt (by omega)) (by simp) (by decide))
      · have := h.sign hp hb
        rw [up_at hp]
        refine u_call (hU.join (i + 1) _ (by omega) (by omega) (by omega)) fun t j x hx hxj hj hWt => ?_
        refine u_want h (by omega) hj fun h2 => ?_
        exact u_ok (x := x) (by omega) (by omega) h2 hWt

end
end Go.Vai
end

section
namespace Go.Vai
open Go.Proofs

/-- A tree, so much further on. -/
def shiftD (δ : Int) : D → D
  | .agg [.int .i64 k, .str n, .sl 5 ks, .sl 1 ns, .int .i64 a] => .agg [.int .i64 k, .str n, .sl 5 (ks.attach.map fun d => shiftD δ d.1), .sl 1 ns, .int .i64 (a + δ)]
  | d => d
termination_by d => SizeOf.sizeOf d
decreasing_by
  have := List.sizeOf_lt_of_mem d.2
  simp
  omega

def shiftT (δ : Int) (t : Tr) : Tr := ⟨t.k, t.nm, t.kids.map (shiftD δ), t.nms, t.pl + δ⟩
theorem shiftD_tr (δ : Int) (t : Tr) : shiftD δ (trD t) = trD (shiftT δ t) := by
  unfold trD shiftT
  rw [shiftD]
  simp
def shiftP (δ : Int) (p : Tk3) : Tk3 := (p.1, p.2.1, p.2.2 + δ)
def shiftR (c δ : Int) : PR → PR
  | .ok t j => .ok (shiftT δ t) (j + c)
  | .bad a e j => .bad (a + δ) e (j + c)
def shiftN (c δ : Int) : PN → PN
  | .ok t j => .ok t (j + c)
  | .bad a e j => .bad (a + δ) e (j + c)

/-- The same tokens, so much further on: all, or those ahead of some place; the last of these may be an end that is now a bracket's, or `=`. -/
structure Sh (l l' : List D) (c δ M d : Int) (full : Bool) : Prop where
  c0 : 0 ≤ c
  c1 : c ≤ 1000000
  d0 : d = 0 ∨ d = 1
  at_ : ∀ x p, Sp.tok l x = some p → (full = true ∨ x < M) → Sp.tok l' (x + c) = some (shiftP δ p) ∨
    (full = false ∧ x + 1 = M ∧ p.1 = 0 ∧ p.2.1 = [] ∧ ∃ p', Sp.tok l' (x + c) = some p' ∧ p'.1 = 2 ∧ (p'.2.1 = [41] ∨ p'.2.1 = [61]))

section
variable {l l' : List D} {c δ M d : Int} {full : Bool}

def Cnd (full : Bool) (M : Int) : PR → Prop
  | .ok _ j => full = true ∨ j < M
  | .bad _ _ _ => full = true
def CndN (full : Bool) (M : Int) : PN → Prop
  | .ok _ j => full = true ∨ j < M
  | .bad _ _ _ => full = true
def Deep (d : Int) (o : Option PR) : Prop := d = 1 ∧ ∃ a j, o = some (.bad a 62 j)

def Sim (c δ M d : Int) (full : Bool) (i : Int) (o o' : Option PR) : Prop :=
  (∀ t j, o = some (.ok t j) → i ≤ j) ∧ ∀ out, o = some out → Cnd full M out → o' = some (shiftR c δ out) ∨ Deep d o'
def SimN (c δ M : Int) (full : Bool) (i : Int) (o o' : Option PN) : Prop :=
  (∀ t j, o = some (.ok t j) → i ≤ j) ∧ ∀ out, o = some out → CndN full M out → o' = some (shiftN c δ out)

theorem Sim.mono {i i' : Int} {o o' : Option PR} (h : Sim c δ M d full i o o') (hi : i' ≤ i) : Sim c δ M d full i' o o' :=
  ⟨fun t j e => Int.le_trans hi (h.1 t j e), h.2⟩

theorem sim_ok {i j : Int} {t t' : Tr} (ht : t' = shiftT δ t) (hj : i ≤ j) : Sim c δ M d full i (some (.ok t j)) (some (.ok t' (j + c))) := by
  refine ⟨fun t j e => ?_, fun out e _ => ?_⟩
  · cases e; exact hj
  · cases e; rw [ht]; exact .inl rfl

theorem sim_bad {i j e : Int} {p : Tk3} : Sim c δ M d full i (some (.bad p.2.2 e j)) (some (.bad (shiftP δ p).2.2 e (j + c))) :=
  ⟨fun t j e => (by cases e), fun out e _ => (by cases e; exact .inl rfl)⟩

theorem sim_bad' {i j a e : Int} {o' : Option PR} (hf : full = false) : Sim c δ M d full i (some (.bad a e j)) o' :=
  ⟨fun t j e => (by cases e), fun out e hc => (by cases e; exact absurd (show full = true from hc) (by rw [hf]; decide))⟩

theorem sim_if {i : Int} {b b' : Bool} {x y x' y' : Option PR} (e : b' = b) (hx : b = true → Sim c δ M d full i x x') (hy : b = false → Sim c δ M d full i y y') :
    Sim c δ M d full i (bif b then x else y) (bif b' then x' else y') := by
  subst e
  cases b'
  · exact hy rfl
  · exact hx rfl

theorem sim_must {i : Int} {b b' : Bool} {x x' : Option PR} (e : b' = b) (hx : Sim c δ M d full i x x') : Sim c δ M d full i (must b x) (must b' x') := by
  subst e
  cases b'
  · exact ⟨fun t j e => (by cases e), fun out e => (by cases e)⟩
  · exact hx

theorem sim_call {i i' : Int} {o o' : Option PR} {K K' : Tr → Int → Option PR} (h : Sim c δ M d full i' o o') (hi : i ≤ i') (hK : ∀ t j, o = some (.ok t j) → i' ≤ j → Sim c δ M d full j (K t j) (K' (shiftT δ t) (j + c))) :
    Sim c δ M d full i (Sp.call o K) (Sp.call o' K') := by
  cases o with
  | none => exact ⟨fun t j e => (by cases e), fun out e => (by cases e)⟩
  | some r =>
    cases r with
    | ok t j =>
      have hj := h.1 t j rfl
      have hk := hK t j rfl hj
      refine ⟨fun t2 j2 e => ?_, fun out e hc => ?_⟩
      · have := hk.1 t2 j2 e; omega
      · have h1 : o' = some (.ok (shiftT δ t) (j + c)) ∨ Deep d o' := h.2 _ rfl (by
          cases out with
          | ok t2 j2 =>
            rcases hc with hc | hc
            · exact .inl hc
            · have := hk.1 t2 j2 e; exact .inr (by omega)
          | bad a e2 j2 => exact .inl hc)
        rcases h1 with h1 | ⟨hd, a, j3, h1⟩
        · rw [h1]; exact hk.2 out e hc
        · rw [h1]; exact .inr ⟨hd, a, j3, rfl⟩
    | bad a e j =>
      refine ⟨fun t2 j2 e => (by cases e), fun out e hc => ?_⟩
      cases e
      rcases h.2 _ rfl hc with h1 | ⟨hd, a, j3, h1⟩
      · rw [h1]; exact .inl rfl
      · rw [h1]; exact .inr ⟨hd, a, j3, rfl⟩

theorem sim_callN {i i' : Int} {o o' : Option PN} {K K' : List D → Int → Option PR} (h : SimN c δ M full i' o o') (hi : i ≤ i') (hK : ∀ t j, i' ≤ j → Sim c δ M d full j (K t j) (K' t (j + c))) :
    Sim c δ M d full i (Sp.callN o K) (Sp.callN o' K') := by
  cases o with
  | none => exact ⟨fun t j e => (by cases e), fun out e => (by cases e)⟩
  | some r =>
    cases r with
    | ok t j =>
      have hj := h.1 t j rfl
      have hk := hK t j hj
      refine ⟨fun t2 j2 e => ?_, fun out e hc => ?_⟩
      · have := hk.1 t2 j2 e; omega
      · have h1 : o' = some (.ok t (j + c)) := h.2 _ rfl (by
          cases out with
          | ok t2 j2 =>
            rcases hc with hc | hc
            · exact .inl hc
            · have := hk.1 t2 j2 e; exact .inr (by omega)
          | bad a e2 j2 => exact .inl hc)
        rw [h1]; exact hk.2 out e hc
    | bad a e j =>
      refine ⟨fun t2 j2 e => (by cases e), fun out e hc => ?_⟩
      cases e
      rw [h.2 _ rfl hc]
      exact .inl rfl

/-- What a token is to the one at its place. -/
def RT (δ : Int) (full : Bool) (p p' : Tk3) : Prop := p' = shiftP δ p ∨ (full = false ∧ p.1 = 0 ∧ p.2.1 = [] ∧ p'.1 = 2 ∧ (p'.2.1 = [41] ∨ p'.2.1 = [61]))

theorem RT.isS {p p' : Tk3} (h : RT δ full p p') {s : List UInt8} (h1 : s ≠ [41]) (h2 : s ≠ [61]) : Sp.isS p' s = Sp.isS p s := by
  rcases h with rfl | ⟨_, h3, _, h4, h5⟩
  · rfl
  · unfold Sp.isS
    rw [h3, h4]
    have : decide (p'.2.1 = s) = false := decide_eq_false (by rcases h5 with h5 | h5 <;> rw [h5] <;> exact fun h => by simp_all)
    rw [this]
    simp
theorem RT.nm {p p' : Tk3} (h : RT δ full p p') : decide (p'.1 = 1) = decide (p.1 = 1) := by
  rcases h with rfl | ⟨_, h3, _, h4, _⟩
  · rfl
  · rw [h3, h4]; rfl
theorem RT.arr {p p' : Tk3} (h : RT δ full p p') : Sp.arr p' = Sp.arr p := by
  unfold Sp.arr
  rw [h.isS (by decide) (by decide), h.isS (by decide) (by decide)]

theorem sim_tok (h : Sh l l' c δ M d full) {i x : Int} {F F' : Tk3 → Option PR} (hx : x ≤ i) (hF : ∀ p p', Sp.tok l x = some p → RT δ full p p' → Sim c δ M d full i (F p) (F' p')) :
    Sim c δ M d full i (optK (Sp.tok l x) F) (optK (Sp.tok l' (x + c)) F') := by
  cases hp : Sp.tok l x with
  | none => exact ⟨fun t j e => (by cases e), fun out e => (by cases e)⟩
  | some p =>
    refine ⟨(hF p _ hp (.inl rfl)).1, fun out e hc => ?_⟩
    have hb : full = true ∨ x < M := by
      cases out with
      | ok t j =>
        have := (hF p _ hp (.inl rfl)).1 t j e
        rcases hc with hc | hc
        · exact .inl hc
        · exact .inr (by omega)
      | bad a e j => exact .inl hc
    rcases h.at_ x p hp hb with h1 | ⟨h1, _, h3, h4, p', h5, h6, h7⟩
    · rw [h1]; exact (hF p _ hp (.inl rfl)).2 out e hc
    · rw [h5]; exact (hF p p' hp (.inr ⟨h1, h3, h4, h6, h7⟩)).2 out e hc

/-- Where something is still taken behind it, a token is what it was. -/
theorem sim_tok_x (h : Sh l l' c δ M d full) {i x : Int} {F F' : Tk3 → Option PR} (hx : x + 1 ≤ i) (hF : ∀ p, Sp.tok l x = some p → Sim c δ M d full i (F p) (F' (shiftP δ p))) :
    Sim c δ M d full i (optK (Sp.tok l x) F) (optK (Sp.tok l' (x + c)) F') := by
  cases hp : Sp.tok l x with
  | none => exact ⟨fun t j e => (by cases e), fun out e => (by cases e)⟩
  | some p =>
    refine ⟨(hF p hp).1, fun out e hc => ?_⟩
    have hb : full = true ∨ x + 1 < M := by
      cases out with
      | ok t j =>
        have := (hF p hp).1 t j e
        rcases hc with hc | hc
        · exact .inl hc
        · exact .inr (by omega)
      | bad a e j => exact .inl hc
    rcases h.at_ x p hp (hb.imp id fun h => by omega) with h1 | ⟨h1, h2, _⟩
    · rw [h1]; exact (hF p hp).2 out e hc
    · rcases hb with hb | hb
      · rw [h1] at hb; cases hb
      · omega

theorem Sh.up (h : Sh l l' c δ M d full) {x : Int} {p : Tk3} (hp : Sp.tok l x = some p) : up (x + c) = x + 1 + c := by
  have h1 := tok_spec hp
  have h2 := h.c0
  have h3 := h.c1
  have e := IntWalk.i64_in (x + c + 1) (by omega)
  exact e.trans (by omega)

theorem sim_want (h : Sh l l' c δ M d full) {i x : Int} {s : List UInt8} {K K' : Int → Option PR} (hx : x + 1 ≤ i) (hK : Sim c δ M d full i (K (x + 1)) (K' (x + 1 + c))) :
    Sim c δ M d full i (Sp.want l x s K) (Sp.want l' (x + c) s K') := by
  refine sim_tok_x h hx fun p hp => sim_if rfl (fun _ => ?_) fun _ => sim_bad
  rw [up_at hp, h.up hp]
  exact hK
theorem sim_name (h : Sh l l' c δ M d full) {i x : Int} {K K' : List UInt8 → Int → Option PR} (hx : x + 1 ≤ i) (hK : ∀ s, Sim c δ M d full i (K s (x + 1)) (K' s (x + 1 + c))) :
    Sim c δ M d full i (Sp.name l x K) (Sp.name l' (x + c) K') := by
  refine sim_tok_x h hx fun p hp => sim_if rfl (fun _ => ?_) fun _ => sim_bad
  rw [up_at hp, h.up hp]
  exact hK _

theorem lev_up (h : Sh l l' c δ M d full) {v : Int} (h0 : 0 ≤ v) (h1 : v ≤ 201) : up (v + d) = up v + d ∧ up v = v + 1 := by
  have hd := h.d0
  have e1 : up (v + d) = v + d + 1 := IntWalk.i64_in _ (by omega)
  have e2 : up v = v + 1 := IntWalk.i64_in _ (by omega)
  omega

theorem sim_deep (h : Sh l l' c δ M d full) {i x v : Int} {p : Tk3} {A A' : Option PR} (hA : v ≤ 200 → Sim c δ M d full i A A') :
    Sim c δ M d full i (bif decide (200 < v) then some (.bad p.2.2 62 x) else A) (bif decide (200 < v + d) then some (.bad (shiftP δ p).2.2 62 (x + c)) else A') := by
  have hd := h.d0
  by_cases h1 : 200 < v
  · rw [decide_eq_true h1, decide_eq_true (p := 200 < v + d) (by omega)]
    exact sim_bad
  · rw [decide_eq_false h1]
    by_cases h2 : 200 < v + d
    · rw [decide_eq_true h2]
      exact ⟨(hA (by omega)).1, fun out _ _ => .inr ⟨by omega, _, _, rfl⟩⟩
    · rw [decide_eq_false h2]
      exact hA (by omega)

theorem short_map (δ : Int) (k : List D) : Sp.short (k.map (shiftD δ)) = Sp.short k := by unfold Sp.short; rw [List.length_map]

/-- What is shown of the functions with some fuel. -/
structure SS (l l' : List D) (c δ M d : Int) (full : Bool) (k : Nat) : Prop where
  names : ∀ i : Int, SimN c δ M full (i + 1) ((Sp.tbl k).names l i) ((Sp.tbl k).names l' (i + c))
  face : ∀ i : Int, Sim c δ M d full (i + 1) ((Sp.tbl k).face l i) ((Sp.tbl k).face l' (i + c))
  term : ∀ i v : Int, 0 ≤ v → v ≤ 201 → Sim c δ M d full (i + 1) ((Sp.tbl k).term l i v) ((Sp.tbl k).term l' (i + c) (v + d))
  after : ∀ (i v : Int) t, 0 ≤ v → v ≤ 200 → Sim c δ M d full i ((Sp.tbl k).after l i v t) ((Sp.tbl k).after l' (i + c) (v + d) (shiftT δ t))
  atom : ∀ i v : Int, 0 ≤ v → v ≤ 200 → Sim c δ M d full (i + 1) ((Sp.tbl k).atom l i v) ((Sp.tbl k).atom l' (i + c) (v + d))
  paren : ∀ (i v : Int) p t j, 0 ≤ v → v ≤ 200 → Sp.tok l i = some p → Sp.isS p [40] = true → (Sp.tbl k).atom l i v = some (.ok t j) → i + 3 ≤ j
  box : ∀ (i v : Int), 0 ≤ v → v ≤ 200 → Sim c δ M d full (i + 1) ((Sp.tbl k).box l i v) ((Sp.tbl k).box l' (i + c) (v + d))
  join : ∀ i v : Int, 0 ≤ v → v ≤ 201 → Sim c δ M d full (i + 1) ((Sp.tbl k).join l i v) ((Sp.tbl k).join l' (i + c) (v + d))
  meet : ∀ i v : Int, 0 ≤ v → v ≤ 201 → Sim c δ M d full (i + 1) ((Sp.tbl k).meet l i v) ((Sp.tbl k).meet l' (i + c) (v + d))
  dim : ∀ i v : Int, 0 ≤ v → v ≤ 201 → Sim c δ M d full (i + 1) ((Sp.tbl k).dim l i v) ((Sp.tbl k).dim l' (i + c) (v + d))

theorem simN_loop (h : Sh l l' c δ M d full) {i0 : Int} : ∀ (r : Nat) (i : Int) (ns : List D), i0 ≤ i → SimN c δ M full i0 (Sp.namesL r l i ns) (Sp.namesL r l' (i + c) ns)
  | 0, i, ns, _ => ⟨fun t j e => (by cases e), fun out e => (by cases e)⟩
  | r + 1, i, ns, hi => by
    rw [Sp.namesL, Sp.namesL]
    cases hp : Sp.tok l i with
    | none => exact ⟨fun t j e => (by cases e), fun out e => (by cases e)⟩
    | some p =>
      have ih := simN_loop h r (i + 1) (ns ++ [.str p.2.1]) (i0 := i + 1) (Int.le_refl _)
      have key : ∀ p', RT δ full p p' → SimN c δ M full i (bif decide (p.1 = 1) then must (Sp.short ns) (Sp.namesL r l (up i) (ns ++ [.str p.2.1])) else some (.ok ns i))
          (bif decide (p'.1 = 1) then must (Sp.short ns) (Sp.namesL r l' (up (i + c)) (ns ++ [.str p'.2.1])) else some (.ok ns (i + c))) := by
        intro p' hr
        rw [hr.nm, up_at hp, h.up hp]
        cases hk : decide (p.1 = 1)
        · refine ⟨fun t j e => (by cases e; exact Int.le_refl _), fun out e _ => (by cases e; rfl)⟩
        · have : p' = shiftP δ p := by
            rcases hr with hr | ⟨_, h3, _⟩
            · exact hr
            · rw [h3] at hk; cases hk
          subst this
          cases hs : Sp.short ns
          · exact ⟨fun t j e => (by cases e), fun out e => (by cases e)⟩
          · refine ⟨fun t j e => ?_, fun out e hc => ih.2 out e hc⟩
            have := ih.1 t j e; omega
      rw [optK_now]
      refine ⟨fun t j e => ?_, fun out e hc => ?_⟩
      · have := (key _ (.inl rfl)).1 t j e; omega
      · have hb : full = true ∨ i < M := by
          cases out with
          | ok t j =>
            have := (key _ (.inl rfl)).1 t j e
            rcases hc with hc | hc
            · exact .inl hc
            · exact .inr (by omega)
          | bad a e j => exact .inl hc
        rcases h.at_ i p hp hb with h1 | ⟨h1, _, h3, h4, p', h5, h6, h7⟩
        · rw [h1]; exact (key _ (.inl rfl)).2 out e hc
        · rw [h5]; exact (key p' (.inr ⟨h1, h3, h4, h6, h7⟩)).2 out e hc

theorem simN_names (h : Sh l l' c δ M d full) (r : Nat) (i : Int) : SimN c δ M full (i + 1) (Sp.namesG r l i) (Sp.namesG r l' (i + c)) := by
  unfold Sp.namesG
  cases hp : Sp.tok l i with
  | none => exact ⟨fun t j e => (by cases e), fun out e => (by cases e)⟩
  | some p =>
    rw [optK_now]
    have key : SimN c δ M full (i + 1) (bif decide (p.1 = 1) then Sp.namesL r l (up i) [.str p.2.1] else some (.bad p.2.2 61 i))
        (bif decide (p.1 = 1) then Sp.namesL r l' (up (i + c)) [.str p.2.1] else some (.bad (p.2.2 + δ) 61 (i + c))) := by
      rw [up_at hp, h.up hp]
      cases decide (p.1 = 1)
      · exact ⟨fun t j e => (by cases e), fun out e _ => (by cases e; rfl)⟩
      · exact simN_loop h r (i + 1) _ (Int.le_refl _)
    refine ⟨key.1, fun out e hc => ?_⟩
    have hb : full = true ∨ i + 1 < M := by
      cases out with
      | ok t j =>
        have := key.1 t j e
        rcases hc with hc | hc
        · exact .inl hc
        · exact .inr (by omega)
      | bad a e j => exact .inl hc
    rcases h.at_ i p hp (hb.imp id fun h => by omega) with h1 | ⟨h1, h2, _⟩
    · rw [h1]; exact key.2 out e hc
    · rcases hb with hb | hb
      · rw [h1] at hb; cases hb
      · omega

end
end Go.Vai
end

section
namespace Go.Vai
open Go.Proofs

section
variable {l l' : List D} {c δ M d : Int} {full : Bool}

theorem sim_none {i : Int} {o : Option PR} : Sim c δ M d full i none o := ⟨fun t j e => (by cases e), fun out e => (by cases e)⟩

theorem call_inv {o : Option PR} {K : Tr → Int → Option PR} {t : Tr} {j : Int} (e : Sp.call o K = some (.ok t j)) : ∃ t2 j2, o = some (.ok t2 j2) ∧ K t2 j2 = some (.ok t j) := by
  unfold Sp.call at e
  obtain ⟨r, hr, e⟩ := optK_some e
  cases r with
  | ok t2 j2 => exact ⟨t2, j2, hr, e⟩
  | bad a e2 j2 => cases e
theorem want_inv {l : List D} {x : Int} {s : List UInt8} {K : Int → Option PR} {t : Tr} {j : Int} (e : Sp.want l x s K = some (.ok t j)) : K (x + 1) = some (.ok t j) := by
  unfold Sp.want at e
  obtain ⟨p, hp, e⟩ := optK_some e
  rw [up_at hp] at e
  cases hs : Sp.isS p s <;> rw [hs] at e
  · cases e
  · exact e

theorem after_sim (h : Sh l l' c δ M d full) {k : Nat} (hS : SS l l' c δ M d full k) {v : Int} (hv0 : 0 ≤ v) (hv : v ≤ 200) : ∀ (r : Nat) (i : Int) (t t' : Tr), t' = shiftT δ t →
    Sim c δ M d full i (Sp.afterG (Sp.tbl k) r l i v t) (Sp.afterG (Sp.tbl k) r l' (i + c) (v + d) t')
  | 0, _, _, _, _ => sim_none
  | r + 1, i, t, t', ht => by
    have hu := lev_up h hv0 (by omega)
    rw [Sp.afterG, Sp.afterG]
    refine sim_tok h (Int.le_refl _) fun p p' hp hr => ?_
    refine sim_if (hr.isS (by decide) (by decide)) (fun _ => ?_) fun _ => sim_if (by rw [hr.nm, hr.isS (by decide) (by decide), hr.isS (by decide) (by decide)]) (fun _ => ?_) fun _ => sim_if (by rw [hr.arr]) (fun _ => ?_) fun _ => sim_ok ht (Int.le_refl _)
    · rw [up_at hp, h.up hp, hu.1]
      refine sim_call (hS.dim (i + 1) (up v) (by omega) (by omega)) (by omega) fun u j _ hj => ?_
      exact after_sim h hS hv0 hv r j _ _ (by subst ht; simp [shiftT, shiftD_tr])
    · refine sim_call (hS.atom i v hv0 hv) (by omega) fun u j _ hj => ?_
      exact after_sim h hS hv0 hv r j _ _ (by subst ht; simp [shiftT, shiftD_tr])
    · rw [up_at hp, h.up hp, hu.1, hr.arr]
      refine sim_call (hS.term (i + 1) (up v) (by omega) (by omega)) (by omega) fun u j _ hj => ?_
      exact sim_ok (by subst ht; simp [shiftT, shiftD_tr]) (Int.le_refl _)

theorem join_sim (h : Sh l l' c δ M d full) {k : Nat} (hS : SS l l' c δ M d full k) {v : Int} (hv0 : 0 ≤ v) (hv : v ≤ 201) : ∀ (r : Nat) (i : Int) (t t' : Tr), t' = shiftT δ t →
    Sim c δ M d full i (Sp.joinL (Sp.tbl k) r l i v t) (Sp.joinL (Sp.tbl k) r l' (i + c) (v + d) t')
  | 0, _, _, _, _ => sim_none
  | r + 1, i, t, t', ht => by
    rw [Sp.joinL, Sp.joinL]
    refine sim_tok h (Int.le_refl _) fun p p' hp hr => ?_
    refine sim_if (hr.isS (by decide) (by decide)) (fun _ => ?_) fun _ => sim_ok ht (Int.le_refl _)
    rw [up_at hp, h.up hp]
    refine sim_call (hS.meet (i + 1) v hv0 hv) (by omega) fun u j _ hj => ?_
    exact join_sim h hS hv0 hv r j _ _ (by subst ht; simp [shiftT, shiftD_tr])

theorem meet_sim (h : Sh l l' c δ M d full) {k : Nat} (hS : SS l l' c δ M d full k) {v : Int} (hv0 : 0 ≤ v) (hv : v ≤ 201) : ∀ (r : Nat) (i : Int) (t t' : Tr), t' = shiftT δ t →
    Sim c δ M d full i (Sp.meetL (Sp.tbl k) r l i v t) (Sp.meetL (Sp.tbl k) r l' (i + c) (v + d) t')
  | 0, _, _, _, _ => sim_none
  | r + 1, i, t, t', ht => by
    rw [Sp.meetL, Sp.meetL]
    refine sim_tok h (Int.le_refl _) fun p p' hp hr => ?_
    refine sim_if (hr.isS (by decide) (by decide)) (fun _ => ?_) fun _ => sim_ok ht (Int.le_refl _)
    rw [up_at hp, h.up hp]
    refine sim_call (hS.dim (i + 1) v hv0 hv) (by omega) fun u j _ hj => ?_
    exact meet_sim h hS hv0 hv r j _ _ (by subst ht; simp [shiftT, shiftD_tr])

theorem face_sim (h : Sh l l' c δ M d full) {a : Int} : ∀ (r : Nat) (i : Int) (kids kids' : List D), kids' = kids.map (shiftD δ) →
    Sim c δ M d full (i + 1) (Sp.faceL r l i kids a) (Sp.faceL r l' (i + c) kids' (a + δ))
  | 0, _, _, _, _ => sim_none
  | r + 1, i, kids, kids', hk => by
    rw [Sp.faceL, Sp.faceL]
    refine sim_tok_x h (Int.le_refl _) fun p hp => sim_if rfl (fun _ => ?_) fun _ => sim_bad
    rw [up_at hp, h.up hp]
    refine Sim.mono (i := i + 5) ?_ (by omega)
    refine sim_name h (by omega) fun s => ?_
    refine sim_want h (by omega) ?_
    refine sim_tok_x h (by omega) fun q hq => sim_if rfl (fun _ => ?_) fun _ => sim_bad
    rw [up_at hq, h.up hq]
    refine sim_want h (by omega) ?_
    refine sim_must (by rw [hk, short_map]) ?_
    have e : kids' ++ [trD ⟨13, s, [], [.str (shiftP δ q).2.1], (shiftP δ p).2.2⟩] = (kids ++ [trD ⟨13, s, [], [.str q.2.1], p.2.2⟩]).map (shiftD δ) := by
      rw [List.map_append, hk]; simp [shiftD_tr, shiftT, shiftP]
    refine sim_tok h (by omega) fun u u' hu hr => sim_if (hr.isS (by decide) (by decide)) (fun _ => ?_) fun _ => ?_
    · exact (face_sim h r _ _ _ e).mono (by omega)
    · refine sim_ok ?_ (by omega)
      rw [e]; rfl

theorem box_sim (h : Sh l l' c δ M d full) {k : Nat} (hS : SS l l' c δ M d full k) {v a : Int} (hv0 : 0 ≤ v) (hv : v ≤ 200) : ∀ (r : Nat) (i : Int) (kids kids' : List D), kids' = kids.map (shiftD δ) →
    Sim c δ M d full (i + 1) (Sp.boxL (Sp.tbl k) r l i v kids a) (Sp.boxL (Sp.tbl k) r l' (i + c) (v + d) kids' (a + δ))
  | 0, _, _, _, _ => sim_none
  | r + 1, i, kids, kids', hk => by
    have hu := lev_up h hv0 (by omega)
    rw [Sp.boxL, Sp.boxL]
    refine sim_tok_x h (Int.le_refl _) fun p hp => sim_if rfl (fun _ => ?_) fun _ => ?_
    · rw [up_at hp, h.up hp]
      exact sim_ok (by rw [hk]; rfl) (Int.le_refl _)
    · have step : ∀ j : Int, i ≤ j → Sim c δ M d full (i + 1) (optK (Sp.tok l j) fun q_1 => Sp.call ((Sp.tbl k).face l j) fun f j => optK (Sp.tok l j) fun u =>
          bif Sp.isS u [45, 62] then Sp.call ((Sp.tbl k).term l (up j) (up v)) fun t j => must (Sp.short kids) (Sp.boxL (Sp.tbl k) r l j v (kids ++ [trD ⟨11, [], [trD f, trD t], [], q_1.2.2⟩]) a)
          else must (Sp.short kids) (Sp.boxL (Sp.tbl k) r l j v (kids ++ [trD ⟨11, [], [trD f], [], q_1.2.2⟩]) a))
          (optK (Sp.tok l' (j + c)) fun q_1 => Sp.call ((Sp.tbl k).face l' (j + c)) fun f j => optK (Sp.tok l' j) fun u =>
          bif Sp.isS u [45, 62] then Sp.call ((Sp.tbl k).term l' (up j) (up (v + d))) fun t j => must (Sp.short kids') (Sp.boxL (Sp.tbl k) r l' j (v + d) (kids' ++ [trD ⟨11, [], [trD f, trD t], [], q_1.2.2⟩]) (a + δ))
          else must (Sp.short kids') (Sp.boxL (Sp.tbl k) r l' j (v + d) (kids' ++ [trD ⟨11, [], [trD f], [], q_1.2.2⟩]) (a + δ))) := by
        intro j hj
        refine Sim.mono (i := j + 1) ?_ (by omega)
        refine sim_tok_x h (Int.le_refl _) fun q hq => ?_
        refine sim_call (hS.face j) (Int.le_refl _) fun f j2 _ hj2 => ?_
        refine Sim.mono (i := j2 + 1) ?_ (by omega)
        refine sim_tok_x h (Int.le_refl _) fun u hu' => sim_if rfl (fun _ => ?_) fun _ => ?_
        · rw [up_at hu', h.up hu', hu.1]
          refine sim_call (hS.term (j2 + 1) (up v) (by omega) (by omega)) (by omega) fun t j3 _ hj3 => ?_
          refine sim_must (by rw [hk, short_map]) ?_
          refine Sim.mono (box_sim h hS hv0 hv r j3 _ _ ?_) (by omega)
          rw [List.map_append, hk]; simp [shiftD_tr, shiftT, shiftP]
        · refine sim_must (by rw [hk, short_map]) ?_
          refine Sim.mono (box_sim h hS hv0 hv r j2 _ _ ?_) (by omega)
          rw [List.map_append, hk]; simp [shiftD_tr, shiftT, shiftP]
      unfold Sp.comma
      refine sim_if (by rw [hk, List.length_map]) (fun _ => ?_) fun _ => step i (Int.le_refl _)
      refine Sim.mono (i := i + 1) ?_ (Int.le_refl _)
      exact sim_want h (Int.le_refl _) (step (i + 1) (by omega))

theorem binds_sim (h : Sh l l' c δ M d full) {i : Int} {p : Tk3} (hp : Sp.tok l i = some p) {BT AT BT' AT' : Option PR} (hT : Sp.binds l i = some true → Sim c δ M d full (i + 3) BT BT') (hA : Sim c δ M d full (i + 1) AT AT')
    (hP : Sp.isS p [40] = true → ∀ t j, AT = some (.ok t j) → i + 3 ≤ j) :
    Sim c δ M d full (i + 1) (optK (Sp.binds l i) fun b => bif b then BT else AT) (optK (Sp.binds l' (i + c)) fun b => bif b then BT' else AT') := by
  cases hb : Sp.binds l i with
  | none => exact sim_none
  | some b =>
    rw [optK_now]
    have adv : ∀ t j, (bif b then BT else AT) = some (.ok t j) → i + 1 ≤ j ∧ (Sp.isS p [40] = true → i + 3 ≤ j) := by
      intro t j e
      cases b
      · exact ⟨hA.1 t j e, fun hs => hP hs t j e⟩
      · have := (hT hb).1 t j e
        exact ⟨by omega, fun _ => this⟩
    refine ⟨fun t j e => (adv t j e).1, fun out e hc => ?_⟩
    have hbd : (full = true ∨ i + 1 < M) ∧ (Sp.isS p [40] = true → full = true ∨ i + 3 < M) := by
      cases out with
      | ok t j =>
        have := adv t j e
        rcases hc with hc | hc
        · exact ⟨.inl hc, fun _ => .inl hc⟩
        · exact ⟨.inr (by omega), fun hs => .inr (by have := this.2 hs; omega)⟩
      | bad a e j => exact ⟨.inl hc, fun _ => .inl hc⟩
    have ex : ∀ x q, Sp.tok l x = some q → (full = true ∨ x + 1 < M) → Sp.tok l' (x + c) = some (shiftP δ q) := by
      intro x q hq hx
      rcases h.at_ x q hq (hx.imp id fun h => by omega) with h1 | ⟨h1, h2, _⟩
      · exact h1
      · rcases hx with hx | hx
        · rw [h1] at hx; cases hx
        · omega
    have e' : Sp.binds l' (i + c) = some b := by
      rw [← hb]
      unfold Sp.binds
      rw [ex i p hp hbd.1, hp, optK_now, optK_now]
      show (bif Sp.isS p [40] then _ else _) = _
      cases hs : Sp.isS p [40]
      · rfl
      · have h3 := hbd.2 hs
        unfold Sp.binds at hb
        rw [hp, optK_now, hs, cond_true] at hb
        obtain ⟨q, hq, hb⟩ := optK_some hb
        rw [cond_true, cond_true, show i + c + 1 = i + 1 + c by omega, ex (i + 1) q hq (h3.imp id fun h => by omega), hq, optK_now, optK_now]
        show (bif decide (q.1 = 1) then _ else _) = _
        cases hk : decide (q.1 = 1)
        · rfl
        · rw [hk, cond_true] at hb
          obtain ⟨r, hr, hb⟩ := optK_some hb
          rw [cond_true, cond_true, show i + c + 2 = i + 2 + c by omega, ex (i + 2) r hr (h3.imp id fun h => by omega), hr, optK_now, optK_now]
          rfl
    rw [e', optK_now]
    cases b
    · exact hA.2 out e hc
    · exact (hT hb).2 out e hc

theorem SS_all (h : Sh l l' c δ M d full) : ∀ k, SS l l' c δ M d full k
  | 0 => by
    constructor
    · exact fun i => ⟨fun t j e => (by cases e), fun out e => (by cases e)⟩
    · exact fun i => sim_none
    · exact fun i v _ _ => sim_none
    · exact fun i v t _ _ => sim_none
    · exact fun i v _ _ => sim_none
    · exact fun i v p t j _ _ _ _ e => (by cases e)
    · exact fun i v _ _ => sim_none
    · exact fun i v _ _ => sim_none
    · exact fun i v _ _ => sim_none
    · exact fun i v _ _ => sim_none
  | k + 1 => by
    have hS := SS_all h k
    constructor
    · exact fun i => simN_names h k i
    · -- face
      intro i
      show Sim c δ M d full (i + 1) (Sp.faceG k l i) (Sp.faceG k l' (i + c))
      unfold Sp.faceG
      refine sim_tok_x h (Int.le_refl _) fun p hp => sim_if rfl (fun _ => ?_) fun _ => ?_
      · rw [up_at hp, h.up hp]
        exact sim_ok rfl (Int.le_refl _)
      · exact face_sim h k i [] [] rfl
    · -- term
      intro i v h0 h1
      have hu := lev_up h h0 h1
      show Sim c δ M d full (i + 1) (Sp.termG (Sp.tbl k) l i v) (Sp.termG (Sp.tbl k) l' (i + c) (v + d))
      unfold Sp.termG
      refine sim_tok_x h (Int.le_refl _) fun p hp => sim_deep h fun hv => sim_if rfl (fun _ => ?_) fun _ => sim_if rfl (fun _ => ?_) fun _ => ?_
      · rw [up_at hp, h.up hp, hu.1]
        refine sim_callN (hS.names (i + 1)) (by omega) fun ns j hj => ?_
        refine Sim.mono (i := j + 1) ?_ (by omega)
        refine sim_want h (Int.le_refl _) ?_
        refine sim_call (hS.term (j + 1) (up v) (by omega) (by omega)) (by omega) fun t j2 _ hj2 => ?_
        exact sim_ok (by simp [shiftT, shiftD_tr, shiftP]) (Int.le_refl _)
      · rw [up_at hp, h.up hp, hu.1]
        refine sim_callN (hS.names (i + 1)) (by omega) fun ns j hj => ?_
        refine Sim.mono (i := j + 1) ?_ (by omega)
        refine sim_want h (Int.le_refl _) ?_
        refine sim_call (hS.term (j + 1) (up v) (by omega) (by omega)) (by omega) fun t j2 _ hj2 => ?_
        exact sim_ok (by simp [shiftT, shiftD_tr, shiftP]) (Int.le_refl _)
      · refine binds_sim h hp (fun hb => ?_) ?_ ?_
        · have hsp := tok_spec hp
          rw [up_at hp, h.up hp]
          refine sim_tok_x h (by omega) fun x hx => ?_
          rw [up_at hx, h.up hx]
          have hc0 := h.c0
          have hc1 := h.c1
          have hx2 := tok_spec hx
          have e1 : up (i + 1 + 1) = i + 3 := (IntWalk.i64_in _ (by omega)).trans (by omega)
          have e2 : up (i + 1 + 1 + c) = i + 3 + c := (IntWalk.i64_in _ (by omega)).trans (by omega)
          rw [e1, e2, hu.1]
          refine sim_call (hS.term (i + 3) (up v) (by omega) (by omega)) (by omega) fun a j _ hj => ?_
          refine Sim.mono (i := j + 1) ?_ (by omega)
          refine sim_want h (Int.le_refl _) ?_
          refine sim_tok h (Int.le_refl _) fun q q' hq hr => sim_if (by rw [hr.arr]) (fun _ => ?_) fun _ => ?_
          · rw [up_at hq, h.up hq, hr.arr]
            refine sim_call (hS.term (j + 1 + 1) (up v) (by omega) (by omega)) (by omega) fun t j2 _ hj2 => ?_
            exact sim_ok (by simp [shiftT, shiftD_tr, shiftP]) (Int.le_refl _)
          · have := hS.after (j + 1) v ⟨9, [], [trD ⟨1, x.2.1, [], [], x.2.2⟩, trD a], [], p.2.2⟩ h0 hv
            have e : shiftT δ ⟨9, [], [trD ⟨1, x.2.1, [], [], x.2.2⟩, trD a], [], p.2.2⟩ = ⟨9, [], [trD ⟨1, (shiftP δ x).2.1, [], [], (shiftP δ x).2.2⟩, trD (shiftT δ a)], [], (shiftP δ p).2.2⟩ := by
              simp [shiftT, shiftD_tr, shiftP]
            rw [e] at this
            exact this
        · refine sim_call (hS.atom i v h0 hv) (Int.le_refl _) fun t j _ hj => ?_
          exact hS.after j v t h0 hv
        · intro hs t j e
          unfold Sp.call at e
          obtain ⟨r, hr, e⟩ := optK_some e
          cases r with
          | ok t2 j2 =>
            have h2 := hS.paren i v p t2 j2 h0 hv hp hs hr
            have h3 := (hS.after j2 v t2 h0 hv).1 t j e
            omega
          | bad a e2 j2 => cases e
    · -- after
      exact fun i v t h0 h1 => after_sim h hS h0 h1 k i t _ rfl
    · -- atom
      intro i v h0 h1
      have hu := lev_up h h0 (by omega)
      show Sim c δ M d full (i + 1) (Sp.atomG (Sp.tbl k) l i v) (Sp.atomG (Sp.tbl k) l' (i + c) (v + d))
      unfold Sp.atomG
      refine sim_tok_x h (Int.le_refl _) fun p hp => sim_if rfl (fun _ => ?_) fun _ => sim_if rfl (fun _ => hS.box i v h0 h1) fun _ => sim_if rfl (fun _ => ?_) fun _ => sim_bad
      · rw [up_at hp, h.up hp]
        exact sim_ok rfl (Int.le_refl _)
      · rw [up_at hp, h.up hp, hu.1]
        refine sim_call (hS.term (i + 1) (up v) (by omega) (by omega)) (by omega) fun t j _ hj => ?_
        refine Sim.mono (i := j + 1) ?_ (by omega)
        refine sim_tok_x h (Int.le_refl _) fun q hq => sim_if rfl (fun _ => ?_) fun _ => sim_if rfl (fun _ => ?_) fun _ => sim_if rfl (fun _ => ?_) fun _ => sim_bad
        · rw [up_at hq, h.up hq]
          refine sim_call (hS.term (j + 1) (up v) (by omega) (by omega)) (by omega) fun u j2 _ hj2 => ?_
          refine Sim.mono (i := j2 + 1) ?_ (by omega)
          exact sim_want h (Int.le_refl _) (sim_ok (by simp [shiftT, shiftD_tr, shiftP]) (Int.le_refl _))
        · rw [up_at hq, h.up hq]
          refine sim_call (hS.term (j + 1) (up v) (by omega) (by omega)) (by omega) fun u j2 _ hj2 => ?_
          refine Sim.mono (i := j2 + 1) ?_ (by omega)
          exact sim_want h (Int.le_refl _) (sim_ok (by simp [shiftT, shiftD_tr, shiftP]) (Int.le_refl _))
        · rw [up_at hq, h.up hq]
          exact sim_ok rfl (Int.le_refl _)
    · -- paren
      intro i v p t j h0 h1 hp hs e
      have hu := lev_up h h0 (by omega)
      replace e : Sp.atomG (Sp.tbl k) l i v = some (.ok t j) := e
      have hk := isS_kind hs
      unfold Sp.atomG at e
      rw [hp, optK_now, decide_eq_false (by omega), cond_false] at e
      have hs2 : Sp.isS p [91] = false := by unfold Sp.isS; rw [hk.2]; simp
      rw [hs2, cond_false, hs, cond_true, up_at hp] at e
      obtain ⟨t2, j2, e2, e⟩ := call_inv e
      have hj2 := (hS.term (i + 1) (up v) (by omega) (by omega)).1 t2 j2 e2
      obtain ⟨q, hq, e⟩ := optK_some e
      rw [up_at hq] at e
      cases h5 : Sp.isS q [44] <;> rw [h5] at e
      · rw [cond_false] at e
        cases h6 : Sp.isS q [58] <;> rw [h6] at e
        · rw [cond_false] at e
          cases h7 : Sp.isS q [41] <;> rw [h7] at e
          · cases e
          · cases e; omega
        · rw [cond_true] at e
          obtain ⟨t3, j3, e3, e⟩ := call_inv e
          have hj3 := (hS.term (j2 + 1) (up v) (by omega) (by omega)).1 t3 j3 e3
          have e4 := want_inv e
          cases e4; omega
      · rw [cond_true] at e
        obtain ⟨t3, j3, e3, e⟩ := call_inv e
        have hj3 := (hS.term (j2 + 1) (up v) (by omega) (by omega)).1 t3 j3 e3
        have e4 := want_inv e
        cases e4; omega
    · -- box
      intro i v h0 h1
      show Sim c δ M d full (i + 1) (Sp.boxG (Sp.tbl k) k l i v) (Sp.boxG (Sp.tbl k) k l' (i + c) (v + d))
      unfold Sp.boxG
      refine sim_tok_x h (Int.le_refl _) fun p hp => ?_
      rw [up_at hp, h.up hp]
      exact (box_sim h hS h0 h1 k (i + 1) [] [] rfl).mono (by omega)
    · -- join
      intro i v h0 h1
      show Sim c δ M d full (i + 1) (Sp.joinG (Sp.tbl k) k l i v) (Sp.joinG (Sp.tbl k) k l' (i + c) (v + d))
      unfold Sp.joinG
      refine sim_call (hS.meet i v h0 h1) (Int.le_refl _) fun t j _ hj => ?_
      exact join_sim h hS h0 h1 k j t _ rfl
    · -- meet
      intro i v h0 h1
      show Sim c δ M d full (i + 1) (Sp.meetG (Sp.tbl k) k l i v) (Sp.meetG (Sp.tbl k) k l' (i + c) (v + d))
      unfold Sp.meetG
      refine sim_call (hS.dim i v h0 h1) (Int.le_refl _) fun t j _ hj => ?_
      exact meet_sim h hS h0 h1 k j t _ rfl
    · -- dim
      intro i v h0 h1
      have hu := lev_up h h0 h1
      show Sim c δ M d full (i + 1) (Sp.dimG (Sp.tbl k) l i v) (Sp.dimG (Sp.tbl k) l' (i + c) (v + d))
      unfold Sp.dimG
      refine sim_tok_x h (Int.le_refl _) fun p hp => sim_deep h fun hv => sim_if rfl (fun _ => ?_) fun _ => sim_if rfl (fun _ => ?_) fun _ => sim_if rfl (fun _ => ?_) fun _ => sim_if rfl (fun _ => ?_) fun _ => sim_bad
      · rw [up_at hp, h.up hp]
        exact sim_ok rfl (Int.le_refl _)
      · rw [up_at hp, h.up hp]
        exact sim_ok rfl (Int.le_refl _)
      · rw [up_at hp, h.up hp, hu.1]
        refine sim_call (hS.dim (i + 1) (up v) (by omega) (by omega)) (by omega) fun t j _ hj => ?_
        exact sim_ok (by simp [shiftT, shiftD_tr, shiftP]) (Int.le_refl _)
      · rw [up_at hp, h.up hp, hu.1]
        refine sim_call (hS.join (i + 1) (up v) (by omega) (by omega)) (by omega) fun t j _ hj => ?_
        refine Sim.mono (i := j + 1) ?_ (by omega)
        exact sim_want h (Int.le_refl _) (sim_ok rfl (Int.le_refl _))

end
end Go.Vai
end

section
namespace Go.Vai
open Go.Proofs

theorem pastGo_off : ∀ (r : List UInt8) (c : Bool) (j n : Nat), Sp.pastGo c r (j + n) = Sp.pastGo c r j + n
  | [], c, j, n => by cases c <;> rfl
  | b :: r, true, j, n => by
    rw [Sp.pastGo, Sp.pastGo, show j + n + 1 = j + 1 + n by omega, pastGo_off r]
  | b :: r, false, j, n => by
    rw [Sp.pastGo, Sp.pastGo, show j + n + 1 = j + 1 + n by omega, pastGo_off r false, pastGo_off r true]
    cases Sp.blank b.toNat <;> cases (decide ((b.toNat : Int) = 45) && Sp.hasPre (b :: r) [45, 45]) <;> rfl

theorem drop_pre (P s : List UInt8) (e : Nat) : (P ++ s).drop (P.length + e) = s.drop e := by
  induction P with
  | nil => simp
  | cons b P ih => rw [List.cons_append, List.length_cons, show P.length + 1 + e = (P.length + e) + 1 by omega, List.drop_succ_cons, ih]

theorem past_pre (P s : List UInt8) (e : Nat) : Sp.past (P ++ s) (P.length + e) = P.length + Sp.past s e := by
  unfold Sp.past
  rw [drop_pre, Nat.add_comm P.length e, pastGo_off, Nat.add_comm]

/-- A token, so much further on. -/
def tokShift (δ : Int) : D → D
  | .agg [.int .i64 k, .str t, .int .i64 a] => tokD k t (a + δ)
  | d => d

theorem cov_pre {s : List UInt8} {e : Nat} {l : List D} (P : List UInt8) (h : Cov s e l) : Cov (P ++ s) (P.length + e) (l.map (tokShift (P.length : Int))) := by
  induction h with
  | fin he hp =>
    have : [tokD 0 [] (s.length : Int)].map (tokShift (P.length : Int)) = [tokD 0 [] ((P ++ s).length : Int)] := by
      show [tokD 0 [] ((s.length : Int) + (P.length : Int))] = _
      rw [List.length_append, show ((s.length : Int) + (P.length : Int)) = ((P.length + s.length : Nat) : Int) by omega]
    rw [this]
    refine .fin (by rw [List.length_append]; omega) ?_
    rw [past_pre, hp, List.length_append]
  | @tok e j k t rest he hp hlt ho hne hr ih =>
    have : tokShift (P.length : Int) (tokD k t (j : Int)) = tokD k t ((P.length + j : Nat) : Int) := by
      show tokD k t ((j : Int) + (P.length : Int)) = _
      rw [show ((j : Int) + (P.length : Int)) = ((P.length + j : Nat) : Int) by omega]
    rw [List.map_cons, this]
    refine .tok (by rw [List.length_append]; omega) (by rw [past_pre, hp]) (by rw [List.length_append]; omega) (by rw [drop_pre]; exact ho) hne ?_
    rw [Nat.add_assoc]
    exact ih

/-- Behind a line's end nothing that was ahead of it is otherwise. -/
theorem pastGo_app (r : List UInt8) : ∀ (w : List UInt8) (c : Bool) (j : Nat),
    (Sp.pastGo c w j = j + w.length → Sp.pastGo c (w ++ 10 :: r) j = Sp.pastGo false r (j + w.length + 1)) ∧ (Sp.pastGo c w j < j + w.length → Sp.pastGo c (w ++ 10 :: r) j = Sp.pastGo c w j)
  | [], c, j => by
    refine ⟨fun _ => ?_, fun h => ?_⟩
    · cases c <;> rfl
    · have : Sp.pastGo c [] j = j := by cases c <;> rfl
      rw [this] at h
      exact absurd h (by simp)
  | b :: w, true, j => by
    have ih := pastGo_app r w (!decide ((b.toNat : Int) = 10)) (j + 1)
    rw [List.cons_append, Sp.pastGo, Sp.pastGo, List.length_cons, show j + (w.length + 1) = j + 1 + w.length by omega]
    exact ih
  | b :: w, false, j => by
    have i1 := pastGo_app r w false (j + 1)
    have i2 := pastGo_app r w true (j + 1)
    rw [List.cons_append, Sp.pastGo, Sp.pastGo, List.length_cons, show j + (w.length + 1) = j + 1 + w.length by omega]
    have hpre : Sp.hasPre (b :: (w ++ 10 :: r)) [45, 45] = Sp.hasPre (b :: w) [45, 45] := by
      unfold Sp.hasPre
      cases w with
      | nil =>
        show decide ([b, 10] = [45, 45]) = decide ([b] = [45, 45])
        rw [decide_eq_false (by simp), decide_eq_false (by simp)]
      | cons x w => rfl
    rw [hpre]
    cases Sp.blank b.toNat
    · cases (decide ((b.toNat : Int) = 45) && Sp.hasPre (b :: w) [45, 45])
      · refine ⟨fun h => ?_, fun _ => rfl⟩
        simp only [cond_false] at h
        omega
      · exact i2
    · exact i1

theorem past_end {s : List UInt8} {e : Nat} (r : List UInt8) (he : e ≤ s.length) (hp : Sp.past s e = s.length) : Sp.past (s ++ 10 :: r) e = Sp.past (s ++ 10 :: r) (s.length + 1) := by
  have h1 : (s ++ 10 :: r).drop e = s.drop e ++ 10 :: r := by rw [List.drop_append_of_le_length he]
  have h2 : (s ++ 10 :: r).drop (s.length + 1) = r := by rw [drop_pre]; rfl
  unfold Sp.past at hp ⊢
  rw [h1, h2]
  have hl : (s.drop e).length = s.length - e := List.length_drop
  have := (pastGo_app r (s.drop e) false e).1 (by omega)
  rw [this, hl]
  congr 1
  omega

theorem past_in {s : List UInt8} {e j : Nat} (r : List UInt8) (he : e ≤ s.length) (hp : Sp.past s e = j) (hj : j < s.length) : Sp.past (s ++ 10 :: r) e = j := by
  have h1 : (s ++ 10 :: r).drop e = s.drop e ++ 10 :: r := by rw [List.drop_append_of_le_length he]
  unfold Sp.past at hp ⊢
  rw [h1]
  have hl : (s.drop e).length = s.length - e := List.length_drop
  rw [(pastGo_app r (s.drop e) false e).2 (by omega), hp]

theorem nameGo_app (r : List UInt8) : ∀ (w : List UInt8) (j : Nat), Sp.nameGo (w ++ 10 :: r) j = Sp.nameGo w j
  | [], j => by
    show (bif Sp.letter 10 || (decide (0 < j) && Sp.digit 10) then _ else j) = j
    have : (Sp.letter 10 || (decide (0 < j) && Sp.digit 10)) = false := by cases decide (0 < j) <;> rfl
    rw [this]; rfl
  | b :: w, j => by
    rw [List.cons_append, Sp.nameGo, Sp.nameGo, nameGo_app r w]

theorem hasPre_app {x : List UInt8} (hx : (10 : UInt8) ∉ x) (w r : List UInt8) : Sp.hasPre (w ++ 10 :: r) x = Sp.hasPre w x := by
  unfold Sp.hasPre
  by_cases h : x.length ≤ w.length
  · rw [List.take_append_of_le_length h]
  · have h1 : ¬ (w ++ 10 :: r).take x.length = x := by
      intro he
      apply hx
      rw [← he]
      have : (w ++ 10 :: r)[w.length]? = some 10 := by simp
      have h2 : ((w ++ 10 :: r).take x.length)[w.length]? = some 10 := by rw [List.getElem?_take, if_pos (by omega), this]
      exact List.mem_of_getElem? h2
    have h2 : ¬ w.take x.length = x := by
      intro he
      have := congrArg List.length he
      rw [List.length_take] at this
      omega
    rw [decide_eq_false h1, decide_eq_false h2]

theorem signGo_app (w r : List UInt8) : ∀ l : List (List UInt8), (∀ x ∈ l, (10 : UInt8) ∉ x) → Sp.signGo (w ++ 10 :: r) l = Sp.signGo w l
  | [], _ => rfl
  | x :: l, h => by
    rw [Sp.signGo, Sp.signGo, hasPre_app (h x List.mem_cons_self), signGo_app w r l fun y hy => h y (List.mem_cons_of_mem _ hy)]

theorem one_app (w r : List UInt8) : Sp.one (w ++ 10 :: r) = Sp.one w := by
  have hn : Sp.nameLen (w ++ 10 :: r) = Sp.nameLen w := nameGo_app r w 0
  have hl : Sp.nameLen w ≤ w.length := by have := nameGo_le w 0; unfold Sp.nameLen; omega
  unfold Sp.one
  rw [hn, signGo_app w r _ (by decide), List.take_append_of_le_length hl]

theorem cov_past {X : List UInt8} {e e' : Nat} {l : List D} (h : Cov X e' l) (hp : Sp.past X e = Sp.past X e') (he : e ≤ X.length) : Cov X e l := by
  cases h with
  | fin h1 h2 => exact .fin he (hp.trans h2)
  | tok h1 h2 h3 h4 h5 h6 => exact .tok he (hp.trans h2) h3 h4 h5 h6

theorem cov_app {s : List UInt8} {e : Nat} {l : List D} (r : List UInt8) (h : Cov s e l) : ∃ I, l = I ++ [tokD 0 [] (s.length : Int)] ∧ ∀ rest, Cov (s ++ 10 :: r) (s.length + 1) rest → Cov (s ++ 10 :: r) e (I ++ rest) := by
  induction h with
  | fin he hp =>
    refine ⟨[], rfl, fun rest hr => ?_⟩
    exact cov_past hr (past_end r he hp) (by rw [List.length_append]; omega)
  | @tok e j k t rest he hp hlt ho hne hr ih =>
    obtain ⟨I, rfl, hI⟩ := ih
    refine ⟨tokD k t (j : Int) :: I, rfl, fun rest' hr' => ?_⟩
    refine .tok (by rw [List.length_append]; omega) (past_in r he hp hlt) (by rw [List.length_append]; omega) ?_ hne (hI rest' hr')
    rw [List.drop_append_of_le_length (by omega), one_app]
    exact ho

/-- A text that has a token nowhere at some place. -/
inductive Cbad (s : List UInt8) : Nat → Nat → Prop
  | here {e j : Nat} : e ≤ s.length → Sp.past s e = j → j < s.length → (Sp.one (s.drop j)).2 = [] → Cbad s e j
  | tok {e j p : Nat} {k : Int} {t : List UInt8} : e ≤ s.length → Sp.past s e = j → j < s.length → Sp.one (s.drop j) = (k, t) → t ≠ [] → Cbad s (j + t.length) p → Cbad s e p

theorem toks_cbad {s : List UInt8} : ∀ (f e : Nat) (acc : List D), e ≤ s.length → s.length - Sp.past s e < f →
    (∃ rest, Sp.toks f s (Sp.past s e) acc = (acc ++ rest, 0, 0) ∧ Cov s e rest) ∨ (∃ p : Nat, Sp.toks f s (Sp.past s e) acc = ([], (p : Int), 61) ∧ p < s.length ∧ Cbad s e p)
  | 0, _, _, _, hf => by omega
  | f + 1, e, acc, he, hf => by
    have hb := past_bounds he
    rw [Sp.toks]
    by_cases hlt : Sp.past s e < s.length
    · rw [decide_eq_true hlt, cond_true]
      have hle := one_le (s.drop (Sp.past s e))
      rw [List.length_drop] at hle
      by_cases ho : (Sp.one (s.drop (Sp.past s e))).2 = []
      · rw [decide_eq_true ho, cond_true]; exact .inr ⟨_, rfl, hlt, .here he rfl hlt ho⟩
      · rw [decide_eq_false ho, cond_false]
        have hpos : 0 < (Sp.one (s.drop (Sp.past s e))).2.length := List.length_pos_iff.2 ho
        have hb2 := past_bounds (s := s) (j := Sp.past s e + (Sp.one (s.drop (Sp.past s e))).2.length) (by omega)
        rcases toks_cbad (s := s) f (Sp.past s e + (Sp.one (s.drop (Sp.past s e))).2.length) (acc ++ [tokD (Sp.one (s.drop (Sp.past s e))).1 (Sp.one (s.drop (Sp.past s e))).2 (Sp.past s e : Int)]) (by omega) (by omega) with ⟨rest, h1, h2⟩ | ⟨p, h1, h2, h3⟩
        · exact .inl ⟨_, by rw [h1, List.append_assoc]; rfl, .tok he rfl hlt rfl ho h2⟩
        · exact .inr ⟨p, h1, h2, .tok he rfl hlt rfl ho h3⟩
    · rw [decide_eq_false hlt, cond_false]
      exact .inl ⟨_, rfl, .fin he (by omega)⟩

theorem cbad_toks {s : List UInt8} {e p : Nat} (h : Cbad s e p) : ∀ (f : Nat) (acc : List D), s.length - Sp.past s e < f → Sp.toks f s (Sp.past s e) acc = ([], (p : Int), 61) := by
  induction h with
  | @here e j he hp hlt ho =>
    intro f acc hf
    obtain ⟨f, rfl⟩ : ∃ i, f = i + 1 := ⟨f - 1, by omega⟩
    rw [Sp.toks, hp, decide_eq_true hlt, cond_true, decide_eq_true ho, cond_true]
  | @tok e j p k t he hp hlt ho hne hr ih =>
    intro f acc hf
    obtain ⟨f, rfl⟩ : ∃ i, f = i + 1 := ⟨f - 1, by omega⟩
    have hle := one_le (s.drop j)
    rw [List.length_drop, ho] at hle
    have hpos : 0 < t.length := List.length_pos_iff.2 hne
    have hle' : t.length ≤ s.length - j := hle
    have hb := past_bounds (s := s) (j := j + t.length) (by omega)
    rw [Sp.toks, hp, decide_eq_true hlt, cond_true, ho]
    simp only []
    rw [decide_eq_false hne, cond_false, ih f _ (by omega)]

theorem cbad_pre {s : List UInt8} {e p : Nat} (P : List UInt8) (h : Cbad s e p) : Cbad (P ++ s) (P.length + e) (P.length + p) := by
  induction h with
  | @here e j he hp hlt ho => exact .here (by rw [List.length_append]; omega) (by rw [past_pre, hp]) (by rw [List.length_append]; omega) (by rw [drop_pre]; exact ho)
  | @tok e j p k t he hp hlt ho hne hr ih =>
    refine .tok (by rw [List.length_append]; omega) (by rw [past_pre, hp]) (by rw [List.length_append]; omega) (by rw [drop_pre]; exact ho) hne ?_
    rw [Nat.add_assoc]
    exact ih
theorem cbad_past {X : List UInt8} {e e' p : Nat} (h : Cbad X e' p) (hp : Sp.past X e = Sp.past X e') (he : e ≤ X.length) : Cbad X e p := by
  cases h with
  | here h1 h2 h3 h4 => exact .here he (hp.trans h2) h3 h4
  | tok h1 h2 h3 h4 h5 h6 => exact .tok he (hp.trans h2) h3 h4 h5 h6
theorem cbad_app {s : List UInt8} {e : Nat} {l : List D} (r : List UInt8) (h : Cov s e l) {p : Nat} (hb : Cbad (s ++ 10 :: r) (s.length + 1) p) : Cbad (s ++ 10 :: r) e p := by
  induction h with
  | fin he hp => exact cbad_past hb (past_end r he hp) (by rw [List.length_append]; omega)
  | @tok e j k t rest he hp hlt ho hne hr ih =>
    refine .tok (k := k) (by rw [List.length_append]; omega) (past_in r he hp hlt) (by rw [List.length_append]; omega) ?_ hne ih
    rw [List.drop_append_of_le_length (by omega), one_app]
    exact ho

/- UTF-8. -/
theorem uni_app {b : UInt8} {r : List UInt8} (q : List UInt8) (h : Sp.uni (b :: r) ≠ 0) : Sp.uni (b :: r ++ q) = Sp.uni (b :: r) := by
  rw [List.cons_append]
  simp only [Sp.uni] at h ⊢
  cases h1 : decide (b.toNat < 128) <;> rw [h1] at h
  · cases h2 : (decide (194 ≤ b.toNat) && decide (b.toNat ≤ 223)) <;> rw [h2] at h
    · cases h3 : (decide (224 ≤ b.toNat) && decide (b.toNat ≤ 239)) <;> rw [h3] at h
      · cases h4 : (decide (240 ≤ b.toNat) && decide (b.toNat ≤ 244)) <;> rw [h4] at h
        · rfl
        · match r, h with
          | [], h => exact absurd rfl h
          | [_], h => exact absurd rfl h
          | [_, _], h => exact absurd rfl h
          | _ :: _ :: _ :: _, h => rfl
      · match r, h with
        | [], h => exact absurd rfl h
        | [_], h => exact absurd rfl h
        | _ :: _ :: _, h => rfl
    · match r, h with
      | [], h => exact absurd rfl h
      | _ :: _, h => rfl
  · rfl

theorem cont10 : Sp.cont 10 = false := by decide

theorem uni_bad {b : UInt8} {r : List UInt8} (q : List UInt8) (h : Sp.uni (b :: r) = 0) : Sp.uni (b :: r ++ 10 :: q) = 0 := by
  rw [List.cons_append]
  simp only [Sp.uni] at h ⊢
  cases h1 : decide (b.toNat < 128) <;> rw [h1] at h
  · cases h2 : (decide (194 ≤ b.toNat) && decide (b.toNat ≤ 223)) <;> rw [h2] at h
    · cases h3 : (decide (224 ≤ b.toNat) && decide (b.toNat ≤ 239)) <;> rw [h3] at h
      · cases h4 : (decide (240 ≤ b.toNat) && decide (b.toNat ≤ 244)) <;> rw [h4] at h
        · rfl
        · have k1 : ¬ (128 : Nat) ≤ (10 : UInt8).toNat := by decide
          have k2 : ¬ (144 : Nat) ≤ (10 : UInt8).toNat := by decide
          have k3 : ∀ x : Bool, decide ((bif x then 144 else 128) ≤ (10 : UInt8).toNat) = false := fun x => by cases x <;> decide
          match r, h with
          | [], h =>
            simp only [cond_false, cond_true, List.nil_append]
            match q with
            | [] => rfl
            | [_] => rfl
            | _ :: _ :: _ => simp only [k3, Bool.false_and, cond_false]
          | [x], h =>
            simp only [cond_false, cond_true, List.cons_append, List.nil_append]
            match q with
            | [] => rfl
            | _ :: _ => simp only [cont10, Bool.and_false, Bool.false_and, cond_false]
          | [x, y], h =>
            simp only [cond_false, cond_true, List.cons_append, List.nil_append, cont10, Bool.and_false]
          | _ :: _ :: _ :: _, h => exact h
      · have k3 : ∀ x : Bool, decide ((bif x then 160 else 128) ≤ (10 : UInt8).toNat) = false := fun x => by cases x <;> decide
        match r, h with
        | [], h =>
          simp only [cond_false, cond_true, List.nil_append]
          match q with
          | [] => rfl
          | _ :: _ => simp only [k3, Bool.false_and, cond_false]
        | [x], h => simp only [cond_false, cond_true, List.cons_append, List.nil_append, cont10, Bool.and_false]
        | _ :: _ :: _, h => exact h
    · match r, h with
      | [], h => simp only [cond_false, cond_true, List.nil_append, cont10]
      | _ :: _, h => exact h
  · exact h

theorem uni_one (b : UInt8) (r : List UInt8) (h : b.toNat < 128) : Sp.uni (b :: r) = 1 := by
  simp only [Sp.uni, decide_eq_true h, cond_true]

theorem utf_off : ∀ (f : Nat) (r : List UInt8) (j n : Nat), Sp.utfGo f r (j + n) = (Sp.utfGo f r j).map (· + n)
  | 0, [], _, _ => rfl
  | _ + 1, [], _, _ => rfl
  | 0, _ :: _, _, _ => rfl
  | f + 1, b :: r, j, n => by
    rw [Sp.utfGo, Sp.utfGo]
    cases Nat.beq (Sp.uni (b :: r)) 0
    · rw [cond_false, cond_false, show j + n + Sp.uni (b :: r) = j + Sp.uni (b :: r) + n by omega, utf_off f]
    · rfl

/-- A text behind a good one is good, or where it is not. -/
theorem utf_app (q : List UInt8) : ∀ (f : Nat) (w : List UInt8) (j f' : Nat), w.length ≤ f → w.length + q.length ≤ f' → Sp.utfGo f w j = none → ∃ f'', q.length ≤ f'' ∧ Sp.utfGo f' (w ++ q) j = Sp.utfGo f'' q (j + w.length)
  | f, [], j, f', _, hf', _ => ⟨f', by simpa using hf', by simp⟩
  | 0, b :: w, _, _, hf, _, _ => by simp at hf
  | f + 1, b :: w, j, f', hf, hf', h => by
    rw [Sp.utfGo] at h
    cases hu : Nat.beq (Sp.uni (b :: w)) 0
    · rw [hu, cond_false] at h
      have h0 : Sp.uni (b :: w) ≠ 0 := fun e => by rw [e] at hu; cases hu
      have hle := uni_le (b :: w)
      simp only [List.length_cons] at hf hf' hle
      obtain ⟨f', rfl⟩ : ∃ i, f' = i + 1 := ⟨f' - 1, by omega⟩
      obtain ⟨f'', h1, h2⟩ := utf_app q f ((b :: w).drop (Sp.uni (b :: w))) (j + Sp.uni (b :: w)) f' (by rw [List.length_drop, List.length_cons]; omega) (by rw [List.length_drop, List.length_cons]; omega) h
      refine ⟨f'', h1, ?_⟩
      have e := uni_app q h0
      rw [List.cons_append] at e
      rw [List.cons_append, Sp.utfGo, e, hu, cond_false, ← List.cons_append, List.drop_append_of_le_length (by simpa using hle), h2, List.length_drop, List.length_cons]
      congr 1
      omega
    · rw [hu, cond_true] at h; cases h

theorem utf_app_bad (q : List UInt8) : ∀ (f : Nat) (w : List UInt8) (j f' p : Nat), w.length ≤ f → w.length + (q.length + 1) ≤ f' → Sp.utfGo f w j = some p → Sp.utfGo f' (w ++ 10 :: q) j = some p
  | _, [], _, _, _, _, _, h => by simp [Sp.utfGo] at h
  | 0, b :: w, _, _, _, hf, _, _ => by simp at hf
  | f + 1, b :: w, j, f', p, hf, hf', h => by
    rw [Sp.utfGo] at h
    simp only [List.length_cons] at hf hf'
    obtain ⟨f', rfl⟩ : ∃ i, f' = i + 1 := ⟨f' - 1, by omega⟩
    cases hu : Nat.beq (Sp.uni (b :: w)) 0
    · rw [hu, cond_false] at h
      have h0 : Sp.uni (b :: w) ≠ 0 := fun e => by rw [e] at hu; cases hu
      have hle := uni_le (b :: w)
      simp only [List.length_cons] at hle
      have e := uni_app (10 :: q) h0
      rw [List.cons_append] at e
      rw [List.cons_append, Sp.utfGo, e, hu, cond_false, ← List.cons_append, List.drop_append_of_le_length (by simpa using hle)]
      exact utf_app_bad q f _ _ f' p (by rw [List.length_drop, List.length_cons]; omega) (by rw [List.length_drop, List.length_cons]; omega) h
    · rw [hu, cond_true] at h
      have h0 : Sp.uni (b :: w) = 0 := Nat.eq_of_beq_eq_true hu
      have e := uni_bad q h0
      rw [List.cons_append] at e
      rw [List.cons_append, Sp.utfGo, e]
      exact h

/-- Enough fuel is enough. -/
theorem utf_fuel : ∀ (f f' : Nat) (r : List UInt8) (j : Nat), r.length ≤ f → r.length ≤ f' → Sp.utfGo f r j = Sp.utfGo f' r j
  | f, f', [], j, _, _ => by cases f <;> cases f' <;> rfl
  | 0, _, _ :: _, _, h, _ => by simp at h
  | _ + 1, 0, _ :: _, _, _, h => by simp at h
  | f + 1, f' + 1, b :: r, j, h, h' => by
    rw [Sp.utfGo, Sp.utfGo]
    cases hu : Nat.beq (Sp.uni (b :: r)) 0
    · have h0 : Sp.uni (b :: r) ≠ 0 := fun e => by rw [e] at hu; cases hu
      simp only [List.length_cons] at h h'
      rw [cond_false, cond_false]
      exact utf_fuel f f' _ _ (by rw [List.length_drop, List.length_cons]; omega) (by rw [List.length_drop, List.length_cons]; omega)
    · rfl

end Go.Vai
end

section
namespace Go.Vai
open Go.Proofs

theorem tokD_inj {k k' : Int} {t t' : List UInt8} {a a' : Int} (h : tokD k t a = tokD k' t' a') : k = k' ∧ t = t' ∧ a = a' := by
  cases h; exact ⟨rfl, rfl, rfl⟩

theorem cov_is {s : List UInt8} {e : Nat} {l : List D} (h : Cov s e l) : ∀ (x : Nat) d, l[x]? = some d → ∃ k t a, d = tokD k t a ∧ (e : Int) ≤ a ∧ a ≤ s.length ∧ ((x + 1 < l.length ∧ (k = 1 ∨ k = 2)) ∨ (x + 1 = l.length ∧ k = 0 ∧ t = [])) := by
  induction h with
  | @fin e he hp =>
    intro x d hd
    cases x with
    | zero => simp at hd; subst hd; exact ⟨0, [], _, rfl, by omega, Int.le_refl _, .inr ⟨rfl, rfl, rfl⟩⟩
    | succ x => simp at hd
  | @tok e j k t rest he hp hlt ho hne hr ih =>
    intro x d hd
    have hb := past_bounds he
    rw [hp] at hb
    have hr0 := hr.ne
    cases x with
    | zero =>
      simp at hd; subst hd
      refine ⟨k, t, _, rfl, by omega, by omega, .inl ⟨by simp; omega, ?_⟩⟩
      rcases tk_of_one ho hne with h | h
      · exact .inl h.1
      · exact .inr h.1
    | succ x =>
      obtain ⟨k', t', a, h1, h2, h3, h4⟩ := ih x d (by simpa using hd)
      refine ⟨k', t', a, h1, by omega, h3, ?_⟩
      simp only [List.length_cons]
      rcases h4 with h4 | h4
      · exact .inl ⟨by omega, h4.2⟩
      · exact .inr ⟨by omega, h4.2⟩

theorem cov_lt {s : List UInt8} {e : Nat} {l : List D} (h : Cov s e l) : ∀ (x y : Nat) k t a k' t' a', x < y → l[x]? = some (tokD k t a) → l[y]? = some (tokD k' t' a') → a < a' := by
  induction h with
  | @fin e he hp => intro x y k t a k' t' a' hxy hx hy; obtain ⟨y, rfl⟩ : ∃ i, y = i + 1 := ⟨y - 1, by omega⟩; simp at hy
  | @tok e j k t rest he hp hlt ho hne hr ih =>
    intro x y k1 t1 a k' t' a' hxy hx hy
    obtain ⟨y, rfl⟩ : ∃ i, y = i + 1 := ⟨y - 1, by omega⟩
    have hy' : rest[y]? = some (tokD k' t' a') := by simpa using hy
    cases x with
    | zero =>
      have e1 : tokD k t (j : Int) = tokD k1 t1 a := by simpa using hx
      obtain ⟨_, _, rfl⟩ := tokD_inj e1
      obtain ⟨k2, t2, a2, h1, h2, _⟩ := cov_is hr y _ hy'
      obtain ⟨_, _, rfl⟩ := tokD_inj h1
      have : 0 < t.length := List.length_pos_iff.2 hne
      omega
    | succ x => exact ih x y k1 t1 a k' t' a' (by omega) (by simpa using hx) hy'

theorem tok_of_get {l : List D} {x : Nat} {k : Int} {t : List UInt8} {a : Int} (h : l[x]? = some (tokD k t a)) (hx : x < 4294967296) : Sp.tok l (x : Int) = some (k, t, a) := by
  unfold Sp.tok
  rw [decide_eq_true (p := (0 : Int) ≤ (x : Int)) (by omega), decide_eq_true (p := (x : Int) < 4294967296) (by omega), Bool.and_self, cond_true, Int.toNat_natCast, h]
  rfl

/-- A reader's tokens out of a text's. -/
theorem ext_tok {I : List D} {E : D} {x : Int} {p : Tk3} (h : Sp.tok (Sp.ext (I ++ [E])) x = some p) : 0 ≤ x ∧ ∃ y : Nat, (I ++ [E])[y]? = some (tokD p.1 p.2.1 p.2.2) ∧ ((x < I.length ∧ (y : Int) = x) ∨ ((I.length : Int) ≤ x ∧ y = I.length)) := by
  obtain ⟨h0, h1, _, h3⟩ := tok_spec h
  refine ⟨h0, ?_⟩
  rw [ext_snoc] at h3 h1
  by_cases hx : x.toNat < I.length
  · refine ⟨x.toNat, ?_, .inl ⟨by omega, by omega⟩⟩
    rw [List.append_assoc, List.getElem?_append_left hx] at h3
    rw [List.getElem?_append_left hx]; exact h3
  · refine ⟨I.length, ?_, .inr ⟨by omega, rfl⟩⟩
    rw [List.append_assoc, List.getElem?_append_right (by omega)] at h3
    rw [List.getElem?_concat_length]
    simp only [List.length_append, List.length_cons, List.length_nil] at h1
    obtain ⟨i, hi⟩ : ∃ i, x.toNat - I.length = i := ⟨_, rfl⟩
    rw [hi] at h3
    have : i < 3 := by omega
    match i, this with
    | 0, _ => exact h3
    | 1, _ => exact h3
    | 2, _ => exact h3

theorem ext_get (I : List D) (E : D) (x : Int) (h0 : 0 ≤ x) (h1 : x ≤ (I.length : Int) + 2) : ∃ y : Nat, (Sp.ext (I ++ [E]))[x.toNat]? = (I ++ [E])[y]? ∧ y < (I ++ [E]).length := by
  rw [ext_snoc]
  by_cases hx : x.toNat < I.length
  · refine ⟨x.toNat, ?_, by simp; omega⟩
    rw [List.append_assoc, List.getElem?_append_left hx, List.getElem?_append_left hx]
  · refine ⟨I.length, ?_, by simp⟩
    rw [List.append_assoc, List.getElem?_append_right (by omega), List.getElem?_concat_length]
    obtain ⟨i, hi⟩ : ∃ i, x.toNat - I.length = i := ⟨_, rfl⟩
    rw [hi]
    have : i < 3 := by omega
    match i, this with
    | 0, _ => rfl
    | 1, _ => rfl
    | 2, _ => rfl

theorem toks_of {s : List UInt8} (hs : s.length ≤ 65536) {I : List D} {E : D} (h : Cov s 0 (I ++ [E])) (hl : (I ++ [E]).length ≤ 65537) : Toks (Sp.ext (I ++ [E])) I.length (s.length : Int) := by
  have hlen : (I ++ [E]).length = I.length + 1 := by simp
  constructor
  · intro x h0 h1
    obtain ⟨y, h2, h3⟩ := ext_get I E x h0 h1
    obtain ⟨k, t, a, h4, _⟩ := cov_is h y _ (List.getElem?_eq_getElem h3)
    rw [List.getElem?_eq_getElem h3, h4] at h2
    have := tok_of_get h2 (by omega)
    rw [show ((x.toNat : Nat) : Int) = x by omega] at this
    exact ⟨_, this⟩
  · intro x p hp hx
    obtain ⟨h0, y, hy, h1⟩ := ext_tok hp
    obtain ⟨k, t, a, h4, _, _, h5⟩ := cov_is h y _ hy
    obtain ⟨rfl, _, _⟩ := tokD_inj h4
    omega
  · intro x p hp hx
    obtain ⟨h0, y, hy, h1⟩ := ext_tok hp
    obtain ⟨k, t, a, h4, _, _, h5⟩ := cov_is h y _ hy
    obtain ⟨rfl, rfl, _⟩ := tokD_inj h4
    rcases h5 with h5 | h5
    · omega
    · exact h5.2
  · omega
  · intro x y p q hp hq hxy
    obtain ⟨h0, x', hx', h1⟩ := ext_tok hp
    obtain ⟨h0', y', hy', h1'⟩ := ext_tok hq
    by_cases hlt : x' < y'
    · have := cov_lt h x' y' _ _ _ _ _ _ hlt hx' hy'; omega
    · have : x' = y' := by omega
      subst this
      rw [hx'] at hy'
      obtain ⟨_, _, h6⟩ := tokD_inj (Option.some.inj hy')
      omega
  · intro x p hp
    obtain ⟨h0, y, hy, h1⟩ := ext_tok hp
    obtain ⟨k, t, a, h4, h5, h6, _⟩ := cov_is h y _ hy
    obtain ⟨_, _, rfl⟩ := tokD_inj h4
    exact ⟨by omega, h6⟩

/-- A text that has tokens, and what a reader has. -/
structure Text (s : List UInt8) (I : List D) : Prop where
  len : s.length ≤ 65536
  scan : Sp.scan s = (I ++ [tokD 0 [] (s.length : Int)], 0, 0)
  cov : Cov s 0 (I ++ [tokD 0 [] (s.length : Int)])
  toks : Toks (Sp.ext (I ++ [tokD 0 [] (s.length : Int)])) I.length (s.length : Int)

theorem text_or (s : List UInt8) : (∃ I, Text s I) ∨ (Sp.scE s ≠ 0 ∧ ∃ p : Nat, Sp.scA s = (p : Int) ∧ p ≤ s.length) := by
  rcases scan_says s with ⟨h1, _, l, h3, h4⟩ | ⟨h1, _, p, h3, h4⟩
  · obtain ⟨I, rfl⟩ := cov_last h4
    have hl := scan_len s
    rw [h3] at hl
    replace hl : (I ++ [tokD 0 [] (s.length : Int)]).length ≤ s.length + 1 := hl
    exact .inl ⟨I, h1, h3, h4, toks_of h1 h4 (by omega)⟩
  · exact .inr ⟨h1, p, h3, h4⟩

/-- What a text is. -/
theorem term_of {s : List UInt8} {I : List D} (h : Text s I) {k : Nat} (hk : 600000 ≤ k) :
    (∃ t n, Sp.termOf k s = some (.ok t) ∧ Sp.term k (Sp.ext (I ++ [tokD 0 [] (s.length : Int)])) 0 1 = some (.ok t I.length) ∧ 0 < I.length ∧ ∃ x, 0 ≤ x ∧ Wn (Sp.ext (I ++ [tokD 0 [] (s.length : Int)])) n x t) ∨
    (∃ a e, Sp.termOf k s = some (.bad a e) ∧ 0 ≤ a ∧ a ≤ s.length ∧ (e = 61 ∨ e = 62)) := by
  have hE : Sp.scE s = 0 := by unfold Sp.scE; rw [h.scan]
  have hL : Sp.scL s = I ++ [tokD 0 [] (s.length : Int)] := by unfold Sp.scL; rw [h.scan]
  have hT := h.toks
  have hsm := hT.small
  obtain ⟨out, ho, hg⟩ := (UU_all hT k).term 0 1 (Int.le_refl _) (by omega) (by have := hT.small; have := h.len; have hl := scan_len s; rw [h.scan] at hl; simp at hl; omega)
  unfold Sp.termOf
  rw [hE, decide_eq_true rfl, cond_true, hL]
  change Sp.term k _ 0 1 = some out at ho
  rw [ho, optK_now]
  cases out with
  | ok t j =>
    obtain ⟨x, h1, h2, h3, n, hW⟩ := hg
    obtain ⟨q, hq⟩ := hT.at_ j (by omega) (by omega)
    show (∃ t_1 n, optK (Sp.tok _ j) _ = _ ∧ _) ∨ (∃ a e, optK (Sp.tok _ j) _ = _ ∧ _)
    rw [hq, optK_now]
    by_cases hz : q.1 = 0
    · have hj : j = I.length := by
        by_cases hlt : j < I.length
        · have := hT.kind j q hq hlt; omega
        · omega
      subst hj
      refine .inl ⟨t, n, ?_, rfl, by omega, x, h1, hW⟩
      rw [decide_eq_true hz]; rfl
    · have := hT.low j q hq
      refine .inr ⟨q.2.2, 61, ?_, this.1, this.2, .inl rfl⟩
      rw [decide_eq_false hz]; rfl
  | bad a e j =>
    obtain ⟨⟨x, p, hp, rfl⟩, he⟩ := hg
    have := hT.low x p hp
    exact .inr ⟨p.2.2, e, rfl, this.1, this.2, he⟩

theorem term_bad {s : List UInt8} (h : Sp.scE s ≠ 0) (k : Nat) : Sp.termOf k s = some (.bad (Sp.scA s) (Sp.scE s)) := by
  unfold Sp.termOf
  rw [decide_eq_false h]; rfl

/- Places. -/
theorem begF_at {a : Int} {k : Int} {t : List UInt8} : ∀ (l : List D) (y : Nat), (∀ i < y, ∃ k' t' a', l[i]? = some (tokD k' t' a') ∧ a' ≠ a) → l[y]? = some (tokD k t a) → Sp.begF a l = some t
  | [], y, _, hy => by simp at hy
  | d :: l, 0, _, hy => by
    simp at hy
    subst hy
    show (bif decide (a = a) then some t else _) = _
    rw [decide_eq_true rfl]; rfl
  | d :: l, y + 1, h, hy => by
    obtain ⟨k', t', a', h1, h2⟩ := h 0 (by omega)
    simp at h1
    subst h1
    show (bif decide (a' = a) then some t' else Sp.begF a l) = _
    rw [decide_eq_false h2, cond_false]
    exact begF_at l y (fun i hi => by simpa using h (i + 1) (by omega)) (by simpa using hy)

theorem beg_tok {s : List UInt8} {I : List D} (h : Text s I) {x : Int} {p : Tk3} (hp : Sp.tok (Sp.ext (I ++ [tokD 0 [] (s.length : Int)])) x = some p) : Sp.begT (I ++ [tokD 0 [] (s.length : Int)]) p.2.2 = some p.2.1 := by
  obtain ⟨_, y, hy, _⟩ := ext_tok hp
  refine begF_at _ y (fun i hi => ?_) hy
  have hyl := (List.getElem?_eq_some_iff.1 hy).1
  obtain ⟨k, t, a, h1, _⟩ := cov_is h.cov i _ (List.getElem?_eq_getElem (by omega))
  have h2 : (I ++ [tokD 0 [] (s.length : Int)])[i]? = some (tokD k t a) := by rw [← h1]; exact List.getElem?_eq_getElem (by omega)
  refine ⟨k, t, a, h2, ?_⟩
  have := cov_lt h.cov i y _ _ _ _ _ _ hi h2 hy
  omega

theorem with_of {s : List UInt8} {I : List D} (h : Text s I) : ∀ (n : Nat) (x : Int) (t : Tr) (a : Int), Wn (Sp.ext (I ++ [tokD 0 [] (s.length : Int)])) n x t → a ≤ t.pl → Sp.withT n (trD t) (I ++ [tokD 0 [] (s.length : Int)]) a = true
  | 0, _, _, _, hW, _ => hW.elim
  | n + 1, x, t, a, ⟨p, h1, h2, h3, h4, h5, h6, h7, h8, h9⟩, ha => by
    have hb := beg_tok h h1
    rw [← h2] at hb
    have hl := scan_len s
    rw [h.scan] at hl
    replace hl : (I ++ [tokD 0 [] (s.length : Int)]).length ≤ s.length + 1 := hl
    have hlen := h.len
    show ((match Sp.begT _ t.pl with | some s => decide (a ≤ t.pl) && decide (1 ≤ t.k) && decide (t.k ≤ 17) && (!decide (t.k = 1) || decide (s = t.nm)) | none => false) && Sp.short _ && decide (t.kids.length < 4294967296) && t.kids.all fun k => Sp.withT n k _ t.pl) = true
    rw [hb]
    simp only [Bool.and_eq_true, decide_eq_true_eq, Bool.or_eq_true, Bool.not_eq_true', decide_eq_false_iff_not, List.all_eq_true]
    refine ⟨⟨⟨⟨⟨⟨ha, h4⟩, h5⟩, ?_⟩, decide_eq_true (show (I ++ [tokD 0 [] (s.length : Int)]).length < _ by omega)⟩, h8⟩, fun d hd => ?_⟩
    · by_cases hk : t.k = 1
      · exact .inr (h3 hk).symm
      · exact .inl hk
    · obtain ⟨u, y, rfl, hxy, hu⟩ := h7 d hd
      refine with_of h n y u t.pl hu ?_
      cases n with
      | zero => exact hu.elim
      | succ n =>
        obtain ⟨q, hq, hqe, _⟩ := hu
        rw [h2, hqe]
        exact h.toks.mono x y p q h1 hq hxy

theorem pure_treePlaces (s : List UInt8) (h : s.length ≤ 1048576) : ∃ n, evFun cx n 4 [.d (.str s)] [] = some (.ret (.d (.bool true)), []) := by
  refine lim_ex ?_
  have hb : decide (s.length ≤ big) = true := decide_eq_true (by unfold big; omega)
  obtain ⟨k, hk⟩ : ∃ k, 600000 ≤ k := ⟨600000, Nat.le_refl _⟩
  have bad : ∀ a e : Int, Sp.termOf k s = some (.bad a e) → 0 ≤ a → a ≤ s.length → e ≠ 0 → evLim cx 4 [.d (.str s)] [] = some (.ret (.d (.bool true)), []) := by
    intro a e hr h1 h2 h3
    refine lim_bodyK (T3c_knows (fun _ => k) 0) (N := 0) ?_
    rw [g4]
    by_cases hl : (3000 : Int) < (s.length : Int)
    · rw [decide_eq_true hl]; rfl
    · rw [decide_eq_false hl, cond_false, hb, must, cond_true, must, cond_true, hr, optK_now]
      show must (!decide (e = 0)) _ = _
      show must (!decide (e = 0)) (bif !decide (e = (0 : Int)) then bif decide ((0 : Int) ≤ a) then some (Out.ret (V.d (D.bool (decide (a ≤ (↑s.length : Int))))), []) else some (Out.ret (V.d (D.bool false)), []) else _) = _
      rw [decide_eq_false h3, decide_eq_true h1, decide_eq_true h2]
      rfl
  rcases text_or s with ⟨I, hT⟩ | ⟨hE, p, hp, hp'⟩
  · rcases term_of hT hk with ⟨t, n, hr, _, hpos, x, hx, hW⟩ | ⟨a, e, hr, h1, h2, h3⟩
    · have hL : Sp.scL s = I ++ [tokD 0 [] (s.length : Int)] := by unfold Sp.scL; rw [hT.scan]
      have hE : Sp.scE s = 0 := by unfold Sp.scE; rw [hT.scan]
      have h0 : 0 ≤ t.pl := by
        cases n with
        | zero => exact hW.elim
        | succ n =>
          obtain ⟨q, hq, hqe, _⟩ := hW
          have := hT.toks.low x q hq
          omega
      have hw := with_of hT n x t 0 hW h0
      refine lim_bodyK (T3c_knows (fun _ => k) n) (N := 0) ?_
      rw [g4]
      by_cases hl : (3000 : Int) < (s.length : Int)
      · rw [decide_eq_true hl]; rfl
      · rw [decide_eq_false hl, cond_false, hb, must, cond_true, must, cond_true, hr, optK_now]
        show must true (bif decide (Sp.scE s = 0) then bif decide ((↑(Sp.scL s).length : Int) < (2 : Int)) then _ else must (Sp.withT n (trD t) (Sp.scL s) (0 : Int)) (some (Out.ret (V.d (D.bool true)), [])) else _) = _
        rw [hE, decide_eq_true rfl, cond_true, hL, decide_eq_false (by simp; omega), cond_false, hw]
        rfl
    · exact bad a e hr h1 h2 (by omega)
  · exact bad _ _ (term_bad hE k) (by omega) (by omega) hE

end Go.Vai
end

section
namespace Go.Vai
open Go.Proofs

def Valid (s : List UInt8) : Prop := Sp.utfGo s.length s 0 = none

theorem valid_go {s : List UInt8} (h : Valid s) {f j : Nat} (hf : s.length ≤ f) : Sp.utfGo f s j = none := by
  have h1 := utf_off f s 0 j
  rw [Nat.zero_add] at h1
  rw [h1, utf_fuel f s.length s 0 hf (Nat.le_refl _), h]
  rfl
theorem valid_cat {a b : List UInt8} (ha : Valid a) (hb : Valid b) : Valid (a ++ b) := by
  obtain ⟨f, h1, h2⟩ := utf_app b a.length a 0 (a ++ b).length (Nat.le_refl _) (by simp) ha
  unfold Valid
  rw [h2]
  exact valid_go hb h1
theorem valid_low {s : List UInt8} (h : ∀ c ∈ s, c.toNat < 128) : Valid s := utf_low _ _ _ (Nat.le_refl _) h
theorem text_valid {s : List UInt8} {I : List D} (h : Text s I) : Valid s := by
  rcases scan_says s with ⟨_, h2, _⟩ | ⟨h1, _⟩
  · exact h2
  · rw [h.scan] at h1; exact absurd rfl h1

theorem scan_cov {s : List UInt8} {l : List D} (hs : s.length ≤ 65536) (hv : Valid s) (h : Cov s 0 l) : Sp.scan s = (l, 0, 0) := by
  unfold Sp.scan
  rw [decide_eq_false (by omega), cond_false, hv]
  have hb := past_bounds (s := s) (j := 0) (Nat.zero_le _)
  have := cov_toks h (s.length + 1) [] (by omega)
  simpa using this
theorem mk_text {s : List UInt8} {I : List D} (hs : s.length ≤ 65536) (hv : Valid s) (h : Cov s 0 (I ++ [tokD 0 [] (s.length : Int)])) : Text s I := by
  have h1 := scan_cov hs hv h
  have hl := scan_len s
  rw [h1] at hl
  replace hl : (I ++ [tokD 0 [] (s.length : Int)]).length ≤ s.length + 1 := hl
  exact ⟨hs, h1, h, toks_of hs h (by omega)⟩

theorem cov_split {s : List UInt8} {I : List D} (h : Text s I) (r : List UInt8) {rest : List D} (hr : Cov (s ++ 10 :: r) (s.length + 1) rest) : Cov (s ++ 10 :: r) 0 (I ++ rest) := by
  obtain ⟨I', e, hI⟩ := cov_app r h.cov
  have : I = I' := List.append_cancel_right e
  subst this
  exact hI rest hr

/-- Behind a text and a line's end. -/
theorem cov_behind {s r : List UInt8} {l : List D} (h : Cov r 0 l) : Cov (s ++ 10 :: r) (s.length + 1) (l.map (tokShift ((s.length : Int) + 1))) := by
  have h1 := cov_pre (s ++ [10]) h
  have e : s ++ [10] ++ r = s ++ 10 :: r := by simp
  have e2 : (s ++ [10]).length = s.length + 1 := by simp
  rw [e, e2] at h1
  simpa using h1

theorem tail1 : Cov [41] 0 [tokD 2 [41] 0, tokD 0 [] 1] :=
  .tok (j := 0) (Nat.zero_le _) (by decide) (by decide) (by decide) (by decide) (.fin (by decide) (by decide))
theorem tail2 : Cov [61, 32, 85, 59] 0 [tokD 2 [61] 0, tokD 1 [85] 2, tokD 2 [59] 3, tokD 0 [] 4] :=
  .tok (j := 0) (Nat.zero_le _) (by decide) (by decide) (by decide) (by decide) (.tok (j := 2) (by decide) (by decide) (by decide) (by decide) (by decide) (.tok (j := 3) (by decide) (by decide) (by decide) (by decide) (by decide) (.fin (by decide) (by decide))))

theorem shift_tok (δ k : Int) (t : List UInt8) (a : Int) : tokShift δ (tokD k t a) = tokD k t (a + δ) := rfl

theorem text_brackets {s : List UInt8} {I : List D} (h : Text s I) (hs : s.length ≤ 60000) :
    Text (40 :: (s ++ [10, 41])) (tokD 2 [40] 0 :: (I.map (tokShift 1) ++ [tokD 2 [41] ((s.length : Int) + 2)])) := by
  refine mk_text (by simp; omega) ?_ ?_
  · show Valid ([40] ++ (s ++ [10, 41]))
    exact valid_cat (valid_low (by decide)) (valid_cat (text_valid h) (valid_low (by decide)))
  · have h1 := cov_split h [41] (cov_behind tail1)
    have h2 := cov_pre [40] h1
    have e : (1 : Int) = (([40] : List UInt8).length : Int) := rfl
    refine .tok (j := 0) (Nat.zero_le _) rfl (by simp) rfl (by decide) ?_
    have h3 : Cov (40 :: (s ++ [10, 41])) (0 + ([40] : List UInt8).length) ((I ++ [tokD 2 [41] 0, tokD 0 [] 1].map (tokShift ((s.length : Int) + 1))).map (tokShift 1)) := h2
    have e3 : (I ++ [tokD 2 [41] 0, tokD 0 [] 1].map (tokShift ((s.length : Int) + 1))).map (tokShift 1) = (I.map (tokShift 1) ++ [tokD 2 [41] ((s.length : Int) + 2)]) ++ [tokD 0 [] ((40 :: (s ++ [10, 41])).length : Int)] := by
      have f1 : (0 : Int) + ((s.length : Int) + 1) + 1 = (s.length : Int) + 2 := by omega
      have f2 : (1 : Int) + ((s.length : Int) + 1) + 1 = ((40 :: (s ++ [10, 41])).length : Int) := by simp; omega
      simp only [List.map_append, List.map_cons, List.map_nil, shift_tok, List.append_assoc, List.cons_append, List.nil_append, f1, f2]
    rw [e3] at h3
    exact h3

theorem text_decl {s : List UInt8} {I : List D} (h : Text s I) (hs : s.length ≤ 60000) :
    Text (120 :: 32 :: 58 :: 32 :: (s ++ [10, 61, 32, 85, 59])) (tokD 1 [120] 0 :: tokD 2 [58] 2 :: (I.map (tokShift 4) ++ [tokD 2 [61] ((s.length : Int) + 5), tokD 1 [85] ((s.length : Int) + 7), tokD 2 [59] ((s.length : Int) + 8)])) := by
  refine mk_text (by simp; omega) ?_ ?_
  · show Valid ([120, 32, 58, 32] ++ (s ++ [10, 61, 32, 85, 59]))
    exact valid_cat (valid_low (by decide)) (valid_cat (text_valid h) (valid_low (by decide)))
  · have h1 := cov_split h [61, 32, 85, 59] (cov_behind tail2)
    have h2 := cov_pre [120, 32, 58, 32] h1
    refine .tok (j := 0) (Nat.zero_le _) rfl (by simp) rfl (by decide) ?_
    refine .tok (j := 2) (by simp) rfl (by simp) rfl (by decide) ?_
    have h3 : Cov (120 :: 32 :: 58 :: 32 :: (s ++ [10, 61, 32, 85, 59])) 4 ((I ++ [tokD 2 [61] 0, tokD 1 [85] 2, tokD 2 [59] 3, tokD 0 [] 4].map (tokShift ((s.length : Int) + 1))).map (tokShift 4)) := h2
    have e3 : (I ++ [tokD 2 [61] 0, tokD 1 [85] 2, tokD 2 [59] 3, tokD 0 [] 4].map (tokShift ((s.length : Int) + 1))).map (tokShift 4) = (I.map (tokShift 4) ++ [tokD 2 [61] ((s.length : Int) + 5), tokD 1 [85] ((s.length : Int) + 7), tokD 2 [59] ((s.length : Int) + 8)]) ++ [tokD 0 [] ((120 :: 32 :: 58 :: 32 :: (s ++ [10, 61, 32, 85, 59])).length : Int)] := by
      have f1 : (0 : Int) + ((s.length : Int) + 1) + 4 = (s.length : Int) + 5 := by omega
      have f2 : (2 : Int) + ((s.length : Int) + 1) + 4 = (s.length : Int) + 7 := by omega
      have f3 : (3 : Int) + ((s.length : Int) + 1) + 4 = (s.length : Int) + 8 := by omega
      have f4 : (4 : Int) + ((s.length : Int) + 1) + 4 = ((120 :: 32 :: 58 :: 32 :: (s ++ [10, 61, 32, 85, 59])).length : Int) := by simp; omega
      simp only [List.map_append, List.map_cons, List.map_nil, shift_tok, List.append_assoc, List.cons_append, List.nil_append, f1, f2, f3, f4]
    rw [e3] at h3
    exact cov_past h3 rfl (by simp)

theorem text_files {s u : List UInt8} {I J : List D} (h : Text s I) (h' : Text u J) (hl : s.length + 1 + u.length ≤ 65536) : Text (s ++ 10 :: u) (I ++ J.map (tokShift ((s.length : Int) + 1))) := by
  refine mk_text (by simp; omega) ?_ ?_
  · show Valid (s ++ ([10] ++ u))
    exact valid_cat (text_valid h) (valid_cat (valid_low (by decide)) (text_valid h'))
  · have h1 := cov_split h u (cov_behind h'.cov)
    have e3 : I ++ (J ++ [tokD 0 [] (u.length : Int)]).map (tokShift ((s.length : Int) + 1)) = (I ++ J.map (tokShift ((s.length : Int) + 1))) ++ [tokD 0 [] ((s ++ 10 :: u).length : Int)] := by
      simp only [List.map_append, List.map_cons, List.map_nil, tokShift, List.append_assoc, List.length_cons, List.length_append]
      congr 3
      show tokD _ _ _ = tokD _ _ _
      congr 1; omega
    rw [e3] at h1
    exact h1

/-- A text that is none stays none. -/
theorem utf_brackets {s : List UInt8} {p : Nat} (hs : s.length ≤ 60000) (h : Sp.utfGo s.length s 0 = some p) : Sp.scan (40 :: (s ++ [10, 41])) = ([], ((p + 1 : Nat) : Int), 60) := by
  have h1 : Sp.utfGo (40 :: (s ++ [10, 41])).length (40 :: (s ++ [10, 41])) 0 = some (p + 1) := by
    show Sp.utfGo ((s ++ [10, 41]).length + 1) (40 :: (s ++ [10, 41])) 0 = _
    rw [Sp.utfGo, uni_one 40 _ (by decide)]
    show Sp.utfGo (s ++ [10, 41]).length (s ++ 10 :: [41]) (0 + 1) = _
    rw [utf_off, utf_app_bad [41] s.length s 0 _ p (Nat.le_refl _) (by simp) h]
    rfl
  unfold Sp.scan
  rw [decide_eq_false (by simp; omega), cond_false, h1]

theorem scan_utf {s : List UInt8} (h : Sp.scE s = 60) : ∃ p, Sp.utfGo s.length s 0 = some p ∧ Sp.scA s = (p : Int) := by
  unfold Sp.scE Sp.scA Sp.scan at *
  cases hb : decide (65536 < s.length) <;> rw [hb] at h
  · rw [cond_false] at h ⊢
    cases hu : Sp.utfGo s.length s 0 with
    | some p => exact ⟨p, rfl, rfl⟩
    | none =>
      rw [hu] at h
      have hb := past_bounds (s := s) (j := 0) (Nat.zero_le _)
      rcases toks_cov (s := s) (s.length + 1) 0 [] (Nat.zero_le _) (by omega) with ⟨rest, h1, h2⟩ | ⟨p, h1, h2⟩
      · rw [h1] at h; exact absurd (show (0 : Int) = 60 from h) (by decide)
      · rw [h1] at h; exact absurd (show (61 : Int) = 60 from h) (by decide)
  · exact absurd (show (3 : Int) = 60 from h) (by decide)

/- The same tokens, further on. -/
theorem tok_in {I : List D} {E : D} {y : Nat} {k : Int} {t : List UInt8} {a : Int} (h : I[y]? = some (tokD k t a)) (hy : y < 4294967296) : Sp.tok (Sp.ext (I ++ [E])) (y : Int) = some (k, t, a) := by
  refine tok_of_get ?_ hy
  have hlt := (List.getElem?_eq_some_iff.1 h).1
  rw [ext_snoc, List.append_assoc, List.getElem?_append_left hlt]
  exact h
theorem tok_end {I : List D} {k : Int} {t : List UInt8} {a : Int} {i : Nat} (hi : i < 3) (hy : I.length < 1000000) : Sp.tok (Sp.ext (I ++ [tokD k t a])) ((I.length + i : Nat) : Int) = some (k, t, a) := by
  refine tok_of_get ?_ (by omega)
  rw [ext_snoc, List.append_assoc, List.getElem?_append_right (by omega)]
  have : I.length + i - I.length = i := by omega
  rw [this]
  match i, hi with
  | 0, _ => rfl
  | 1, _ => rfl
  | 2, _ => rfl

theorem mid_get (A I B : List D) (δ : Int) {x : Nat} {p : Tk3} (h : I[x]? = some (tokD p.1 p.2.1 p.2.2)) : (A ++ (I.map (tokShift δ) ++ B))[A.length + x]? = some (tokD p.1 p.2.1 (p.2.2 + δ)) := by
  have hlt := (List.getElem?_eq_some_iff.1 h).1
  rw [List.getElem?_append_right (by omega), show A.length + x - A.length = x by omega, List.getElem?_append_left (by simpa using hlt), List.getElem?_map, h]
  rfl
theorem mid_end (A I B : List D) (δ : Int) (d : D) : (A ++ (I.map (tokShift δ) ++ d :: B))[A.length + I.length]? = some d := by
  rw [List.getElem?_append_right (by omega), show A.length + I.length - A.length = I.length by omega, List.getElem?_append_right (by simp)]
  simp

/-- With something ahead, and something behind. -/
theorem sh_mid {s : List UInt8} {I : List D} (h : Text s I) {A B : List D} {δ d : Int} {t : List UInt8} {a : Int} {E : D} (hA : A.length ≤ 10) (hd : d = 0 ∨ d = 1) (ht : t = [41] ∨ t = [61]) :
    Sh (Sp.ext (I ++ [tokD 0 [] (s.length : Int)])) (Sp.ext ((A ++ (I.map (tokShift δ) ++ tokD 2 t a :: B)) ++ [E])) (A.length : Int) δ ((I.length : Int) + 1) d false := by
  have hsm := h.toks.small
  refine ⟨by omega, by omega, hd, fun x p hp hx => ?_⟩
  replace hx : x < (I.length : Int) + 1 := by rcases hx with hx | hx; cases hx; exact hx
  obtain ⟨h0, y, hy, h1⟩ := ext_tok hp
  rcases h1 with ⟨h1, h2⟩ | ⟨h1, _⟩
  · have hlt : y < I.length := by omega
    rw [List.getElem?_append_left hlt] at hy
    have := tok_in (E := E) (mid_get A I (tokD 2 t a :: B) δ hy) (by omega)
    rw [show ((A.length + y : Nat) : Int) = x + (A.length : Int) by omega] at this
    exact .inl this
  · have hx' : x = (I.length : Int) := by omega
    have hf := h.toks.fin x p hp h1
    have := tok_in (E := E) (mid_end A I B δ (tokD 2 t a)) (by omega)
    rw [show ((A.length + I.length : Nat) : Int) = x + (A.length : Int) by omega] at this
    exact .inr ⟨rfl, by omega, hf.1, hf.2, _, this, rfl, ht⟩

/-- With something behind. -/
theorem sh_pre {s : List UInt8} {I : List D} (h : Text s I) {B : List D} {E : D} :
    Sh (Sp.ext (I ++ [tokD 0 [] (s.length : Int)])) (Sp.ext ((I ++ B) ++ [E])) 0 0 (I.length : Int) 0 false := by
  have hsm := h.toks.small
  refine ⟨by omega, by omega, .inl rfl, fun x p hp hx => ?_⟩
  replace hx : x < (I.length : Int) := by rcases hx with hx | hx; cases hx; exact hx
  obtain ⟨h0, y, hy, h1⟩ := ext_tok hp
  rcases h1 with ⟨h1, h2⟩ | ⟨h1, _⟩
  · have hlt : y < I.length := by omega
    rw [List.getElem?_append_left hlt] at hy
    have h3 : (I ++ B)[y]? = some (tokD p.1 p.2.1 p.2.2) := by rw [List.getElem?_append_left hlt]; exact hy
    have := tok_in (E := E) h3 (by omega)
    rw [h2] at this
    refine .inl ?_
    rw [Int.add_zero, this]
    show some _ = some (p.1, p.2.1, p.2.2 + 0)
    rw [Int.add_zero]
  · omega

/-- With something ahead. -/
theorem sh_post {u : List UInt8} {J : List D} (h : Text u J) {A : List D} {δ d M : Int} (hA : A.length ≤ 70000) (hd : d = 0 ∨ d = 1) :
    Sh (Sp.ext (J ++ [tokD 0 [] (u.length : Int)])) (Sp.ext ((A ++ J.map (tokShift δ)) ++ [tokD 0 [] ((u.length : Int) + δ)])) (A.length : Int) δ M d true := by
  have hsm := h.toks.small
  refine ⟨by omega, by omega, hd, fun x p hp _ => ?_⟩
  obtain ⟨h0, y, hy, h1⟩ := ext_tok hp
  rcases h1 with ⟨h1, h2⟩ | ⟨h1, h2⟩
  · have hlt : y < J.length := by omega
    rw [List.getElem?_append_left hlt] at hy
    have h3 := mid_get A J [] δ hy
    rw [List.append_nil] at h3
    have := tok_in (E := tokD 0 [] ((u.length : Int) + δ)) h3 (by omega)
    rw [show ((A.length + y : Nat) : Int) = x + (A.length : Int) by omega] at this
    exact .inl this
  · subst h2
    rw [List.getElem?_concat_length] at hy
    obtain ⟨e1, e2, e3⟩ := tokD_inj (Option.some.inj hy)
    have hlen := (tok_spec hp).2.1
    rw [ext_snoc] at hlen
    simp only [List.length_append, List.length_cons, List.length_nil] at hlen
    obtain ⟨i, hi⟩ : ∃ i : Nat, x = (J.length : Int) + i := ⟨(x - J.length).toNat, by omega⟩
    have hl : (A ++ J.map (tokShift δ)).length = A.length + J.length := by simp
    have := tok_end (I := A ++ J.map (tokShift δ)) (k := 0) (t := []) (a := (u.length : Int) + δ) (i := i) (by omega) (by omega)
    rw [show (((A ++ J.map (tokShift δ)).length + i : Nat) : Int) = x + (A.length : Int) by omega] at this
    refine .inl ?_
    rw [this]
    show some _ = some (p.1, p.2.1, p.2.2 + δ)
    rw [← e1, ← e2, ← e3]

end Go.Vai
end

section
namespace Go.Vai
open Go.Proofs

theorem cov_tk {s : List UInt8} {e : Nat} {l : List D} (h : Cov s e l) : ∀ (x : Nat) k t a, l[x]? = some (tokD k t a) → k ≠ 0 → Tk k t := by
  induction h with
  | @fin e he hp =>
    intro x k t a hx hk
    cases x with
    | zero => simp at hx; obtain ⟨rfl, _, _⟩ := tokD_inj hx; exact absurd rfl hk
    | succ x => simp at hx
  | @tok e j k t rest he hp hlt ho hne hr ih =>
    intro x k' t' a hx hk
    cases x with
    | zero => have e1 : tokD k t (j : Int) = tokD k' t' a := by simpa using hx
              obtain ⟨rfl, rfl, _⟩ := tokD_inj e1
              exact tk_of_one ho hne
    | succ x => exact ih x k' t' a (by simpa using hx) hk

theorem name_text {s : List UInt8} {I : List D} (h : Text s I) {x : Int} {p : Tk3} (hp : Sp.tok (Sp.ext (I ++ [tokD 0 [] (s.length : Int)])) x = some p) (hk : p.1 = 1) : p.2.1 ≠ [58] := by
  obtain ⟨_, y, hy, _⟩ := ext_tok hp
  rcases cov_tk h.cov y _ _ _ hy (by omega) with ⟨_, b, r, hb, hl, _⟩ | ⟨h2, _⟩
  · intro e
    rw [e] at hb
    cases hb
    exact absurd hl (by decide)
  · omega

theorem isS_not {p : Tk3} {s : List UInt8} (h : p.1 ≠ 2) : Sp.isS p s = false := by
  unfold Sp.isS
  rw [decide_eq_false h]; rfl
theorem isS_other {p : Tk3} {s : List UInt8} (h : p.2.1 ≠ s) : Sp.isS p s = false := by
  unfold Sp.isS
  rw [decide_eq_false h, Bool.and_false]
theorem arr_none {p : Tk3} (h1 : Sp.isS p [45, 62] = false) (h2 : Sp.isS p [42] = false) : Sp.arr p = 0 := by
  unfold Sp.arr
  rw [h1, h2]; rfl

theorem want_ok {l : List D} {x y : Int} {s : List UInt8} {K : Int → Option PR} {p : Tk3} (hp : Sp.tok l x = some p) (h : Sp.isS p s = true) (hy : x + 1 = y) : Sp.want l x s K = K y := by
  unfold Sp.want
  rw [hp, optK_now, h, cond_true, up_at hp, hy]
theorem name_ok {l : List D} {x y : Int} {K : List UInt8 → Int → Option PR} {p : Tk3} (hp : Sp.tok l x = some p) (h : p.1 = 1) (hy : x + 1 = y) : Sp.name l x K = K p.2.1 y := by
  unfold Sp.name
  rw [hp, optK_now, decide_eq_true h, cond_true, up_at hp, hy]
theorem call_ok {o : Option PR} {K : Tr → Int → Option PR} {t : Tr} {j : Int} (h : o = some (.ok t j)) : Sp.call o K = K t j := by
  subst h; rfl

/-- Where nothing goes on. -/
def halts (q : Tk3) : Prop := q.1 ≠ 1 ∧ (q.1 ≠ 2 ∨ q.2.1 = [41] ∨ q.2.1 = [58] ∨ q.2.1 = [59] ∨ q.2.1 = [61])
theorem halts_isS {q : Tk3} (h : halts q) {s : List UInt8} (h1 : s ≠ [41]) (h2 : s ≠ [58]) (h3 : s ≠ [59]) (h4 : s ≠ [61]) : Sp.isS q s = false := by
  rcases h.2 with h | h | h | h | h
  · exact isS_not h
  · exact isS_other (by rw [h]; exact Ne.symm h1)
  · exact isS_other (by rw [h]; exact Ne.symm h2)
  · exact isS_other (by rw [h]; exact Ne.symm h3)
  · exact isS_other (by rw [h]; exact Ne.symm h4)

theorem after_halts {g : Tb} {r : Nat} {l : List D} {i v : Int} {t : Tr} {q : Tk3} (hq : Sp.tok l i = some q) (h : halts q) : Sp.afterG g (r + 1) l i v t = some (.ok t i) := by
  rw [Sp.afterG, hq, optK_now, halts_isS h (by decide) (by decide) (by decide) (by decide), halts_isS h (by decide) (by decide) (by decide) (by decide), halts_isS h (by decide) (by decide) (by decide) (by decide), decide_eq_false h.1,
    arr_none (halts_isS h (by decide) (by decide) (by decide) (by decide)) (halts_isS h (by decide) (by decide) (by decide) (by decide))]
  rfl

theorem term_name {l : List D} {i v : Int} {p q : Tk3} (k : Nat) (hv : v ≤ 200) (hp : Sp.tok l i = some p) (h1 : p.1 = 1) (hq : Sp.tok l (i + 1) = some q) (h2 : halts q) :
    Sp.term (k + 3) l i v = some (.ok ⟨1, p.2.1, [], [], p.2.2⟩ (i + 1)) := by
  have n2 : p.1 ≠ 2 := by omega
  show Sp.termG (Sp.tbl (k + 2)) l i v = _
  have hb : Sp.binds l i = some false := by
    unfold Sp.binds
    rw [hp, optK_now, isS_not n2]; rfl
  have ha : (Sp.tbl (k + 2)).atom l i v = some (.ok ⟨1, p.2.1, [], [], p.2.2⟩ (i + 1)) := by
    show Sp.atomG (Sp.tbl (k + 1)) l i v = _
    unfold Sp.atomG
    rw [hp, optK_now, decide_eq_true h1, cond_true, up_at hp]
  unfold Sp.termG
  rw [hp, optK_now, decide_eq_false (by omega), cond_false, isS_not n2, cond_false, isS_not n2, cond_false, hb, optK_now, cond_false, ha]
  exact after_halts (g := Sp.tbl (k + 1)) (r := k) hq h2

theorem term_paren {l : List D} {k : Nat} {a : Int} {r : PR} (h0 : Sp.tok l 0 = some (2, [40], a)) (hb : Sp.binds l 0 = some false) (ht : Sp.term (k + 1) l 1 2 = some r) :
    (∀ t j q e, r = .ok t j → Sp.tok l j = some q → q.1 = 2 → q.2.1 = [41] → Sp.tok l (j + 1) = some e → e.1 = 0 → Sp.term (k + 3) l 0 1 = some (.ok t (j + 1))) ∧
    (∀ x y j, r = .bad x y j → Sp.term (k + 3) l 0 1 = some (.bad x y j)) := by
  have e1 : up 0 = 1 := up_at h0
  have e2 : up 1 = 2 := IntWalk.i64_in _ (by decide)
  have hT : Sp.term (k + 3) l 0 1 = Sp.call (Sp.call (Sp.term (k + 1) l 1 2) fun t j => optK (Sp.tok l j) fun q =>
    bif Sp.isS q [44] then Sp.call ((Sp.tbl (k + 1)).term l (up j) 2) fun u j => Sp.want l j [41] fun j => some (.ok ⟨8, [], [trD t, trD u], [], a⟩ j)
    else bif Sp.isS q [58] then Sp.call ((Sp.tbl (k + 1)).term l (up j) 2) fun u j => Sp.want l j [41] fun j => some (.ok ⟨9, [], [trD t, trD u], [], a⟩ j)
    else bif Sp.isS q [41] then some (.ok t (up j)) else some (.bad q.2.2 61 j)) fun t j => (Sp.tbl (k + 2)).after l j 1 t := by
    show Sp.termG (Sp.tbl (k + 2)) l 0 1 = _
    unfold Sp.termG
    rw [h0, optK_now, hb, show decide ((200 : Int) < 1) = false from rfl, cond_false, show Sp.isS ((2, [40], a) : Tk3) [92] = false from rfl, cond_false, show Sp.isS ((2, [40], a) : Tk3) [60] = false from rfl, cond_false, optK_now, cond_false]
    have : (Sp.tbl (k + 2)).atom l 0 1 = Sp.atomG (Sp.tbl (k + 1)) l 0 1 := rfl
    rw [this]
    unfold Sp.atomG
    rw [h0, optK_now, show decide (((2, [40], a) : Tk3).1 = 1) = false from rfl, cond_false, show Sp.isS ((2, [40], a) : Tk3) [91] = false from rfl, cond_false, show Sp.isS ((2, [40], a) : Tk3) [40] = true from rfl, cond_true, e1, e2]
    rfl
  rw [hT, ht]
  refine ⟨fun t j q e hr hq hq1 hq2 he he0 => ?_, fun x y j hr => ?_⟩
  · subst hr
    show Sp.call (optK (Sp.tok l j) _) _ = _
    rw [hq, optK_now, isS_other (s := [44]) (by rw [hq2]; decide), isS_other (s := [58]) (by rw [hq2]; decide), show Sp.isS q [41] = true by unfold Sp.isS; rw [hq1, hq2]; rfl]
    show Sp.call (some (PR.ok t (up j))) _ = _
    rw [up_at hq]
    exact after_halts (g := Sp.tbl (k + 1)) (r := k) he ⟨by omega, .inl (by omega)⟩
  · subst hr; rfl

theorem termOf_ok {s : List UInt8} {l : List D} {k : Nat} {t : Tr} {j : Int} {q : Tk3} (hE : Sp.scE s = 0) (hL : Sp.ext (Sp.scL s) = l) (h : Sp.term k l 0 1 = some (.ok t j)) (hq : Sp.tok l j = some q) (h0 : q.1 = 0) : Sp.termOf k s = some (.ok t) := by
  unfold Sp.termOf
  rw [hE, decide_eq_true rfl, cond_true, hL, h, optK_now]
  show optK (Sp.tok l j) _ = _
  rw [hq, optK_now, decide_eq_true h0]
  rfl
theorem termOf_no {s : List UInt8} {l : List D} {k : Nat} {a e j : Int} (hE : Sp.scE s = 0) (hL : Sp.ext (Sp.scL s) = l) (h : Sp.term k l 0 1 = some (.bad a e j)) : Sp.termOf k s = some (.bad a e) := by
  unfold Sp.termOf
  rw [hE, decide_eq_true rfl, cond_true, hL, h, optK_now]
  rfl
theorem parseOf_ok {s : List UInt8} {l ds : List D} {k : Nat} {j : Int} {q : Tk3} (hE : Sp.scE s = 0) (hL : Sp.ext (Sp.scL s) = l) (h : Sp.parseL k k l 0 [] = some (.ok ds j)) (hq : Sp.tok l j = some q) (h0 : q.1 = 0) : Sp.parseOf k s = some (.ok ds) := by
  unfold Sp.parseOf
  rw [hE, decide_eq_true rfl, cond_true, hL, h, optK_now]
  show optK (Sp.tok l j) _ = _
  rw [hq, optK_now, decide_eq_true h0]
  rfl
theorem parseOf_no {s : List UInt8} {l ds : List D} {k : Nat} {a e j : Int} (hE : Sp.scE s = 0) (hL : Sp.ext (Sp.scL s) = l) (h : Sp.parseL k k l 0 [] = some (.bad a e j ds)) : Sp.parseOf k s = some (.bad a e) := by
  unfold Sp.parseOf
  rw [hE, decide_eq_true rfl, cond_true, hL, h, optK_now]
  rfl
theorem parseL_end {l ds : List D} {k r : Nat} {i : Int} {q : Tk3} (hq : Sp.tok l i = some q) (h0 : q.1 = 0) : Sp.parseL k (r + 1) l i ds = some (.ok ds i) := by
  rw [Sp.parseL, hq, optK_now, decide_eq_true h0]
  rfl
theorem parseL_step {l ds : List D} {k r : Nat} {i j : Int} {q : Tk3} {t : Tr} (hq : Sp.tok l i = some q) (h0 : q.1 ≠ 0) (hd : Sp.decl k l i = some (.ok t j)) (hs : Sp.short ds = true) : Sp.parseL k (r + 1) l i ds = Sp.parseL k r l j (ds ++ [trD t]) := by
  rw [Sp.parseL, hq, optK_now, decide_eq_false h0, hd, optK_now, hs]
  rfl
theorem short_nil : Sp.short ([] : List D) = true := decide_eq_true (by decide)

/-- A term in brackets. -/
theorem in_brackets {s : List UInt8} {I : List D} (h : Text s I) (hs : s.length ≤ 60000) {k : Nat} {t : Tr} (hpos : 0 < I.length) (ht : Sp.term (k + 3) (Sp.ext (I ++ [tokD 0 [] (s.length : Int)])) 0 1 = some (.ok t I.length)) :
    Sp.termOf (k + 5) (40 :: (s ++ [10, 41])) = some (.ok (shiftT 1 t)) ∨ ∃ a, Sp.termOf (k + 5) (40 :: (s ++ [10, 41])) = some (.bad a 62) := by
  have hX := text_brackets h hs
  have hsm := h.toks.small
  obtain ⟨l, hl⟩ : ∃ l, l = Sp.ext (I ++ [tokD 0 [] (s.length : Int)]) := ⟨_, rfl⟩
  obtain ⟨l', hl'⟩ : ∃ l', l' = Sp.ext ((tokD 2 [40] 0 :: (I.map (tokShift 1) ++ [tokD 2 [41] ((s.length : Int) + 2)])) ++ [tokD 0 [] ((40 :: (s ++ [10, 41])).length : Int)]) := ⟨_, rfl⟩
  have sh : Sh l l' 1 1 ((I.length : Int) + 1) 1 false := by
    rw [hl, hl']
    exact sh_mid h (A := [tokD 2 [40] 0]) (B := []) (by decide) (.inr rfl) (.inl rfl)
  have hT := hX.toks
  rw [← hl'] at hT
  have hlen : (tokD 2 [40] 0 :: (I.map (tokShift 1) ++ [tokD 2 [41] ((s.length : Int) + 2)])).length = I.length + 2 := by simp
  rw [← hl] at ht
  have t0 : Sp.tok l' 0 = some (2, [40], 0) := by
    rw [hl']; exact tok_in (y := 0) rfl (by decide)
  have t1 : Sp.tok l' ((I.length : Int) + 1) = some (2, [41], (s.length : Int) + 2) := by
    rw [hl']
    have := tok_in (E := tokD 0 [] ((40 :: (s ++ [10, 41])).length : Int)) (mid_end [tokD 2 [40] 0] I [] 1 (tokD 2 [41] ((s.length : Int) + 2))) (by simp; omega)
    rw [show (([tokD 2 [40] 0].length + I.length : Nat) : Int) = (I.length : Int) + 1 by simp; omega] at this
    exact this
  obtain ⟨e, te⟩ := hT.at_ ((I.length : Int) + 1 + 1) (by omega) (by rw [hlen]; omega)
  have te0 := (hT.fin _ e te (by rw [hlen]; omega)).1
  have hb : Sp.binds l' 0 = some false := by
    have hTl := h.toks
    rw [← hl] at hTl
    obtain ⟨p, hp⟩ := hTl.at_ 0 (by omega) (by omega)
    unfold Sp.binds
    rw [t0, optK_now]
    show optK (Sp.tok l' (0 + 1)) _ = _
    rcases sh.at_ 0 p hp (.inr (by omega)) with h1 | ⟨_, h2, _⟩
    · rw [h1, optK_now]
      show (bif decide (p.1 = 1) then _ else _) = _
      by_cases hk : p.1 = 1
      · rw [decide_eq_true hk, cond_true]
        obtain ⟨q, hq⟩ := hTl.at_ 1 (by omega) (by omega)
        have key : q.2.1 ≠ [58] := by
          intro e1
          have hlt : (1 : Int) < I.length := by
            by_cases hlt : (1 : Int) < I.length
            · exact hlt
            · have := (hTl.fin 1 q hq (by omega)).2
              rw [this] at e1; cases e1
          have hq2 : q.1 ≠ 1 := fun hq1 => name_text (x := 1) h (by rw [← hl]; exact hq) hq1 e1
          have := term_name (v := 1) k (by decide) hp hk (i := 0) hq ⟨hq2, .inr (.inr (.inl e1))⟩
          rw [ht] at this
          have := Option.some.inj this
          have e3 : (I.length : Int) = 0 + 1 := by injection this
          omega
        show optK (Sp.tok l' (1 + 1)) _ = _
        rcases sh.at_ 1 q hq (.inr (by omega)) with h3 | ⟨_, _, _, _, p', h3, _, h4⟩
        · rw [h3, optK_now]
          show some (decide (q.2.1 = [58])) = _
          rw [decide_eq_false key]
        · rw [h3, optK_now]
          have : p'.2.1 ≠ [58] := by rcases h4 with h4 | h4 <;> rw [h4] <;> decide
          rw [decide_eq_false this]
      · rw [decide_eq_false hk]; rfl
    · omega
  have hE : Sp.scE (40 :: (s ++ [10, 41])) = 0 := by unfold Sp.scE; rw [hX.scan]
  have hL : Sp.ext (Sp.scL (40 :: (s ++ [10, 41]))) = l' := by unfold Sp.scL; rw [hX.scan, hl']
  have hS := ((SS_all sh (k + 3)).term 0 1 (by decide) (by decide)).2 _ ht (.inr (by omega))
  rw [t_term, show (0 : Int) + 1 = 1 from rfl, show (1 : Int) + 1 = 2 from rfl] at hS
  rcases hS with hS | ⟨_, a, j, hS⟩
  · have hS' : Sp.term (k + 2 + 1) l' 1 2 = some (.ok (shiftT 1 t) ((I.length : Int) + 1)) := hS
    have := (term_paren t0 hb hS').1 _ _ _ _ rfl t1 rfl rfl te te0
    exact .inl (termOf_ok hE hL this te te0)
  · have hS' : Sp.term (k + 2 + 1) l' 1 2 = some (.bad a 62 j) := hS
    have := (term_paren t0 hb hS').2 _ _ _ rfl
    exact .inr ⟨a, termOf_no hE hL this⟩

/-- A term in a declaration. -/
theorem in_decl {s : List UInt8} {I : List D} (h : Text s I) (hs : s.length ≤ 60000) {k : Nat} {t : Tr} (ht : Sp.term (k + 3) (Sp.ext (I ++ [tokD 0 [] (s.length : Int)])) 0 1 = some (.ok t I.length)) :
    ∃ u a, Sp.parseOf (k + 3) (120 :: 32 :: 58 :: 32 :: (s ++ [10, 61, 32, 85, 59])) = some (.ok [trD ⟨18, [120], [trD (shiftT 4 t), trD u], [], a⟩]) := by
  have hX := text_decl h hs
  have hsm := h.toks.small
  obtain ⟨l, hl⟩ : ∃ l, l = Sp.ext (I ++ [tokD 0 [] (s.length : Int)]) := ⟨_, rfl⟩
  obtain ⟨I', hI'⟩ : ∃ I', I' = tokD 1 [120] 0 :: tokD 2 [58] 2 :: (I.map (tokShift 4) ++ [tokD 2 [61] ((s.length : Int) + 5), tokD 1 [85] ((s.length : Int) + 7), tokD 2 [59] ((s.length : Int) + 8)]) := ⟨_, rfl⟩
  obtain ⟨E, hEE⟩ : ∃ E, E = tokD 0 [] ((120 :: 32 :: 58 :: 32 :: (s ++ [10, 61, 32, 85, 59])).length : Int) := ⟨_, rfl⟩
  obtain ⟨l', hl'⟩ : ∃ l', l' = Sp.ext (I' ++ [E]) := ⟨_, rfl⟩
  have hI2 : I' = [tokD 1 [120] 0, tokD 2 [58] 2] ++ (I.map (tokShift 4) ++ tokD 2 [61] ((s.length : Int) + 5) :: [tokD 1 [85] ((s.length : Int) + 7), tokD 2 [59] ((s.length : Int) + 8)]) := hI'
  have sh : Sh l l' 2 4 ((I.length : Int) + 1) 0 false := by
    rw [hl, hl', hI2]
    exact sh_mid h (by simp) (.inl rfl) (.inr rfl)
  have hT := hX.toks
  rw [← hI', ← hEE, ← hl'] at hT
  have hlen : I'.length = I.length + 5 := by rw [hI']; simp
  rw [← hl] at ht
  have g : ∀ (x : Nat) k t a, I'[x]? = some (tokD k t a) → Sp.tok l' (x : Int) = some (k, t, a) := fun x k t a hx => by
    rw [hl']
    have := (List.getElem?_eq_some_iff.1 hx).1
    exact tok_in hx (by omega)
  have t0 : Sp.tok l' 0 = some (1, [120], 0) := g 0 _ _ _ (by rw [hI2]; rfl)
  have t1 : Sp.tok l' 1 = some (2, [58], 2) := g 1 _ _ _ (by rw [hI2]; rfl)
  have gm : ∀ (i : Nat) d, [tokD 2 [61] ((s.length : Int) + 5), tokD 1 [85] ((s.length : Int) + 7), tokD 2 [59] ((s.length : Int) + 8)][i]? = some d → I'[I.length + 2 + i]? = some d := fun i d hd => by
    rw [hI2, List.getElem?_append_right (by simp; omega), List.getElem?_append_right (by simp; omega)]
    rw [← hd]
    congr 1
    simp
    omega
  have t2 : Sp.tok l' ((I.length : Int) + 2) = some (2, [61], (s.length : Int) + 5) := by
    have := g _ _ _ _ (gm 0 _ rfl)
    rw [show ((I.length + 2 + 0 : Nat) : Int) = (I.length : Int) + 2 by omega] at this
    exact this
  have t3 : Sp.tok l' ((I.length : Int) + 2 + 1) = some (1, [85], (s.length : Int) + 7) := by
    have := g _ _ _ _ (gm 1 _ rfl)
    rw [show ((I.length + 2 + 1 : Nat) : Int) = (I.length : Int) + 2 + 1 by omega] at this
    exact this
  have t4 : Sp.tok l' ((I.length : Int) + 2 + 1 + 1) = some (2, [59], (s.length : Int) + 8) := by
    have := g _ _ _ _ (gm 2 _ rfl)
    rw [show ((I.length + 2 + 2 : Nat) : Int) = (I.length : Int) + 2 + 1 + 1 by omega] at this
    exact this
  obtain ⟨e, te⟩ := hT.at_ ((I.length : Int) + 2 + 1 + 1 + 1) (by omega) (by rw [hlen]; omega)
  have te0 := (hT.fin _ e te (by rw [hlen]; omega)).1
  have hE : Sp.scE (120 :: 32 :: 58 :: 32 :: (s ++ [10, 61, 32, 85, 59])) = 0 := by unfold Sp.scE; rw [hX.scan]
  have hL : Sp.ext (Sp.scL (120 :: 32 :: 58 :: 32 :: (s ++ [10, 61, 32, 85, 59]))) = l' := by unfold Sp.scL; rw [hX.scan, hl', hI', hEE]
  have hS : Sp.term (k + 3) l' 2 1 = some (.ok (shiftT 4 t) ((I.length : Int) + 2)) := by
    have hS := ((SS_all sh (k + 3)).term 0 1 (by decide) (by decide)).2 _ ht (.inr (by omega))
    rw [t_term, show (0 : Int) + 2 = 2 from rfl, show (1 : Int) + 0 = 1 from rfl] at hS
    rcases hS with hS | ⟨h0, _⟩
    · exact hS
    · exact absurd h0 (by decide)
  have hU : Sp.term (k + 3) l' ((I.length : Int) + 2 + 1) 1 = some (.ok ⟨1, [85], [], [], (s.length : Int) + 7⟩ ((I.length : Int) + 2 + 1 + 1)) :=
    term_name k (by decide) t3 rfl t4 ⟨show (2 : Int) ≠ 1 by decide, .inr (.inr (.inr (.inl rfl)))⟩
  have hD : Sp.decl (k + 3) l' 0 = some (.ok ⟨18, [120], [trD (shiftT 4 t), trD ⟨1, [85], [], [], (s.length : Int) + 7⟩], [], 0⟩ ((I.length : Int) + 2 + 1 + 1 + 1)) := by
    unfold Sp.decl Sp.declG
    rw [t0, optK_now, name_ok (y := 1) t0 rfl (by decide), want_ok (y := 2) t1 rfl (by decide)]
    rw [call_ok (o := (Sp.tbl (k + 3)).term l' 2 1) hS, want_ok t2 rfl rfl, call_ok (o := (Sp.tbl (k + 3)).term l' ((I.length : Int) + 2 + 1) 1) hU, want_ok t4 rfl rfl]
  refine ⟨⟨1, [85], [], [], (s.length : Int) + 7⟩, 0, ?_⟩
  refine parseOf_ok hE hL ?_ te te0
  rw [parseL_step t0 (show (1 : Int) ≠ 0 by decide) hD short_nil]
  exact parseL_end (k := k + 3) (r := k + 1) te te0

end Go.Vai
end

section
namespace Go.Vai
open Go.Proofs

theorem all2_map {f : D → D → Bool} {g h : D → D} : ∀ {ks : List D}, (∀ d ∈ ks, f (g d) (h d) = true) → Sp.all2 f (ks.map g) (ks.map h) = true
  | [], _ => rfl
  | d :: ks, H => by
    show (f (g d) (h d) && Sp.all2 f (ks.map g) (ks.map h)) = true
    rw [H d List.mem_cons_self, all2_map fun x hx => H x (List.mem_cons_of_mem _ hx)]
    rfl
theorem all2_str : ∀ {ns : List D}, (∀ n ∈ ns, ∃ s, n = D.str s) → Sp.all2 Sp.strEq ns ns = true
  | [], _ => rfl
  | d :: ks, H => by
    obtain ⟨s, rfl⟩ := H d List.mem_cons_self
    show (decide (s = s) && Sp.all2 Sp.strEq ks ks) = true
    rw [decide_eq_true rfl, all2_str fun x hx => H x (List.mem_cons_of_mem _ hx)]
    rfl

/-- A tree is itself, so much further on, but for places. -/
theorem same_shift {l : List D} {w : Bool} {a b : Int} (hw : w = true → a = b) : ∀ (n : Nat) (x : Int) (t : Tr), Wn l n x t → Sp.sameT n w (trD (shiftT a t)) (trD (shiftT b t)) = true
  | 0, _, _, h => h.elim
  | n + 1, x, t, ⟨p, h1, h2, h3, h4, h5, h6, h7, h8, h9⟩ => by
    show (decide (t.k = t.k) && decide (t.nm = t.nm) && (!w || decide (t.pl + a = t.pl + b)) && decide ((t.kids.map (shiftD a)).length < 4294967296) && decide (t.nms.length < 4294967296) && Sp.all2 Sp.strEq t.nms t.nms && Sp.all2 (Sp.sameT n w) (t.kids.map (shiftD a)) (t.kids.map (shiftD b))) = true
    have e1 : (!w || decide (t.pl + a = t.pl + b)) = true := by
      cases w
      · rfl
      · rw [hw rfl, decide_eq_true rfl]; rfl
    have e2 : Sp.all2 (Sp.sameT n w) (t.kids.map (shiftD a)) (t.kids.map (shiftD b)) = true := all2_map fun d hd => by
      obtain ⟨u, y, rfl, _, hu⟩ := h7 d hd
      rw [shiftD_tr, shiftD_tr]
      exact same_shift hw n y u hu
    rw [decide_eq_true rfl, decide_eq_true rfl, e1, e2, decide_eq_true (p := (t.kids.map (shiftD a)).length < 4294967296) (by rw [List.length_map]; exact h8), decide_eq_true h9, all2_str h6]
    rfl

theorem shift_zero {l : List D} : ∀ (n : Nat) (x : Int) (t : Tr), Wn l n x t → shiftT 0 t = t
  | 0, _, _, h => h.elim
  | n + 1, x, t, ⟨p, h1, h2, h3, h4, h5, h6, h7, h8, h9⟩ => by
    have : t.kids.map (shiftD 0) = t.kids := by
      have : ∀ ks : List D, (∀ d ∈ ks, ∃ u y, d = trD u ∧ x ≤ y ∧ Wn l n y u) → ks.map (shiftD 0) = ks := by
        intro ks
        induction ks with
        | nil => exact fun _ => rfl
        | cons d ks ih =>
          intro H
          obtain ⟨u, y, rfl, _, hu⟩ := H d List.mem_cons_self
          rw [List.map_cons, ih fun x hx => H x (List.mem_cons_of_mem _ hx), shiftD_tr, shift_zero n y u hu]
      exact this _ h7
    show Tr.mk t.k t.nm (t.kids.map (shiftD 0)) t.nms (t.pl + 0) = t
    rw [this, Int.add_zero]

/-- Any text is something. -/
theorem termOf_any (s : List UInt8) {k : Nat} (hk : 600000 ≤ k) : (∃ t, Sp.termOf k s = some (.ok t)) ∨ ∃ a e, Sp.termOf k s = some (.bad a e) ∧ 0 ≤ a ∧ a ≤ s.length ∧ e ≠ 0 ∧ (e = 60 → Sp.scE s = 60 ∧ Sp.scA s = a) := by
  rcases text_or s with ⟨I, hT⟩ | ⟨hE, p, hp, hp'⟩
  · rcases term_of hT hk with ⟨t, n, hr, _⟩ | ⟨a, e, hr, h1, h2, h3⟩
    · exact .inl ⟨t, hr⟩
    · exact .inr ⟨a, e, hr, h1, h2, by omega, fun h => by omega⟩
  · exact .inr ⟨_, _, term_bad hE k, by omega, by omega, hE, fun h => ⟨h, rfl⟩⟩

theorem pure_treeBrackets (s : List UInt8) (h : s.length ≤ 1048576) : ∃ n, evFun cx n 3 [.d (.str s)] [] = some (.ret (.d (.bool true)), []) := by
  refine lim_ex ?_
  obtain ⟨X, hX⟩ : ∃ X, X = 40 :: (s ++ [10, 41]) := ⟨_, rfl⟩
  obtain ⟨Y, hY⟩ : ∃ Y, Y = 120 :: 32 :: 58 :: 32 :: (s ++ [10, 61, 32, 85, 59]) := ⟨_, rfl⟩
  have lX : X.length = s.length + 3 := by rw [hX]; simp
  have lY : Y.length = s.length + 9 := by rw [hY]; simp
  obtain ⟨k, hk⟩ : ∃ k, 600000 ≤ k := ⟨600000, Nat.le_refl _⟩
  obtain ⟨kf, hkf⟩ : ∃ kf : List UInt8 → Nat, kf = fun x => if x = X then k + 5 else k + 3 := ⟨_, rfl⟩
  have kS : kf s = k + 3 := by rw [hkf]; exact if_neg fun e => by have := congrArg List.length e; omega
  have kX : kf X = k + 5 := by rw [hkf]; exact if_pos rfl
  have kY : kf Y = k + 3 := by rw [hkf]; exact if_neg fun e => by have := congrArg List.length e; omega
  have hb : decide (s.length ≤ big) = true := decide_eq_true (by unfold big; omega)
  have hbX : decide (X.length ≤ big) = true := decide_eq_true (by unfold big; omega)
  have hbY : decide (Y.length ≤ big) = true := decide_eq_true (by unfold big; omega)
  have d1 : decide ([(40 : UInt8)].length + s.length ≤ 4611686018427387904) = true := decide_eq_true (by simp; omega)
  have d2 : decide (((40 : UInt8) :: s).length + [(10 : UInt8), 41].length ≤ 4611686018427387904) = true := decide_eq_true (by simp; omega)
  have d3 : decide ([(120 : UInt8), 32, 58, 32].length + s.length ≤ 4611686018427387904) = true := decide_eq_true (by simp; omega)
  have d4 : decide (((120 : UInt8) :: 32 :: 58 :: 32 :: s).length + [(10 : UInt8), 61, 32, 85, 59].length ≤ 4611686018427387904) = true := decide_eq_true (by simp; omega)
  have bad : ∀ a e : Int, Sp.termOf (k + 3) s = some (.bad a e) → 0 ≤ a → a ≤ s.length → e ≠ 0 → (e = 60 → Sp.scE s = 60 ∧ Sp.scA s = a) → evLim cx 3 [.d (.str s)] [] = some (.ret (.d (.bool true)), []) := by
    intro a e hr h1 h1' h2 h3
    refine lim_bodyK (T3c_knows kf 0) (N := 0) ?_
    rw [g3, hb, must, cond_true, must, cond_true, kS, hr, optK_now]
    show must (!decide (e = 0)) (bif decide ((60000 : Int) < (s.length : Int)) then some (Out.ret (V.d (D.bool true)), []) else must (decide ([(40 : UInt8)].length + s.length ≤ 4611686018427387904)) (must (decide (((40 : UInt8) :: s).length + [(10 : UInt8), 41].length ≤ 4611686018427387904)) (must (decide ((40 :: (s ++ [10, 41])).length ≤ big)) (must (decide ((40 :: (s ++ [10, 41])).length ≤ big)) (optK (Sp.termOf (kf (40 :: (s ++ [10, 41]))) (40 :: (s ++ [10, 41]))) _))))) = _
    rw [decide_eq_false h2, Bool.not_false, must, cond_true]
    by_cases hl : (60000 : Int) < (s.length : Int)
    · rw [decide_eq_true hl, cond_true]
    · rw [decide_eq_false hl, cond_false, d1, must, cond_true, d2, must, cond_true, ← hX, hbX, must, cond_true, must, cond_true, kX]
      rcases termOf_any X (k := k + 5) (by omega) with ⟨t, hx⟩ | ⟨a', e', hx, h4, _, h5, h6⟩
      · rw [hx, optK_now]
        have h60 : e ≠ 60 := by
          intro he
          obtain ⟨h7, h8⟩ := h3 he
          obtain ⟨p, hp, _⟩ := scan_utf h7
          have := utf_brackets (by omega) hp
          rw [← hX] at this
          have hE : Sp.scE X ≠ 0 := by unfold Sp.scE; rw [this]; exact (show (60 : Int) ≠ 0 by decide)
          rw [term_bad hE] at hx
          cases hx
        show (bif !decide (e = (0 : Int)) then bif decide ((0 : Int) ≤ a) then bif !decide (e = (60 : Int)) then some (Out.ret (V.d (D.bool true)), []) else some (Out.ret (V.d (D.bool false)), []) else some (Out.ret (V.d (D.bool false)), []) else _) = _
        rw [decide_eq_false h2, decide_eq_true h1, decide_eq_false h60]
        rfl
      · rw [hx, optK_now]
        show must (!decide (e' = 0)) (bif !decide (e = (0 : Int)) then bif decide ((0 : Int) ≤ a) then bif decide ((0 : Int) ≤ a') then bif !decide (e = (60 : Int)) then some (Out.ret (V.d (D.bool true)), []) else
          bif decide (e' = (60 : Int)) then some (Out.ret (V.d (D.bool (decide (a' = IntKind.i64.wrap (a + (1 : Int)))))), []) else some (Out.ret (V.d (D.bool false)), [])
          else some (Out.ret (V.d (D.bool false)), []) else some (Out.ret (V.d (D.bool false)), []) else _) = _
        rw [decide_eq_false h5, decide_eq_false h2, decide_eq_true h1, decide_eq_true h4]
        simp only [Bool.not_false, must, cond_true]
        by_cases he : e = 60
        · obtain ⟨h7, h8⟩ := h3 he
          obtain ⟨p, hp, hp2⟩ := scan_utf h7
          have := utf_brackets (by omega) hp
          rw [← hX] at this
          have hE : Sp.scE X = 60 := by unfold Sp.scE; rw [this]
          have hA : Sp.scA X = ((p + 1 : Nat) : Int) := by unfold Sp.scA; rw [this]
          rw [term_bad (by rw [hE]; decide), hE, hA] at hx
          cases hx
          have e2 : a = (p : Int) := by rw [← h8, hp2]
          have e3 : IntKind.i64.wrap (a + 1) = a + 1 := IntWalk.i64_in _ (by omega)
          rw [decide_eq_true he, e3, decide_eq_true (p := ((p + 1 : Nat) : Int) = a + 1) (by omega)]
          rfl
        · rw [decide_eq_false he]
          rfl
  rcases text_or s with ⟨I, hT⟩ | ⟨hE, p, hp, hp'⟩
  · rcases term_of hT (k := k + 3) (by omega) with ⟨t, n, hr, hterm, hpos, x, hx0, hW⟩ | ⟨a, e, hr, h1, h2, h3⟩
    · refine lim_bodyK (T3c_knows kf n) (N := 0) ?_
      rw [g3, hb, must, cond_true, must, cond_true, kS, hr, optK_now]
      show (bif decide ((60000 : Int) < (s.length : Int)) then some (Out.ret (V.d (D.bool true)), []) else must (decide ([(40 : UInt8)].length + s.length ≤ 4611686018427387904)) (must (decide (((40 : UInt8) :: s).length + [(10 : UInt8), 41].length ≤ 4611686018427387904)) (must (decide ((40 :: (s ++ [10, 41])).length ≤ big)) (must (decide ((40 :: (s ++ [10, 41])).length ≤ big)) (optK (Sp.termOf (kf (40 :: (s ++ [10, 41]))) (40 :: (s ++ [10, 41]))) _))))) = _
      by_cases hl : (60000 : Int) < (s.length : Int)
      · rw [decide_eq_true hl, cond_true]
      · have hs : s.length ≤ 60000 := by omega
        rw [decide_eq_false hl, cond_false, d1, must, cond_true, d2, must, cond_true, ← hX, hbX, must, cond_true, must, cond_true, kX]
        rcases in_brackets hT hs hpos hterm with hx | ⟨a, hx⟩
        · rw [← hX] at hx
          obtain ⟨u, a, hy⟩ := in_decl hT hs hterm
          rw [← hY] at hy
          rw [hx, optK_now]
          show must (decide ([(120 : UInt8), 32, 58, 32].length + s.length ≤ 4611686018427387904)) (must (decide (((120 : UInt8) :: 32 :: 58 :: 32 :: s).length + [(10 : UInt8), 61, 32, 85, 59].length ≤ 4611686018427387904)) (must (decide ((120 :: 32 :: 58 :: 32 :: (s ++ [10, 61, 32, 85, 59])).length ≤ big)) (must (decide ((120 :: 32 :: 58 :: 32 :: (s ++ [10, 61, 32, 85, 59])).length ≤ big)) (optK (Sp.parseOf (kf (120 :: 32 :: 58 :: 32 :: (s ++ [10, 61, 32, 85, 59]))) (120 :: 32 :: 58 :: 32 :: (s ++ [10, 61, 32, 85, 59]))) _)))) = _
          rw [d3, must, cond_true, d4, must, cond_true, ← hY, hbY, must, cond_true, must, cond_true, kY, hy, optK_now]
          have z := shift_zero n x t hW
          have s1 : Sp.sameT n false (trD t) (trD (shiftT 1 t)) = true := by
            have := same_shift (l := Sp.ext (I ++ [tokD 0 [] (s.length : Int)])) (w := false) (a := 0) (b := 1) (fun h => by cases h) n x t hW
            rwa [z] at this
          have s2 : Sp.sameT n false (trD (shiftT 4 t)) (trD t) = true := by
            have := same_shift (l := Sp.ext (I ++ [tokD 0 [] (s.length : Int)])) (w := false) (a := 4) (b := 0) (fun h => by cases h) n x t hW
            rwa [z] at this
          refine Eq.trans (b := must (Sp.sameT n false (trD t) (trD (shiftT 1 t))) (must (Sp.sameT n false (trD (shiftT 4 t)) (trD t)) (some (Out.ret (V.d (D.bool true)), [])))) (by kernel_rfl) ?_
          rw [s1, s2]
          rfl
        · rw [← hX] at hx
          rw [hx, optK_now]
          rfl
    · exact bad a e hr h1 h2 (by omega) (fun h => by omega)
  · exact bad _ _ (term_bad hE _) (by omega) (by omega) hE (fun h => ⟨h, rfl⟩)

end Go.Vai
end

section
namespace Go.Vai
open Go.Proofs

/-- A declaration but for its end. -/
def Sp.decl0 (k : Nat) (l : List D) (i : Int) : Option PR := optK (Sp.tok l i) fun p => Sp.name l i fun s j => Sp.want l j [58] fun j => Sp.call (Sp.term k l j 1) fun a j => Sp.want l j [61] fun j => Sp.call (Sp.term k l j 1) fun t j => some (.ok ⟨18, s, [trD a, trD t], [], p.2.2⟩ j)

theorem decl_eq (k : Nat) (l : List D) (i : Int) : Sp.decl k l i = Sp.call (Sp.decl0 k l i) fun t j => Sp.want l j [59] fun j => some (.ok t j) := by
  unfold Sp.decl Sp.declG Sp.decl0 Sp.call Sp.name Sp.want
  simp only [optK_optK, optK_cond, optK_now, t_term]
  refine optK_congr fun p hp => ?_
  simp only [hp, optK_now]
  refine cond_congr (fun _ => ?_) fun _ => rfl
  refine optK_congr fun q hq => ?_
  refine cond_congr (fun _ => ?_) fun _ => rfl
  refine optK_congr fun r hr => ?_
  refine cond_congr (fun _ => ?_) fun _ => rfl
  refine optK_congr fun a ha => ?_
  refine cond_congr (fun _ => ?_) fun _ => rfl
  refine optK_congr fun b hb => ?_
  refine cond_congr (fun _ => ?_) fun _ => rfl
  rfl

/-- A declaration's tree. -/
def WD (l : List D) (t : Tr) : Prop := ∃ s a b p n x y, t = ⟨18, s, [trD a, trD b], [], p⟩ ∧ Wn l n x a ∧ Wn l n y b

theorem decl_U {l : List D} {m : Nat} {N : Int} (h : Toks l m N) {k : Nat} {i : Int} (h0 : 0 ≤ i) (h1 : i ≤ m) (hk : 8 * (m - i) + 6 ≤ k) :
    (∃ t j, Sp.decl k l i = some (.ok t j) ∧ i < j ∧ j ≤ m ∧ WD l t) ∨ (∃ x p e j, Sp.decl k l i = some (.bad p.2.2 e j) ∧ Sp.tok l x = some p ∧ (e = 61 ∨ e = 62)) := by
  obtain ⟨p, hp⟩ := h.at_ i h0 (by omega)
  have hU := UU_all h k
  unfold Sp.decl Sp.declG
  rw [hp, optK_now]
  by_cases hk1 : p.1 = 1
  · rw [name_ok hp hk1 rfl]
    have hi := h.lt hp (.inl hk1)
    obtain ⟨q, hq⟩ := h.at_ (i + 1) (by omega) (by omega)
    cases hs : Sp.isS q [58]
    · refine .inr ⟨i + 1, q, 61, i + 1, ?_, hq, .inl rfl⟩
      unfold Sp.want
      rw [hq, optK_now, hs]; rfl
    · rw [want_ok hq hs rfl]
      have hi1 := h.sign hq hs
      obtain ⟨out, ho, hg⟩ := hU.term (i + 1 + 1) 1 (by omega) (by omega) (by omega)
      rw [ho]
      cases out with
      | bad a e j =>
        obtain ⟨⟨x, w, hw, rfl⟩, he⟩ := hg
        exact .inr ⟨x, w, e, j, rfl, hw, he⟩
      | ok a j =>
        obtain ⟨x, hx, hxj, hj, n, hWa⟩ := hg
        rw [call_ok rfl]
        obtain ⟨r, hr⟩ := h.at_ j (by omega) (by omega)
        cases hs2 : Sp.isS r [61]
        · refine .inr ⟨j, r, 61, j, ?_, hr, .inl rfl⟩
          unfold Sp.want
          rw [hr, optK_now, hs2]; rfl
        · rw [want_ok hr hs2 rfl]
          have hj1 := h.sign hr hs2
          obtain ⟨out, ho, hg⟩ := hU.term (j + 1) 1 (by omega) (by omega) (by omega)
          rw [ho]
          cases out with
          | bad b e j =>
            obtain ⟨⟨x, w, hw, rfl⟩, he⟩ := hg
            exact .inr ⟨x, w, e, j, rfl, hw, he⟩
          | ok b j2 =>
            obtain ⟨y, hy, hyj, hj2, n2, hWb⟩ := hg
            rw [call_ok rfl]
            obtain ⟨u, hu⟩ := h.at_ j2 (by omega) (by omega)
            cases hs3 : Sp.isS u [59]
            · refine .inr ⟨j2, u, 61, j2, ?_, hu, .inl rfl⟩
              unfold Sp.want
              rw [hu, optK_now, hs3]; rfl
            · rw [want_ok hu hs3 rfl]
              have hj3 := h.sign hu hs3
              exact .inl ⟨_, j2 + 1, rfl, by omega, by omega, p.2.1, a, b, p.2.2, max n n2, x, y, rfl, Wn_le hWa (Nat.le_max_left _ _), Wn_le hWb (Nat.le_max_right _ _)⟩
  · refine .inr ⟨i, p, 61, i, ?_, hp, .inl rfl⟩
    unfold Sp.name
    rw [hp, optK_now, decide_eq_false hk1]; rfl

theorem decl_sim {l l' : List D} {c δ M : Int} {full : Bool} (h : Sh l l' c δ M 0 full) (k : Nat) (i : Int) : Sim c δ M 0 full (i + 1) (Sp.decl0 k l i) (Sp.decl0 k l' (i + c)) := by
  have hS := SS_all h k
  have ht : ∀ j : Int, Sim c δ M 0 full (j + 1) (Sp.term k l j 1) (Sp.term k l' (j + c) 1) := fun j => hS.term j 1 (by decide) (by decide)
  unfold Sp.decl0
  refine sim_tok_x h (Int.le_refl _) fun p hp => ?_
  refine Sim.mono (i := i + 2) ?_ (by omega)
  refine sim_name h (by omega) fun s => ?_
  refine sim_want h (by omega) ?_
  refine sim_call (ht (i + 1 + 1)) (by omega) fun a j _ hj => ?_
  refine Sim.mono (i := j + 1) ?_ (by omega)
  refine sim_want h (Int.le_refl _) ?_
  refine sim_call (ht (j + 1)) (by omega) fun t j2 _ hj2 => ?_
  exact sim_ok (by simp [shiftT, shiftD_tr, shiftP]) (Int.le_refl _)

/-- All tokens alike: a declaration is alike, or fails alike. -/
theorem decl_full {l l' : List D} {c δ M : Int} (h : Sh l l' c δ M 0 true) (k : Nat) (i : Int) {out : PR} (ho : Sp.decl k l i = some out) : Sp.decl k l' (i + c) = some (shiftR c δ out) := by
  have hs : Sim c δ M 0 true (i + 1) (Sp.decl k l i) (Sp.decl k l' (i + c)) := by
    rw [decl_eq, decl_eq]
    refine sim_call (decl_sim h k i) (Int.le_refl _) fun t j _ hj => ?_
    refine Sim.mono (i := j + 1) ?_ (by omega)
    exact sim_want h (Int.le_refl _) (sim_ok rfl (Int.le_refl _))
  rcases hs.2 out ho (by cases out <;> first | exact .inl rfl | exact rfl) with h1 | ⟨h1, _⟩
  · exact h1
  · exact absurd h1 (by decide)

/-- The tokens ahead alike: a declaration that is one stays one. -/
theorem decl_pre {l l' : List D} {c δ : Int} {m : Nat} {N : Int} (hT : Toks l m N) (h : Sh l l' c δ (m : Int) 0 false) (k : Nat) (i : Int) {t : Tr} {j : Int} (ho : Sp.decl k l i = some (.ok t j)) : Sp.decl k l' (i + c) = some (.ok (shiftT δ t) (j + c)) := by
  rw [decl_eq] at ho ⊢
  obtain ⟨t2, j2, e2, e⟩ := call_inv ho
  unfold Sp.want at e
  obtain ⟨p, hp, e⟩ := optK_some e
  cases hs : Sp.isS p [59] <;> rw [hs] at e
  · cases e
  · rw [cond_true, up_at hp] at e
    cases e
    have hlt := hT.sign hp hs
    have hk := isS_kind hs
    rcases (decl_sim h k i).2 _ e2 (.inr hlt) with h1 | ⟨h1, _⟩
    · have h1' : Sp.decl0 k l' (i + c) = some (.ok (shiftT δ t) (j2 + c)) := h1
      rw [call_ok h1']
      rcases h.at_ j2 p hp (.inr hlt) with h2 | ⟨_, _, h3, _⟩
      · rw [want_ok h2 hs rfl]
        show some (PR.ok _ (j2 + c + 1)) = some (PR.ok _ (j2 + 1 + c))
        rw [show j2 + c + 1 = j2 + 1 + c by omega]
      · omega
    · exact absurd h1 (by decide)

theorem parse_mono {k : Nat} {l : List D} : ∀ (r r' : Nat) (i : Int) (ds : List D) out, Sp.parseL k r l i ds = some out → r ≤ r' → Sp.parseL k r' l i ds = some out
  | 0, _, _, _, _, h, _ => by cases h
  | r + 1, 0, _, _, _, _, h => by omega
  | r + 1, r' + 1, i, ds, out, h, hr => by
    rw [Sp.parseL] at h ⊢
    obtain ⟨p, hp, h⟩ := optK_some h
    rw [hp, optK_now]
    cases hz : decide (p.1 = 0) <;> rw [hz] at h
    · rw [cond_false] at h ⊢
      obtain ⟨q, hq, h⟩ := optK_some h
      rw [hq, optK_now]
      cases hok : Sp.okQ q <;> rw [hok] at h
      · exact h
      · rw [cond_true] at h ⊢
        obtain ⟨hs, h⟩ := must_some h
        rw [hs]
        exact parse_mono r r' _ _ _ h (by omega)
    · exact h

/-- What a list of declarations is. -/
theorem parse_U {l : List D} {m : Nat} {N : Int} (h : Toks l m N) {k : Nat} (hk : 8 * m + 6 ≤ k) : ∀ (r : Nat) (i : Int) (ds : List D), 0 ≤ i → i ≤ m → m - i < r → (ds.length : Int) ≤ i →
    (∃ new, Sp.parseL k r l i ds = some (.ok (ds ++ new) m) ∧ (ds.length + new.length : Int) ≤ m ∧ ∀ d ∈ new, ∃ t, d = trD t ∧ WD l t) ∨ (∃ x p e j ds2, Sp.parseL k r l i ds = some (.bad p.2.2 e j ds2) ∧ Sp.tok l x = some p ∧ (e = 61 ∨ e = 62))
  | 0, i, _, _, _, hr, _ => by omega
  | r + 1, i, ds, h0, h1, hr, hl => by
    have hsm := h.small
    obtain ⟨p, hp⟩ := h.at_ i h0 (by omega)
    by_cases hz : p.1 = 0
    · have : i = m := by
        by_cases hlt : i < m
        · have := h.kind i p hp hlt; omega
        · omega
      subst this
      exact .inl ⟨[], by rw [parseL_end hp hz, List.append_nil], by simpa using hl, fun d hd => by cases hd⟩
    · rcases decl_U h h0 h1 (k := k) (by omega) with ⟨t, j, hd, hij, hj, hW⟩ | ⟨x, q, e, j, hd, hq, he⟩
      · rw [parseL_step hp hz hd (short_of (n := (m : Int)) (by omega) (by omega))]
        rcases parse_U h hk r j (ds ++ [trD t]) (by omega) hj (by omega) (by simp; omega) with ⟨new, h2, h3, h4⟩ | ⟨x, q, e, j2, ds2, h2, h3, h4⟩
        · refine .inl ⟨trD t :: new, by rw [h2]; simp, ?_, fun d hd => ?_⟩
          · simp only [List.length_append, List.length_cons, List.length_nil] at h3 ⊢; omega
          · rcases List.mem_cons.1 hd with rfl | hd
            · exact ⟨t, rfl, hW⟩
            · exact h4 d hd
        · exact .inr ⟨x, q, e, j2, ds2, h2, h3, h4⟩
      · refine .inr ⟨x, q, e, j, ds, ?_, hq, he⟩
        rw [Sp.parseL, hp, optK_now, decide_eq_false hz, cond_false, hd]
        rfl

/-- Declarations that are ahead of others. -/
theorem parse_pre {B : Nat} (hB : B < 4294967296) {l l' : List D} {m : Nat} {N : Int} (hT : Toks l m N) (h : Sh l l' 0 0 (m : Int) 0 false) {k : Nat} : ∀ (r : Nat) (i : Int) (ds ds2 : List D) (j : Int), Sp.parseL k r l i ds = some (.ok ds2 j) → i ≤ m → (∀ d ∈ ds2, ∃ t, d = trD t ∧ WD l t) → ds.length + r ≤ B →
    ∃ q, q ≤ r ∧ ∀ r', Sp.parseL k (r' + q) l' i ds = Sp.parseL k r' l' j ds2
  | 0, _, _, _, _, h, _, _, _ => by cases h
  | r + 1, i, ds, ds2, j, ho, hi, hW, hl => by
    rw [Sp.parseL] at ho
    obtain ⟨p, hp, ho⟩ := optK_some ho
    cases hz : decide (p.1 = 0) <;> rw [hz] at ho
    · rw [cond_false] at ho
      obtain ⟨q, hq, ho⟩ := optK_some ho
      cases q with
      | bad a e j => cases ho
      | ok t j1 =>
        obtain ⟨hs, ho⟩ := must_some ho
        have hz' : p.1 ≠ 0 := of_decide_eq_false hz
        have hlt : i < m := by
          by_cases hlt : i < m
          · exact hlt
          · have := (hT.fin i p hp (by omega)).1; omega
        have hpre := decl_pre hT h k i hq
        rw [Int.add_zero, Int.add_zero] at hpre
        obtain ⟨new, hnew⟩ : ∃ new, ds2 = ds ++ [trD t] ++ new := parse_more _ _ _ _ _ ho
        obtain ⟨t', ht', hWD⟩ := hW (trD t) (by rw [hnew]; simp)
        have ht0 : shiftT 0 t = t := by
          have : t = t' := by
            have := ht'
            unfold trD at this
            cases t; cases t'
            simp at this
            simp [this]
          rw [this]
          obtain ⟨s, a, b, p', n, x, y, rfl, ha, hb⟩ := hWD
          show Tr.mk 18 s [shiftD 0 (trD a), shiftD 0 (trD b)] [] (p' + 0) = _
          rw [shiftD_tr, shiftD_tr, shift_zero n x a ha, shift_zero n y b hb, Int.add_zero]
        rw [ht0] at hpre
        have hj1 : j1 ≤ m := by
          rw [decl_eq] at hq
          obtain ⟨t2, j2, e2, e⟩ := call_inv hq
          unfold Sp.want at e
          obtain ⟨p2, hp2, e⟩ := optK_some e
          cases hs2 : Sp.isS p2 [59] <;> rw [hs2] at e
          · cases e
          · rw [cond_true, up_at hp2] at e
            cases e
            have := hT.sign hp2 hs2
            omega
        obtain ⟨q, hq1, hq2⟩ := parse_pre hB hT h r j1 (ds ++ [trD t]) ds2 j ho hj1 hW (by simp; omega)
        refine ⟨q + 1, by omega, fun r' => ?_⟩
        rcases h.at_ i p hp (.inr hlt) with h2 | ⟨_, _, h3, _⟩
        · rw [Int.add_zero] at h2
          rw [show r' + (q + 1) = (r' + q) + 1 by omega, parseL_step h2 hz' hpre hs]
          exact hq2 r'
        · omega
    · cases ho
      exact ⟨0, by omega, fun r' => rfl⟩
where
  parse_more {k : Nat} {l : List D} : ∀ (r : Nat) (i : Int) (ds ds2 : List D) (j : Int), Sp.parseL k r l i ds = some (.ok ds2 j) → ∃ new, ds2 = ds ++ new
    | 0, _, _, _, _, h => by cases h
    | r + 1, i, ds, ds2, j, ho => by
      rw [Sp.parseL] at ho
      obtain ⟨p, hp, ho⟩ := optK_some ho
      cases hz : decide (p.1 = 0) <;> rw [hz] at ho
      · rw [cond_false] at ho
        obtain ⟨q, hq, ho⟩ := optK_some ho
        cases q with
        | bad a e j => cases ho
        | ok t j1 =>
          obtain ⟨hs, ho⟩ := must_some ho
          obtain ⟨new, hn⟩ := parse_more r _ _ _ _ ho
          exact ⟨trD t :: new, by rw [hn]; simp [Sp.trOf]⟩
      · cases ho
        exact ⟨[], by simp⟩

def shiftL (c δ : Int) (pre : List D) (n : Nat) : PL → PL
  | .ok ds j => .ok (pre ++ (ds.drop n).map (shiftD δ)) (j + c)
  | .bad a e j ds => .bad (a + δ) e (j + c) (pre ++ (ds.drop n).map (shiftD δ))

/-- Declarations behind others. -/
theorem parse_full {B : Nat} (hB : B < 4294967296) {l l' : List D} {c δ M : Int} (h : Sh l l' c δ M 0 true) {k : Nat} {pre : List D} : ∀ (r : Nat) (i : Int) (new : List D) out, Sp.parseL k r l i new = some out → pre.length + new.length + r ≤ B →
    Sp.parseL k r l' (i + c) (pre ++ new.map (shiftD δ)) = some (shiftL c δ pre 0 out)
  | 0, _, _, _, ho, _ => by cases ho
  | r + 1, i, new, out, ho, hl => by
    rw [Sp.parseL] at ho ⊢
    obtain ⟨p, hp, ho⟩ := optK_some ho
    rcases h.at_ i p hp (.inl rfl) with h2 | ⟨h3, _⟩
    · rw [h2, optK_now]
      show (bif decide (p.1 = 0) then _ else _) = _
      cases hz : decide (p.1 = 0) <;> rw [hz] at ho
      · rw [cond_false] at ho ⊢
        obtain ⟨q, hq, ho⟩ := optK_some ho
        rw [decl_full h k i hq, optK_now]
        cases q with
        | bad a e j =>
          cases ho
          rfl
        | ok t j1 =>
          obtain ⟨hs, ho⟩ := must_some ho
          have hs' : Sp.short (pre ++ new.map (shiftD δ)) = true := decide_eq_true (by simp; omega)
          show must (Sp.short (pre ++ new.map (shiftD δ))) (Sp.parseL k r l' (j1 + c) (pre ++ new.map (shiftD δ) ++ [trD (shiftT δ t)])) = _
          rw [hs']
          have := parse_full hB h (pre := pre) r j1 (new ++ [trD t]) out ho (by simp; omega)
          rw [List.map_append, List.map_cons, List.map_nil, shiftD_tr, ← List.append_assoc] at this
          exact this
      · rw [cond_true] at ho ⊢
        cases ho
        rfl
    · cases h3

end Go.Vai
end

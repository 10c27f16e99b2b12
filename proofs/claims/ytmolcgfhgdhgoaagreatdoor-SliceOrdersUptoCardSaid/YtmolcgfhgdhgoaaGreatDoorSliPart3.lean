/-
  Show: the reference's looks at trees. To: Show: terms are printed.
-/
import Derived.Test.YtmolcgfhgdhgoaaGreatDoorSliPart2
set_option linter.all false
noncomputable section
namespace Go.Vai
open Go.Proofs
theorem g74(n m:Nat)(k:Int)(nm:List UInt8)(kids:List T)(nms:List (List UInt8))(pl:Int):zn cx (z7 95 ql (zi m) (λ t=>mkB (zz t)) K1) n 95 [.d (.agg [.int .i64 k,.str nm,.sl 5 (T.ds kids),.sl 1 (nms.map .str),.int .i64 pl])] []=bif decide ((0:Int)<(↑(List.map D.str nms).length:Int)) then some (Out.ret (V.d (D.bool false)),[]) else bif decide (k=(1:Int)) then bif decide ((↑(T.ds kids).length:Int)=(0:Int)) then zb (decide (nm.length≤big)) (some (Out.ret (V.d (D.bool (z6 nm))),[])) else some (Out.ret (V.d (D.bool false)),[]) else bif decide (k=(17:Int)) then bif decide ((↑(T.ds kids).length:Int)=(0:Int)) then bif decide (nm=[48]) then some (Out.ret (V.d (D.bool true)),[]) else some (Out.ret (V.d (D.bool (decide (nm=[49])))),[]) else some (Out.ret (V.d (D.bool false)),[]) else bif decide (k=(16:Int)) then bif decide (nm=[]) then bif decide ((↑(T.ds kids).length:Int)=(1:Int)) then zb (decide ((0:Int)<(↑(T.ds kids).length:Int))) (za (T.ds kids) (0:Int).toNat λ y=>za y.cells 0 λ c=>za y.cells 1 λ c_1=>za y.cells 2 λ c_2=>za y.cells 3 λ c_3=>za y.cells 4 λ c_4=>zc (zi m (D.agg [c,c_1,c_2,c_3,c_4])) λ b=>some (Out.ret (V.d (D.bool (zz b))),[])) else some (Out.ret (V.d (D.bool false)),[]) else some (Out.ret (V.d (D.bool false)),[]) else bif decide (k=(14:Int)) then bif decide (k=(14:Int)) then bif decide (nm=[]) then bif decide ((↑(T.ds kids).length:Int)=(2:Int)) then zb (decide ((0:Int)<(↑(T.ds kids).length:Int))) (za (T.ds kids) (0:Int).toNat λ y=>za y.cells 0 λ c=>za y.cells 1 λ c_1=>za y.cells 2 λ c_2=>za y.cells 3 λ c_3=>za y.cells 4 λ c_4=>zc (zi m (D.agg [c,c_1,c_2,c_3,c_4])) λ b=>bif zz b then zb (decide ((1:Int)<(↑(T.ds kids).length:Int))) (za (T.ds kids) (1:Int).toNat λ y=>za y.cells 0 λ c=>za y.cells 1 λ c_5=>za y.cells 2 λ c_6=>za y.cells 3 λ c_7=>za y.cells 4 λ c_8=>zc (zi m (D.agg [c,c_5,c_6,c_7,c_8])) λ b=>some (Out.ret (V.d (D.bool (zz b))),[])) else some (Out.ret (V.d (D.bool false)),[])) else some (Out.ret (V.d (D.bool false)),[]) else some (Out.ret (V.d (D.bool false)),[]) else some (Out.ret (V.d (D.bool false)),[]) else bif decide (k=(15:Int)) then bif decide (nm=[]) then bif decide ((↑(T.ds kids).length:Int)=(2:Int)) then zb (decide ((0:Int)<(↑(T.ds kids).length:Int))) (za (T.ds kids) (0:Int).toNat λ y=>za y.cells 0 λ c=>za y.cells 1 λ c_1=>za y.cells 2 λ c_2=>za y.cells 3 λ c_3=>za y.cells 4 λ c_4=>zc (zi m (D.agg [c,c_1,c_2,c_3,c_4])) λ b=>bif zz b then zb (decide ((1:Int)<(↑(T.ds kids).length:Int))) (za (T.ds kids) (1:Int).toNat λ y=>za y.cells 0 λ c=>za y.cells 1 λ c_5=>za y.cells 2 λ c_6=>za y.cells 3 λ c_7=>za y.cells 4 λ c_8=>zc (zi m (D.agg [c,c_5,c_6,c_7,c_8])) λ b=>some (Out.ret (V.d (D.bool (zz b))),[])) else some (Out.ret (V.d (D.bool false)),[])) else some (Out.ret (V.d (D.bool false)),[]) else some (Out.ret (V.d (D.bool false)),[]) else some (Out.ret (V.d (D.bool false)),[]):=by kernel_rfl
theorem g76(n:Nat)(k:Int)(nm:List UInt8)(kids:List T)(nms:List (List UInt8))(pl:Int):zn cx K1 n 97 [.d (.agg [.int .i64 k,.str nm,.sl 5 (T.ds kids),.sl 1 (nms.map .str),.int .i64 pl])] []=bif !decide (k=(12:Int)) then some (Out.ret (V.d (D.bool false)),[]) else bif !decide (nm=[]) then some (Out.ret (V.d (D.bool false)),[]) else bif decide ((0:Int)<(↑(List.map D.str nms).length:Int)) then some (Out.ret (V.d (D.bool false)),[]) else LP cx K1 n 97 0 4 n [(1,V.ptr 1 0),(3,V.d (D.int .i64 (0:Int)))] [(1,Ob.val 5 (V.d (D.agg [D.int .i64 k,D.str nm,D.sl 5 (T.ds kids),D.sl 1 (List.map D.str nms),D.int .i64 pl])))] (AK cx K1 n 97 0 4 (EK cx 97 0)):=by kernel_rfl
theorem l76(n r:Nat)(k:Int)(nm:List UInt8)(kids:List T)(nms:List (List UInt8))(pl i:Int):LP cx K1 n 97 0 4 (r+1) [(1,V.ptr 1 0),(3,V.d (D.int .i64 i))] [(1,Ob.val 5 (V.d (D.agg [D.int .i64 k,D.str nm,D.sl 5 (T.ds kids),D.sl 1 (List.map D.str nms),D.int .i64 pl])))] (AK cx K1 n 97 0 4 (EK cx 97 0))=bif decide (i<(↑(T.ds kids).length:Int)) then zb (decide (0≤i)&&decide (i<(↑(T.ds kids).length:Int))) (za (T.ds kids) i.toNat λ y=>za y.cells 0 λ c=>za y.cells 1 λ c_1=>za y.cells 2 λ c_2=>za y.cells 3 λ c_3=>za y.cells 4 λ c_4=>match c with
 | D.int k' n_1=>bif decide (k'=IntKind.i64) then bif !decide (n_1=(13:Int)) then some (Out.ret (V.d (D.bool false)),[]) else match c_2 with
  | D.sl s l=>bif s.beq (cx.P.cellsOf 26)||l.isEmpty then bif decide ((0:Int)<(↑l.length:Int)) then some (Out.ret (V.d (D.bool false)),[]) else match c_1 with
   | D.str s=>zb (decide (s.length≤big)) (bif !z6 s then some (Out.ret (V.d (D.bool false)),[]) else match c_3 with
    | D.sl s l=>bif s.beq (cx.P.cellsOf 9)||l.isEmpty then bif !decide ((↑l.length:Int)=(1:Int)) then some (Out.ret (V.d (D.bool false)),[]) else match c_3 with
     | D.sl s l=>bif s.beq (cx.P.cellsOf 9)||l.isEmpty then zb (decide ((0:Int)<(↑l.length:Int))) (za l (0:Int).toNat λ y=>za y.cells 0 λ c=>match c with
      | D.str s=>bif !decide (s=[48]) then match c_3 with
       | D.sl s l=>bif s.beq (cx.P.cellsOf 9)||l.isEmpty then zb (decide ((0:Int)<(↑l.length:Int))) (za l (0:Int).toNat λ y=>za y.cells 0 λ c=>match c with
        | D.str s=>bif !decide (s=[49]) then some (Out.ret (V.d (D.bool false)),[]) else LP cx K1 n 97 0 4 r [(1,V.ptr 1 0),(3,V.d (D.int .i64 (IntKind.i64.wrap (i+(1:Int)))))] [(1,Ob.val 5 (V.d (D.agg [D.int .i64 k,D.str nm,D.sl 5 (T.ds kids),D.sl 1 (List.map D.str nms),D.int .i64 pl])))] (AK cx K1 n 97 0 4 (EK cx 97 0))
        | x=>none) else none
       | x=>none else LP cx K1 n 97 0 4 r [(1,V.ptr 1 0),(3,V.d (D.int .i64 (IntKind.i64.wrap (i+(1:Int)))))] [(1,Ob.val 5 (V.d (D.agg [D.int .i64 k,D.str nm,D.sl 5 (T.ds kids),D.sl 1 (List.map D.str nms),D.int .i64 pl])))] (AK cx K1 n 97 0 4 (EK cx 97 0))
      | x=>none) else none
     | x=>none else none
    | x=>none)
   | x=>none else none
  | x=>none else none
 | x=>none) else some (Out.ret (V.d (D.bool true)),[]):=by kernel_rfl
theorem g42(n m:Nat)(k:Int)(nm:List UInt8)(kids:List T)(nms:List (List UInt8))(pl:Int):zn cx (KQ m) n 59 [.d (.agg [.int .i64 k,.str nm,.sl 5 (T.ds kids),.sl 1 (nms.map .str),.int .i64 pl])] []=bif decide (k=(1:Int)) then zc (zr (D.agg [D.int .i64 k,D.str nm,D.sl 5 (T.ds kids),D.sl 1 (List.map D.str nms),D.int .i64 pl])) λ b=>some (Out.ret (V.d (D.bool (zz b))),[]) else bif !decide (nm=[]) then some (Out.ret (V.d (D.bool false)),[]) else zc (zg2 (D.sl 1 (List.map D.str nms))) λ b=>bif !b.all z6 then some (Out.ret (V.d (D.bool false)),[]) else bif decide (k=(2:Int)) then bif decide (k=(2:Int)) then bif decide ((0:Int)<(↑(List.map D.str nms).length:Int)) then bif decide ((↑(T.ds kids).length:Int)=(1:Int)) then zb (decide ((0:Int)<(↑(T.ds kids).length:Int))) (za (T.ds kids) (0:Int).toNat λ y=>za y.cells 0 λ c=>za y.cells 1 λ c_1=>za y.cells 2 λ c_2=>za y.cells 3 λ c_3=>za y.cells 4 λ c_4=>zc (zi m (D.agg [c,c_1,c_2,c_3,c_4])) λ b=>some (Out.ret (V.d (D.bool (zg b))),[])) else some (Out.ret (V.d (D.bool false)),[]) else some (Out.ret (V.d (D.bool false)),[]) else bif decide (k=(4:Int)) then bif decide (k=(4:Int)) then bif decide ((↑(List.map D.str nms).length:Int)<(2:Int)) then bif decide ((↑(T.ds kids).length:Int)=(2:Int)) then zb (decide ((0:Int)<(↑(T.ds kids).length:Int))) (za (T.ds kids) (0:Int).toNat λ y=>za y.cells 0 λ c=>za y.cells 1 λ c_1=>za y.cells 2 λ c_2=>za y.cells 3 λ c_3=>za y.cells 4 λ c_4=>zc (zi m (D.agg [c,c_1,c_2,c_3,c_4])) λ b=>bif zg b then zb (decide ((1:Int)<(↑(T.ds kids).length:Int))) (za (T.ds kids) (1:Int).toNat λ y=>za y.cells 0 λ c=>za y.cells 1 λ c_5=>za y.cells 2 λ c_6=>za y.cells 3 λ c_7=>za y.cells 4 λ c_8=>zc (zi m (D.agg [c,c_5,c_6,c_7,c_8])) λ b=>some (Out.ret (V.d (D.bool (zg b))),[])) else some (Out.ret (V.d (D.bool false)),[])) else some (Out.ret (V.d (D.bool false)),[]) else some (Out.ret (V.d (D.bool false)),[]) else bif decide (k=(6:Int)) then bif decide (k=(6:Int)) then bif decide ((↑(List.map D.str nms).length:Int)=(0:Int)) then bif decide ((↑(T.ds kids).length:Int)=(2:Int)) then zb (decide ((0:Int)<(↑(T.ds kids).length:Int))) (za (T.ds kids) (0:Int).toNat λ y=>za y.cells 0 λ c=>za y.cells 1 λ c_1=>za y.cells 2 λ c_2=>za y.cells 3 λ c_3=>za y.cells 4 λ c_4=>zc (zi m (D.agg [c,c_1,c_2,c_3,c_4])) λ b=>bif zg b then zb (decide ((1:Int)<(↑(T.ds kids).length:Int))) (za (T.ds kids) (1:Int).toNat λ y=>za y.cells 0 λ c=>za y.cells 1 λ c_5=>za y.cells 2 λ c_6=>za y.cells 3 λ c_7=>za y.cells 4 λ c_8=>zc (zi m (D.agg [c,c_5,c_6,c_7,c_8])) λ b=>some (Out.ret (V.d (D.bool (zg b))),[])) else some (Out.ret (V.d (D.bool false)),[])) else some (Out.ret (V.d (D.bool false)),[]) else some (Out.ret (V.d (D.bool false)),[]) else bif decide (k=(7:Int)) then bif decide ((↑(List.map D.str nms).length:Int)=(0:Int)) then bif decide ((↑(T.ds kids).length:Int)=(2:Int)) then zb (decide ((0:Int)<(↑(T.ds kids).length:Int))) (za (T.ds kids) (0:Int).toNat λ y=>za y.cells 0 λ c=>za y.cells 1 λ c_1=>za y.cells 2 λ c_2=>za y.cells 3 λ c_3=>za y.cells 4 λ c_4=>zc (zi m (D.agg [c,c_1,c_2,c_3,c_4])) λ b=>bif zg b then zb (decide ((1:Int)<(↑(T.ds kids).length:Int))) (za (T.ds kids) (1:Int).toNat λ y=>za y.cells 0 λ c=>za y.cells 1 λ c_5=>za y.cells 2 λ c_6=>za y.cells 3 λ c_7=>za y.cells 4 λ c_8=>zc (zr (D.agg [c,c_5,c_6,c_7,c_8])) λ b=>some (Out.ret (V.d (D.bool (zz b))),[])) else some (Out.ret (V.d (D.bool false)),[])) else some (Out.ret (V.d (D.bool false)),[]) else some (Out.ret (V.d (D.bool false)),[]) else bif decide (k=(10:Int)) then LP cx (KQ m) n 59 0 22 n [(1,V.ptr 1 0),(3,V.d (D.int .i64 (↑(List.map D.str nms).length:Int))),(4,V.d (D.int .i64 (↑(T.ds kids).length:Int))),(5,V.d (D.int .i64 (0:Int)))] [(1,Ob.val 5 (V.d (D.agg [D.int .i64 k,D.str nm,D.sl 5 (T.ds kids),D.sl 1 (List.map D.str nms),D.int .i64 pl])))] (AK cx (KQ m) n 59 0 22 (EK cx 59 0)) else some (Out.ret (V.d (D.bool false)),[]) else bif decide (k=(8:Int)) then bif decide (k=(8:Int)) then bif decide ((↑(List.map D.str nms).length:Int)=(0:Int)) then bif decide ((↑(T.ds kids).length:Int)=(2:Int)) then zb (decide ((0:Int)<(↑(T.ds kids).length:Int))) (za (T.ds kids) (0:Int).toNat λ y=>za y.cells 0 λ c=>za y.cells 1 λ c_1=>za y.cells 2 λ c_2=>za y.cells 3 λ c_3=>za y.cells 4 λ c_4=>zc (zi m (D.agg [c,c_1,c_2,c_3,c_4])) λ b=>bif zg b then zb (decide ((1:Int)<(↑(T.ds kids).length:Int))) (za (T.ds kids) (1:Int).toNat λ y=>za y.cells 0 λ c=>za y.cells 1 λ c_5=>za y.cells 2 λ c_6=>za y.cells 3 λ c_7=>za y.cells 4 λ c_8=>zc (zi m (D.agg [c,c_5,c_6,c_7,c_8])) λ b=>some (Out.ret (V.d (D.bool (zg b))),[])) else some (Out.ret (V.d (D.bool false)),[])) else some (Out.ret (V.d (D.bool false)),[]) else some (Out.ret (V.d (D.bool false)),[]) else bif decide (k=(7:Int)) then bif decide ((↑(List.map D.str nms).length:Int)=(0:Int)) then bif decide ((↑(T.ds kids).length:Int)=(2:Int)) then zb (decide ((0:Int)<(↑(T.ds kids).length:Int))) (za (T.ds kids) (0:Int).toNat λ y=>za y.cells 0 λ c=>za y.cells 1 λ c_1=>za y.cells 2 λ c_2=>za y.cells 3 λ c_3=>za y.cells 4 λ c_4=>zc (zi m (D.agg [c,c_1,c_2,c_3,c_4])) λ b=>bif zg b then zb (decide ((1:Int)<(↑(T.ds kids).length:Int))) (za (T.ds kids) (1:Int).toNat λ y=>za y.cells 0 λ c=>za y.cells 1 λ c_5=>za y.cells 2 λ c_6=>za y.cells 3 λ c_7=>za y.cells 4 λ c_8=>zc (zr (D.agg [c,c_5,c_6,c_7,c_8])) λ b=>some (Out.ret (V.d (D.bool (zz b))),[])) else some (Out.ret (V.d (D.bool false)),[])) else some (Out.ret (V.d (D.bool false)),[]) else some (Out.ret (V.d (D.bool false)),[]) else bif decide (k=(10:Int)) then LP cx (KQ m) n 59 0 22 n [(1,V.ptr 1 0),(3,V.d (D.int .i64 (↑(List.map D.str nms).length:Int))),(4,V.d (D.int .i64 (↑(T.ds kids).length:Int))),(5,V.d (D.int .i64 (0:Int)))] [(1,Ob.val 5 (V.d (D.agg [D.int .i64 k,D.str nm,D.sl 5 (T.ds kids),D.sl 1 (List.map D.str nms),D.int .i64 pl])))] (AK cx (KQ m) n 59 0 22 (EK cx 59 0)) else some (Out.ret (V.d (D.bool false)),[]) else bif decide (k=(9:Int)) then bif decide ((↑(List.map D.str nms).length:Int)=(0:Int)) then bif decide ((↑(T.ds kids).length:Int)=(2:Int)) then zb (decide ((0:Int)<(↑(T.ds kids).length:Int))) (za (T.ds kids) (0:Int).toNat λ y=>za y.cells 0 λ c=>za y.cells 1 λ c_1=>za y.cells 2 λ c_2=>za y.cells 3 λ c_3=>za y.cells 4 λ c_4=>zc (zi m (D.agg [c,c_1,c_2,c_3,c_4])) λ b=>bif zg b then zb (decide ((1:Int)<(↑(T.ds kids).length:Int))) (za (T.ds kids) (1:Int).toNat λ y=>za y.cells 0 λ c=>za y.cells 1 λ c_5=>za y.cells 2 λ c_6=>za y.cells 3 λ c_7=>za y.cells 4 λ c_8=>zc (zi m (D.agg [c,c_5,c_6,c_7,c_8])) λ b=>some (Out.ret (V.d (D.bool (zg b))),[])) else some (Out.ret (V.d (D.bool false)),[])) else some (Out.ret (V.d (D.bool false)),[]) else some (Out.ret (V.d (D.bool false)),[]) else bif decide (k=(7:Int)) then bif decide ((↑(List.map D.str nms).length:Int)=(0:Int)) then bif decide ((↑(T.ds kids).length:Int)=(2:Int)) then zb (decide ((0:Int)<(↑(T.ds kids).length:Int))) (za (T.ds kids) (0:Int).toNat λ y=>za y.cells 0 λ c=>za y.cells 1 λ c_1=>za y.cells 2 λ c_2=>za y.cells 3 λ c_3=>za y.cells 4 λ c_4=>zc (zi m (D.agg [c,c_1,c_2,c_3,c_4])) λ b=>bif zg b then zb (decide ((1:Int)<(↑(T.ds kids).length:Int))) (za (T.ds kids) (1:Int).toNat λ y=>za y.cells 0 λ c=>za y.cells 1 λ c_5=>za y.cells 2 λ c_6=>za y.cells 3 λ c_7=>za y.cells 4 λ c_8=>zc (zr (D.agg [c,c_5,c_6,c_7,c_8])) λ b=>some (Out.ret (V.d (D.bool (zz b))),[])) else some (Out.ret (V.d (D.bool false)),[])) else some (Out.ret (V.d (D.bool false)),[]) else some (Out.ret (V.d (D.bool false)),[]) else bif decide (k=(10:Int)) then LP cx (KQ m) n 59 0 22 n [(1,V.ptr 1 0),(3,V.d (D.int .i64 (↑(List.map D.str nms).length:Int))),(4,V.d (D.int .i64 (↑(T.ds kids).length:Int))),(5,V.d (D.int .i64 (0:Int)))] [(1,Ob.val 5 (V.d (D.agg [D.int .i64 k,D.str nm,D.sl 5 (T.ds kids),D.sl 1 (List.map D.str nms),D.int .i64 pl])))] (AK cx (KQ m) n 59 0 22 (EK cx 59 0)) else some (Out.ret (V.d (D.bool false)),[]) else bif decide (k=(5:Int)) then bif decide ((↑(List.map D.str nms).length:Int)<(2:Int)) then bif decide ((↑(T.ds kids).length:Int)=(2:Int)) then zb (decide ((0:Int)<(↑(T.ds kids).length:Int))) (za (T.ds kids) (0:Int).toNat λ y=>za y.cells 0 λ c=>za y.cells 1 λ c_1=>za y.cells 2 λ c_2=>za y.cells 3 λ c_3=>za y.cells 4 λ c_4=>zc (zi m (D.agg [c,c_1,c_2,c_3,c_4])) λ b=>bif zg b then zb (decide ((1:Int)<(↑(T.ds kids).length:Int))) (za (T.ds kids) (1:Int).toNat λ y=>za y.cells 0 λ c=>za y.cells 1 λ c_5=>za y.cells 2 λ c_6=>za y.cells 3 λ c_7=>za y.cells 4 λ c_8=>zc (zi m (D.agg [c,c_5,c_6,c_7,c_8])) λ b=>some (Out.ret (V.d (D.bool (zg b))),[])) else some (Out.ret (V.d (D.bool false)),[])) else some (Out.ret (V.d (D.bool false)),[]) else some (Out.ret (V.d (D.bool false)),[]) else bif decide (k=(6:Int)) then bif decide (k=(6:Int)) then bif decide ((↑(List.map D.str nms).length:Int)=(0:Int)) then bif decide ((↑(T.ds kids).length:Int)=(2:Int)) then zb (decide ((0:Int)<(↑(T.ds kids).length:Int))) (za (T.ds kids) (0:Int).toNat λ y=>za y.cells 0 λ c=>za y.cells 1 λ c_1=>za y.cells 2 λ c_2=>za y.cells 3 λ c_3=>za y.cells 4 λ c_4=>zc (zi m (D.agg [c,c_1,c_2,c_3,c_4])) λ b=>bif zg b then zb (decide ((1:Int)<(↑(T.ds kids).length:Int))) (za (T.ds kids) (1:Int).toNat λ y=>za y.cells 0 λ c=>za y.cells 1 λ c_5=>za y.cells 2 λ c_6=>za y.cells 3 λ c_7=>za y.cells 4 λ c_8=>zc (zi m (D.agg [c,c_5,c_6,c_7,c_8])) λ b=>some (Out.ret (V.d (D.bool (zg b))),[])) else some (Out.ret (V.d (D.bool false)),[])) else some (Out.ret (V.d (D.bool false)),[]) else some (Out.ret (V.d (D.bool false)),[]) else bif decide (k=(7:Int)) then bif decide ((↑(List.map D.str nms).length:Int)=(0:Int)) then bif decide ((↑(T.ds kids).length:Int)=(2:Int)) then zb (decide ((0:Int)<(↑(T.ds kids).length:Int))) (za (T.ds kids) (0:Int).toNat λ y=>za y.cells 0 λ c=>za y.cells 1 λ c_1=>za y.cells 2 λ c_2=>za y.cells 3 λ c_3=>za y.cells 4 λ c_4=>zc (zi m (D.agg [c,c_1,c_2,c_3,c_4])) λ b=>bif zg b then zb (decide ((1:Int)<(↑(T.ds kids).length:Int))) (za (T.ds kids) (1:Int).toNat λ y=>za y.cells 0 λ c=>za y.cells 1 λ c_5=>za y.cells 2 λ c_6=>za y.cells 3 λ c_7=>za y.cells 4 λ c_8=>zc (zr (D.agg [c,c_5,c_6,c_7,c_8])) λ b=>some (Out.ret (V.d (D.bool (zz b))),[])) else some (Out.ret (V.d (D.bool false)),[])) else some (Out.ret (V.d (D.bool false)),[]) else some (Out.ret (V.d (D.bool false)),[]) else bif decide (k=(10:Int)) then LP cx (KQ m) n 59 0 22 n [(1,V.ptr 1 0),(3,V.d (D.int .i64 (↑(List.map D.str nms).length:Int))),(4,V.d (D.int .i64 (↑(T.ds kids).length:Int))),(5,V.d (D.int .i64 (0:Int)))] [(1,Ob.val 5 (V.d (D.agg [D.int .i64 k,D.str nm,D.sl 5 (T.ds kids),D.sl 1 (List.map D.str nms),D.int .i64 pl])))] (AK cx (KQ m) n 59 0 22 (EK cx 59 0)) else some (Out.ret (V.d (D.bool false)),[]) else bif decide (k=(8:Int)) then bif decide (k=(8:Int)) then bif decide ((↑(List.map D.str nms).length:Int)=(0:Int)) then bif decide ((↑(T.ds kids).length:Int)=(2:Int)) then zb (decide ((0:Int)<(↑(T.ds kids).length:Int))) (za (T.ds kids) (0:Int).toNat λ y=>za y.cells 0 λ c=>za y.cells 1 λ c_1=>za y.cells 2 λ c_2=>za y.cells 3 λ c_3=>za y.cells 4 λ c_4=>zc (zi m (D.agg [c,c_1,c_2,c_3,c_4])) λ b=>bif zg b then zb (decide ((1:Int)<(↑(T.ds kids).length:Int))) (za (T.ds kids) (1:Int).toNat λ y=>za y.cells 0 λ c=>za y.cells 1 λ c_5=>za y.cells 2 λ c_6=>za y.cells 3 λ c_7=>za y.cells 4 λ c_8=>zc (zi m (D.agg [c,c_5,c_6,c_7,c_8])) λ b=>some (Out.ret (V.d (D.bool (zg b))),[])) else some (Out.ret (V.d (D.bool false)),[])) else some (Out.ret (V.d (D.bool false)),[]) else some (Out.ret (V.d (D.bool false)),[]) else bif decide (k=(7:Int)) then bif decide ((↑(List.map D.str nms).length:Int)=(0:Int)) then bif decide ((↑(T.ds kids).length:Int)=(2:Int)) then zb (decide ((0:Int)<(↑(T.ds kids).length:Int))) (za (T.ds kids) (0:Int).toNat λ y=>za y.cells 0 λ c=>za y.cells 1 λ c_1=>za y.cells 2 λ c_2=>za y.cells 3 λ c_3=>za y.cells 4 λ c_4=>zc (zi m (D.agg [c,c_1,c_2,c_3,c_4])) λ b=>bif zg b then zb (decide ((1:Int)<(↑(T.ds kids).length:Int))) (za (T.ds kids) (1:Int).toNat λ y=>za y.cells 0 λ c=>za y.cells 1 λ c_5=>za y.cells 2 λ c_6=>za y.cells 3 λ c_7=>za y.cells 4 λ c_8=>zc (zr (D.agg [c,c_5,c_6,c_7,c_8])) λ b=>some (Out.ret (V.d (D.bool (zz b))),[])) else some (Out.ret (V.d (D.bool false)),[])) else some (Out.ret (V.d (D.bool false)),[]) else some (Out.ret (V.d (D.bool false)),[]) else bif decide (k=(10:Int)) then LP cx (KQ m) n 59 0 22 n [(1,V.ptr 1 0),(3,V.d (D.int .i64 (↑(List.map D.str nms).length:Int))),(4,V.d (D.int .i64 (↑(T.ds kids).length:Int))),(5,V.d (D.int .i64 (0:Int)))] [(1,Ob.val 5 (V.d (D.agg [D.int .i64 k,D.str nm,D.sl 5 (T.ds kids),D.sl 1 (List.map D.str nms),D.int .i64 pl])))] (AK cx (KQ m) n 59 0 22 (EK cx 59 0)) else some (Out.ret (V.d (D.bool false)),[]) else bif decide (k=(9:Int)) then bif decide ((↑(List.map D.str nms).length:Int)=(0:Int)) then bif decide ((↑(T.ds kids).length:Int)=(2:Int)) then zb (decide ((0:Int)<(↑(T.ds kids).length:Int))) (za (T.ds kids) (0:Int).toNat λ y=>za y.cells 0 λ c=>za y.cells 1 λ c_1=>za y.cells 2 λ c_2=>za y.cells 3 λ c_3=>za y.cells 4 λ c_4=>zc (zi m (D.agg [c,c_1,c_2,c_3,c_4])) λ b=>bif zg b then zb (decide ((1:Int)<(↑(T.ds kids).length:Int))) (za (T.ds kids) (1:Int).toNat λ y=>za y.cells 0 λ c=>za y.cells 1 λ c_5=>za y.cells 2 λ c_6=>za y.cells 3 λ c_7=>za y.cells 4 λ c_8=>zc (zi m (D.agg [c,c_5,c_6,c_7,c_8])) λ b=>some (Out.ret (V.d (D.bool (zg b))),[])) else some (Out.ret (V.d (D.bool false)),[])) else some (Out.ret (V.d (D.bool false)),[]) else some (Out.ret (V.d (D.bool false)),[]) else bif decide (k=(7:Int)) then bif decide ((↑(List.map D.str nms).length:Int)=(0:Int)) then bif decide ((↑(T.ds kids).length:Int)=(2:Int)) then zb (decide ((0:Int)<(↑(T.ds kids).length:Int))) (za (T.ds kids) (0:Int).toNat λ y=>za y.cells 0 λ c=>za y.cells 1 λ c_1=>za y.cells 2 λ c_2=>za y.cells 3 λ c_3=>za y.cells 4 λ c_4=>zc (zi m (D.agg [c,c_1,c_2,c_3,c_4])) λ b=>bif zg b then zb (decide ((1:Int)<(↑(T.ds kids).length:Int))) (za (T.ds kids) (1:Int).toNat λ y=>za y.cells 0 λ c=>za y.cells 1 λ c_5=>za y.cells 2 λ c_6=>za y.cells 3 λ c_7=>za y.cells 4 λ c_8=>zc (zr (D.agg [c,c_5,c_6,c_7,c_8])) λ b=>some (Out.ret (V.d (D.bool (zz b))),[])) else some (Out.ret (V.d (D.bool false)),[])) else some (Out.ret (V.d (D.bool false)),[]) else some (Out.ret (V.d (D.bool false)),[]) else bif decide (k=(10:Int)) then LP cx (KQ m) n 59 0 22 n [(1,V.ptr 1 0),(3,V.d (D.int .i64 (↑(List.map D.str nms).length:Int))),(4,V.d (D.int .i64 (↑(T.ds kids).length:Int))),(5,V.d (D.int .i64 (0:Int)))] [(1,Ob.val 5 (V.d (D.agg [D.int .i64 k,D.str nm,D.sl 5 (T.ds kids),D.sl 1 (List.map D.str nms),D.int .i64 pl])))] (AK cx (KQ m) n 59 0 22 (EK cx 59 0)) else some (Out.ret (V.d (D.bool false)),[]) else bif decide (k=(3:Int)) then bif decide ((0:Int)<(↑(List.map D.str nms).length:Int)) then bif decide ((↑(T.ds kids).length:Int)=(1:Int)) then zb (decide ((0:Int)<(↑(T.ds kids).length:Int))) (za (T.ds kids) (0:Int).toNat λ y=>za y.cells 0 λ c=>za y.cells 1 λ c_1=>za y.cells 2 λ c_2=>za y.cells 3 λ c_3=>za y.cells 4 λ c_4=>zc (zi m (D.agg [c,c_1,c_2,c_3,c_4])) λ b=>some (Out.ret (V.d (D.bool (zg b))),[])) else some (Out.ret (V.d (D.bool false)),[]) else some (Out.ret (V.d (D.bool false)),[]) else bif decide (k=(4:Int)) then bif decide (k=(4:Int)) then bif decide ((↑(List.map D.str nms).length:Int)<(2:Int)) then bif decide ((↑(T.ds kids).length:Int)=(2:Int)) then zb (decide ((0:Int)<(↑(T.ds kids).length:Int))) (za (T.ds kids) (0:Int).toNat λ y=>za y.cells 0 λ c=>za y.cells 1 λ c_1=>za y.cells 2 λ c_2=>za y.cells 3 λ c_3=>za y.cells 4 λ c_4=>zc (zi m (D.agg [c,c_1,c_2,c_3,c_4])) λ b=>bif zg b then zb (decide ((1:Int)<(↑(T.ds kids).length:Int))) (za (T.ds kids) (1:Int).toNat λ y=>za y.cells 0 λ c=>za y.cells 1 λ c_5=>za y.cells 2 λ c_6=>za y.cells 3 λ c_7=>za y.cells 4 λ c_8=>zc (zi m (D.agg [c,c_5,c_6,c_7,c_8])) λ b=>some (Out.ret (V.d (D.bool (zg b))),[])) else some (Out.ret (V.d (D.bool false)),[])) else some (Out.ret (V.d (D.bool false)),[]) else some (Out.ret (V.d (D.bool false)),[]) else bif decide (k=(6:Int)) then bif decide (k=(6:Int)) then bif decide ((↑(List.map D.str nms).length:Int)=(0:Int)) then bif decide ((↑(T.ds kids).length:Int)=(2:Int)) then zb (decide ((0:Int)<(↑(T.ds kids).length:Int))) (za (T.ds kids) (0:Int).toNat λ y=>za y.cells 0 λ c=>za y.cells 1 λ c_1=>za y.cells 2 λ c_2=>za y.cells 3 λ c_3=>za y.cells 4 λ c_4=>zc (zi m (D.agg [c,c_1,c_2,c_3,c_4])) λ b=>bif zg b then zb (decide ((1:Int)<(↑(T.ds kids).length:Int))) (za (T.ds kids) (1:Int).toNat λ y=>za y.cells 0 λ c=>za y.cells 1 λ c_5=>za y.cells 2 λ c_6=>za y.cells 3 λ c_7=>za y.cells 4 λ c_8=>zc (zi m (D.agg [c,c_5,c_6,c_7,c_8])) λ b=>some (Out.ret (V.d (D.bool (zg b))),[])) else some (Out.ret (V.d (D.bool false)),[])) else some (Out.ret (V.d (D.bool false)),[]) else some (Out.ret (V.d (D.bool false)),[]) else bif decide (k=(7:Int)) then bif decide ((↑(List.map D.str nms).length:Int)=(0:Int)) then bif decide ((↑(T.ds kids).length:Int)=(2:Int)) then zb (decide ((0:Int)<(↑(T.ds kids).length:Int))) (za (T.ds kids) (0:Int).toNat λ y=>za y.cells 0 λ c=>za y.cells 1 λ c_1=>za y.cells 2 λ c_2=>za y.cells 3 λ c_3=>za y.cells 4 λ c_4=>zc (zi m (D.agg [c,c_1,c_2,c_3,c_4])) λ b=>bif zg b then zb (decide ((1:Int)<(↑(T.ds kids).length:Int))) (za (T.ds kids) (1:Int).toNat λ y=>za y.cells 0 λ c=>za y.cells 1 λ c_5=>za y.cells 2 λ c_6=>za y.cells 3 λ c_7=>za y.cells 4 λ c_8=>zc (zr (D.agg [c,c_5,c_6,c_7,c_8])) λ b=>some (Out.ret (V.d (D.bool (zz b))),[])) else some (Out.ret (V.d (D.bool false)),[])) else some (Out.ret (V.d (D.bool false)),[]) else some (Out.ret (V.d (D.bool false)),[]) else bif decide (k=(10:Int)) then LP cx (KQ m) n 59 0 22 n [(1,V.ptr 1 0),(3,V.d (D.int .i64 (↑(List.map D.str nms).length:Int))),(4,V.d (D.int .i64 (↑(T.ds kids).length:Int))),(5,V.d (D.int .i64 (0:Int)))] [(1,Ob.val 5 (V.d (D.agg [D.int .i64 k,D.str nm,D.sl 5 (T.ds kids),D.sl 1 (List.map D.str nms),D.int .i64 pl])))] (AK cx (KQ m) n 59 0 22 (EK cx 59 0)) else some (Out.ret (V.d (D.bool false)),[]) else bif decide (k=(8:Int)) then bif decide (k=(8:Int)) then bif decide ((↑(List.map D.str nms).length:Int)=(0:Int)) then bif decide ((↑(T.ds kids).length:Int)=(2:Int)) then zb (decide ((0:Int)<(↑(T.ds kids).length:Int))) (za (T.ds kids) (0:Int).toNat λ y=>za y.cells 0 λ c=>za y.cells 1 λ c_1=>za y.cells 2 λ c_2=>za y.cells 3 λ c_3=>za y.cells 4 λ c_4=>zc (zi m (D.agg [c,c_1,c_2,c_3,c_4])) λ b=>bif zg b then zb (decide ((1:Int)<(↑(T.ds kids).length:Int))) (za (T.ds kids) (1:Int).toNat λ y=>za y.cells 0 λ c=>za y.cells 1 λ c_5=>za y.cells 2 λ c_6=>za y.cells 3 λ c_7=>za y.cells 4 λ c_8=>zc (zi m (D.agg [c,c_5,c_6,c_7,c_8])) λ b=>some (Out.ret (V.d (D.bool (zg b))),[])) else some (Out.ret (V.d (D.bool false)),[])) else some (Out.ret (V.d (D.bool false)),[]) else some (Out.ret (V.d (D.bool false)),[]) else bif decide (k=(7:Int)) then bif decide ((↑(List.map D.str nms).length:Int)=(0:Int)) then bif decide ((↑(T.ds kids).length:Int)=(2:Int)) then zb (decide ((0:Int)<(↑(T.ds kids).length:Int))) (za (T.ds kids) (0:Int).toNat λ y=>za y.cells 0 λ c=>za y.cells 1 λ c_1=>za y.cells 2 λ c_2=>za y.cells 3 λ c_3=>za y.cells 4 λ c_4=>zc (zi m (D.agg [c,c_1,c_2,c_3,c_4])) λ b=>bif zg b then zb (decide ((1:Int)<(↑(T.ds kids).length:Int))) (za (T.ds kids) (1:Int).toNat λ y=>za y.cells 0 λ c=>za y.cells 1 λ c_5=>za y.cells 2 λ c_6=>za y.cells 3 λ c_7=>za y.cells 4 λ c_8=>zc (zr (D.agg [c,c_5,c_6,c_7,c_8])) λ b=>some (Out.ret (V.d (D.bool (zz b))),[])) else some (Out.ret (V.d (D.bool false)),[])) else some (Out.ret (V.d (D.bool false)),[]) else some (Out.ret (V.d (D.bool false)),[]) else bif decide (k=(10:Int)) then LP cx (KQ m) n 59 0 22 n [(1,V.ptr 1 0),(3,V.d (D.int .i64 (↑(List.map D.str nms).length:Int))),(4,V.d (D.int .i64 (↑(T.ds kids).length:Int))),(5,V.d (D.int .i64 (0:Int)))] [(1,Ob.val 5 (V.d (D.agg [D.int .i64 k,D.str nm,D.sl 5 (T.ds kids),D.sl 1 (List.map D.str nms),D.int .i64 pl])))] (AK cx (KQ m) n 59 0 22 (EK cx 59 0)) else some (Out.ret (V.d (D.bool false)),[]) else bif decide (k=(9:Int)) then bif decide ((↑(List.map D.str nms).length:Int)=(0:Int)) then bif decide ((↑(T.ds kids).length:Int)=(2:Int)) then zb (decide ((0:Int)<(↑(T.ds kids).length:Int))) (za (T.ds kids) (0:Int).toNat λ y=>za y.cells 0 λ c=>za y.cells 1 λ c_1=>za y.cells 2 λ c_2=>za y.cells 3 λ c_3=>za y.cells 4 λ c_4=>zc (zi m (D.agg [c,c_1,c_2,c_3,c_4])) λ b=>bif zg b then zb (decide ((1:Int)<(↑(T.ds kids).length:Int))) (za (T.ds kids) (1:Int).toNat λ y=>za y.cells 0 λ c=>za y.cells 1 λ c_5=>za y.cells 2 λ c_6=>za y.cells 3 λ c_7=>za y.cells 4 λ c_8=>zc (zi m (D.agg [c,c_5,c_6,c_7,c_8])) λ b=>some (Out.ret (V.d (D.bool (zg b))),[])) else some (Out.ret (V.d (D.bool false)),[])) else some (Out.ret (V.d (D.bool false)),[]) else some (Out.ret (V.d (D.bool false)),[]) else bif decide (k=(7:Int)) then bif decide ((↑(List.map D.str nms).length:Int)=(0:Int)) then bif decide ((↑(T.ds kids).length:Int)=(2:Int)) then zb (decide ((0:Int)<(↑(T.ds kids).length:Int))) (za (T.ds kids) (0:Int).toNat λ y=>za y.cells 0 λ c=>za y.cells 1 λ c_1=>za y.cells 2 λ c_2=>za y.cells 3 λ c_3=>za y.cells 4 λ c_4=>zc (zi m (D.agg [c,c_1,c_2,c_3,c_4])) λ b=>bif zg b then zb (decide ((1:Int)<(↑(T.ds kids).length:Int))) (za (T.ds kids) (1:Int).toNat λ y=>za y.cells 0 λ c=>za y.cells 1 λ c_5=>za y.cells 2 λ c_6=>za y.cells 3 λ c_7=>za y.cells 4 λ c_8=>zc (zr (D.agg [c,c_5,c_6,c_7,c_8])) λ b=>some (Out.ret (V.d (D.bool (zz b))),[])) else some (Out.ret (V.d (D.bool false)),[])) else some (Out.ret (V.d (D.bool false)),[]) else some (Out.ret (V.d (D.bool false)),[]) else bif decide (k=(10:Int)) then LP cx (KQ m) n 59 0 22 n [(1,V.ptr 1 0),(3,V.d (D.int .i64 (↑(List.map D.str nms).length:Int))),(4,V.d (D.int .i64 (↑(T.ds kids).length:Int))),(5,V.d (D.int .i64 (0:Int)))] [(1,Ob.val 5 (V.d (D.agg [D.int .i64 k,D.str nm,D.sl 5 (T.ds kids),D.sl 1 (List.map D.str nms),D.int .i64 pl])))] (AK cx (KQ m) n 59 0 22 (EK cx 59 0)) else some (Out.ret (V.d (D.bool false)),[]) else bif decide (k=(5:Int)) then bif decide ((↑(List.map D.str nms).length:Int)<(2:Int)) then bif decide ((↑(T.ds kids).length:Int)=(2:Int)) then zb (decide ((0:Int)<(↑(T.ds kids).length:Int))) (za (T.ds kids) (0:Int).toNat λ y=>za y.cells 0 λ c=>za y.cells 1 λ c_1=>za y.cells 2 λ c_2=>za y.cells 3 λ c_3=>za y.cells 4 λ c_4=>zc (zi m (D.agg [c,c_1,c_2,c_3,c_4])) λ b=>bif zg b then zb (decide ((1:Int)<(↑(T.ds kids).length:Int))) (za (T.ds kids) (1:Int).toNat λ y=>za y.cells 0 λ c=>za y.cells 1 λ c_5=>za y.cells 2 λ c_6=>za y.cells 3 λ c_7=>za y.cells 4 λ c_8=>zc (zi m (D.agg [c,c_5,c_6,c_7,c_8])) λ b=>some (Out.ret (V.d (D.bool (zg b))),[])) else some (Out.ret (V.d (D.bool false)),[])) else some (Out.ret (V.d (D.bool false)),[]) else some (Out.ret (V.d (D.bool false)),[]) else bif decide (k=(6:Int)) then bif decide (k=(6:Int)) then bif decide ((↑(List.map D.str nms).length:Int)=(0:Int)) then bif decide ((↑(T.ds kids).length:Int)=(2:Int)) then zb (decide ((0:Int)<(↑(T.ds kids).length:Int))) (za (T.ds kids) (0:Int).toNat λ y=>za y.cells 0 λ c=>za y.cells 1 λ c_1=>za y.cells 2 λ c_2=>za y.cells 3 λ c_3=>za y.cells 4 λ c_4=>zc (zi m (D.agg [c,c_1,c_2,c_3,c_4])) λ b=>bif zg b then zb (decide ((1:Int)<(↑(T.ds kids).length:Int))) (za (T.ds kids) (1:Int).toNat λ y=>za y.cells 0 λ c=>za y.cells 1 λ c_5=>za y.cells 2 λ c_6=>za y.cells 3 λ c_7=>za y.cells 4 λ c_8=>zc (zi m (D.agg [c,c_5,c_6,c_7,c_8])) λ b=>some (Out.ret (V.d (D.bool (zg b))),[])) else some (Out.ret (V.d (D.bool false)),[])) else some (Out.ret (V.d (D.bool false)),[]) else some (Out.ret (V.d (D.bool false)),[]) else bif decide (k=(7:Int)) then bif decide ((↑(List.map D.str nms).length:Int)=(0:Int)) then bif decide ((↑(T.ds kids).length:Int)=(2:Int)) then zb (decide ((0:Int)<(↑(T.ds kids).length:Int))) (za (T.ds kids) (0:Int).toNat λ y=>za y.cells 0 λ c=>za y.cells 1 λ c_1=>za y.cells 2 λ c_2=>za y.cells 3 λ c_3=>za y.cells 4 λ c_4=>zc (zi m (D.agg [c,c_1,c_2,c_3,c_4])) λ b=>bif zg b then zb (decide ((1:Int)<(↑(T.ds kids).length:Int))) (za (T.ds kids) (1:Int).toNat λ y=>za y.cells 0 λ c=>za y.cells 1 λ c_5=>za y.cells 2 λ c_6=>za y.cells 3 λ c_7=>za y.cells 4 λ c_8=>zc (zr (D.agg [c,c_5,c_6,c_7,c_8])) λ b=>some (Out.ret (V.d (D.bool (zz b))),[])) else some (Out.ret (V.d (D.bool false)),[])) else some (Out.ret (V.d (D.bool false)),[]) else some (Out.ret (V.d (D.bool false)),[]) else bif decide (k=(10:Int)) then LP cx (KQ m) n 59 0 22 n [(1,V.ptr 1 0),(3,V.d (D.int .i64 (↑(List.map D.str nms).length:Int))),(4,V.d (D.int .i64 (↑(T.ds kids).length:Int))),(5,V.d (D.int .i64 (0:Int)))] [(1,Ob.val 5 (V.d (D.agg [D.int .i64 k,D.str nm,D.sl 5 (T.ds kids),D.sl 1 (List.map D.str nms),D.int .i64 pl])))] (AK cx (KQ m) n 59 0 22 (EK cx 59 0)) else some (Out.ret (V.d (D.bool false)),[]) else bif decide (k=(8:Int)) then bif decide (k=(8:Int)) then bif decide ((↑(List.map D.str nms).length:Int)=(0:Int)) then bif decide ((↑(T.ds kids).length:Int)=(2:Int)) then zb (decide ((0:Int)<(↑(T.ds kids).length:Int))) (za (T.ds kids) (0:Int).toNat λ y=>za y.cells 0 λ c=>za y.cells 1 λ c_1=>za y.cells 2 λ c_2=>za y.cells 3 λ c_3=>za y.cells 4 λ c_4=>zc (zi m (D.agg [c,c_1,c_2,c_3,c_4])) λ b=>bif zg b then zb (decide ((1:Int)<(↑(T.ds kids).length:Int))) (za (T.ds kids) (1:Int).toNat λ y=>za y.cells 0 λ c=>za y.cells 1 λ c_5=>za y.cells 2 λ c_6=>za y.cells 3 λ c_7=>za y.cells 4 λ c_8=>zc (zi m (D.agg [c,c_5,c_6,c_7,c_8])) λ b=>some (Out.ret (V.d (D.bool (zg b))),[])) else some (Out.ret (V.d (D.bool false)),[])) else some (Out.ret (V.d (D.bool false)),[]) else some (Out.ret (V.d (D.bool false)),[]) else bif decide (k=(7:Int)) then bif decide ((↑(List.map D.str nms).length:Int)=(0:Int)) then bif decide ((↑(T.ds kids).length:Int)=(2:Int)) then zb (decide ((0:Int)<(↑(T.ds kids).length:Int))) (za (T.ds kids) (0:Int).toNat λ y=>za y.cells 0 λ c=>za y.cells 1 λ c_1=>za y.cells 2 λ c_2=>za y.cells 3 λ c_3=>za y.cells 4 λ c_4=>zc (zi m (D.agg [c,c_1,c_2,c_3,c_4])) λ b=>bif zg b then zb (decide ((1:Int)<(↑(T.ds kids).length:Int))) (za (T.ds kids) (1:Int).toNat λ y=>za y.cells 0 λ c=>za y.cells 1 λ c_5=>za y.cells 2 λ c_6=>za y.cells 3 λ c_7=>za y.cells 4 λ c_8=>zc (zr (D.agg [c,c_5,c_6,c_7,c_8])) λ b=>some (Out.ret (V.d (D.bool (zz b))),[])) else some (Out.ret (V.d (D.bool false)),[])) else some (Out.ret (V.d (D.bool false)),[]) else some (Out.ret (V.d (D.bool false)),[]) else bif decide (k=(10:Int)) then LP cx (KQ m) n 59 0 22 n [(1,V.ptr 1 0),(3,V.d (D.int .i64 (↑(List.map D.str nms).length:Int))),(4,V.d (D.int .i64 (↑(T.ds kids).length:Int))),(5,V.d (D.int .i64 (0:Int)))] [(1,Ob.val 5 (V.d (D.agg [D.int .i64 k,D.str nm,D.sl 5 (T.ds kids),D.sl 1 (List.map D.str nms),D.int .i64 pl])))] (AK cx (KQ m) n 59 0 22 (EK cx 59 0)) else some (Out.ret (V.d (D.bool false)),[]) else bif decide (k=(9:Int)) then bif decide ((↑(List.map D.str nms).length:Int)=(0:Int)) then bif decide ((↑(T.ds kids).length:Int)=(2:Int)) then zb (decide ((0:Int)<(↑(T.ds kids).length:Int))) (za (T.ds kids) (0:Int).toNat λ y=>za y.cells 0 λ c=>za y.cells 1 λ c_1=>za y.cells 2 λ c_2=>za y.cells 3 λ c_3=>za y.cells 4 λ c_4=>zc (zi m (D.agg [c,c_1,c_2,c_3,c_4])) λ b=>bif zg b then zb (decide ((1:Int)<(↑(T.ds kids).length:Int))) (za (T.ds kids) (1:Int).toNat λ y=>za y.cells 0 λ c=>za y.cells 1 λ c_5=>za y.cells 2 λ c_6=>za y.cells 3 λ c_7=>za y.cells 4 λ c_8=>zc (zi m (D.agg [c,c_5,c_6,c_7,c_8])) λ b=>some (Out.ret (V.d (D.bool (zg b))),[])) else some (Out.ret (V.d (D.bool false)),[])) else some (Out.ret (V.d (D.bool false)),[]) else some (Out.ret (V.d (D.bool false)),[]) else bif decide (k=(7:Int)) then bif decide ((↑(List.map D.str nms).length:Int)=(0:Int)) then bif decide ((↑(T.ds kids).length:Int)=(2:Int)) then zb (decide ((0:Int)<(↑(T.ds kids).length:Int))) (za (T.ds kids) (0:Int).toNat λ y=>za y.cells 0 λ c=>za y.cells 1 λ c_1=>za y.cells 2 λ c_2=>za y.cells 3 λ c_3=>za y.cells 4 λ c_4=>zc (zi m (D.agg [c,c_1,c_2,c_3,c_4])) λ b=>bif zg b then zb (decide ((1:Int)<(↑(T.ds kids).length:Int))) (za (T.ds kids) (1:Int).toNat λ y=>za y.cells 0 λ c=>za y.cells 1 λ c_5=>za y.cells 2 λ c_6=>za y.cells 3 λ c_7=>za y.cells 4 λ c_8=>zc (zr (D.agg [c,c_5,c_6,c_7,c_8])) λ b=>some (Out.ret (V.d (D.bool (zz b))),[])) else some (Out.ret (V.d (D.bool false)),[])) else some (Out.ret (V.d (D.bool false)),[]) else some (Out.ret (V.d (D.bool false)),[]) else bif decide (k=(10:Int)) then LP cx (KQ m) n 59 0 22 n [(1,V.ptr 1 0),(3,V.d (D.int .i64 (↑(List.map D.str nms).length:Int))),(4,V.d (D.int .i64 (↑(T.ds kids).length:Int))),(5,V.d (D.int .i64 (0:Int)))] [(1,Ob.val 5 (V.d (D.agg [D.int .i64 k,D.str nm,D.sl 5 (T.ds kids),D.sl 1 (List.map D.str nms),D.int .i64 pl])))] (AK cx (KQ m) n 59 0 22 (EK cx 59 0)) else some (Out.ret (V.d (D.bool false)),[]):=by kernel_rfl
theorem l42(n m r:Nat)(k a:Int)(nm:List UInt8)(kids:List T)(nms:List (List UInt8))(pl i:Int):LP cx (KQ m) n 59 0 22 (r+1) [(1,V.ptr 1 0),(3,V.d (D.int .i64 a)),(4,V.d (D.int .i64 (kids.length:Int))),(5,V.d (D.int .i64 i))] [(1,Ob.val 5 (V.d (D.agg [D.int .i64 k,D.str nm,D.sl 5 (T.ds kids),D.sl 1 (List.map D.str nms),D.int .i64 pl])))] (AK cx (KQ m) n 59 0 22 (EK cx 59 0))=bif decide (i<(↑kids.length:Int)) then zb (decide (0≤i)&&decide (i<(↑(T.ds kids).length:Int))) (za (T.ds kids) i.toNat λ y=>za y.cells 0 λ c=>za y.cells 1 λ c_1=>za y.cells 2 λ c_2=>za y.cells 3 λ c_3=>za y.cells 4 λ c_4=>match c with
 | D.int k' n_1=>bif decide (k'=IntKind.i64) then bif !decide (n_1=(11:Int)) then some (Out.ret (V.d (D.bool false)),[]) else match c_1 with
  | D.str s=>bif !decide (s=[]) then some (Out.ret (V.d (D.bool false)),[]) else match c_3 with
   | D.sl s l=>bif s.beq (cx.P.cellsOf 9)||l.isEmpty then bif decide ((0:Int)<(↑l.length:Int)) then some (Out.ret (V.d (D.bool false)),[]) else match c_2 with
    | D.sl s l=>bif s.beq (cx.P.cellsOf 26)||l.isEmpty then bif decide ((↑l.length:Int)<(1:Int)) then some (Out.ret (V.d (D.bool false)),[]) else match c_2 with
     | D.sl s l=>bif s.beq (cx.P.cellsOf 26)||l.isEmpty then bif decide ((2:Int)<(↑l.length:Int)) then some (Out.ret (V.d (D.bool false)),[]) else match c_2 with
      | D.sl s l=>bif s.beq (cx.P.cellsOf 26)||l.isEmpty then zb (decide ((0:Int)<(↑l.length:Int))) (za l (0:Int).toNat λ y=>za y.cells 0 λ c=>za y.cells 1 λ c_5=>za y.cells 2 λ c_6=>za y.cells 3 λ c_7=>za y.cells 4 λ c_8=>zc (zr (D.agg [c,c_5,c_6,c_7,c_8])) λ b=>bif !zao b then some (Out.ret (V.d (D.bool false)),[]) else match c_2 with
       | D.sl s l=>bif s.beq (cx.P.cellsOf 26)||l.isEmpty then bif decide ((↑l.length:Int)=(2:Int)) then match c_2 with
        | D.sl s l=>bif s.beq (cx.P.cellsOf 26)||l.isEmpty then zb (decide ((1:Int)<(↑l.length:Int))) (za l (1:Int).toNat λ y=>za y.cells 0 λ c=>za y.cells 1 λ c_9=>za y.cells 2 λ c_10=>za y.cells 3 λ c_11=>za y.cells 4 λ c_12=>zc (zi m (D.agg [c,c_9,c_10,c_11,c_12])) λ b=>bif !zg b then some (Out.ret (V.d (D.bool false)),[]) else LP cx (KQ m) n 59 0 22 r [(1,V.ptr 1 0),(3,V.d (D.int .i64 a)),(4,V.d (D.int .i64 (↑kids.length:Int))),(5,V.d (D.int .i64 (IntKind.i64.wrap (i+Int.ofNat 1))))] [(1,Ob.val 5 (V.d (D.agg [D.int .i64 k,D.str nm,D.sl 5 (T.ds kids),D.sl 1 (List.map D.str nms),D.int .i64 pl])))] (AK cx (KQ m) n 59 0 22 (EK cx 59 0))) else none
        | x=>none else LP cx (KQ m) n 59 0 22 r [(1,V.ptr 1 0),(3,V.d (D.int .i64 a)),(4,V.d (D.int .i64 (↑kids.length:Int))),(5,V.d (D.int .i64 (IntKind.i64.wrap (i+(1:Int)))))] [(1,Ob.val 5 (V.d (D.agg [D.int .i64 k,D.str nm,D.sl 5 (T.ds kids),D.sl 1 (List.map D.str nms),D.int .i64 pl])))] (AK cx (KQ m) n 59 0 22 (EK cx 59 0)) else none
       | x=>none) else none
      | x=>none else none
     | x=>none else none
    | x=>none else none
   | x=>none
  | x=>none else none
 | x=>none) else some (Out.ret (V.d (D.bool (decide (a=(0:Int))))),[]):=by kernel_rfl
theorem z9r:∀ (m:Nat) (t:T),t.depth≤m→t.ok=true→zj cx 95 [.d t.d] []=some (.ret (mkB (zz t)),[])
 | 0,.mk ..,h,_=>by simp [T.depth] at h
 | m+1,.mk k nm kids nms pl,hd,ho=>by
  have hK:knows cx (z7 95 ql (zi m) (λ t=>mkB (zz t)) K1).S (zj cx):=zk zg3 λ a q b _ h hb=>by
   obtain rfl:=wu h;obtain ⟨rfl,h1,h2⟩:=xl hb;exact z9r m b h1 h2
  obtain ⟨h1,h2,h3,h4,h5⟩:=vo ho;have hkd:=qk hd;refine zm hK (N:=0) ?_;refine (g74 0 m k nm kids nms pl).trans ?_;have hT:∀ t∈kids,zi m t.d=some t:=λ t h=>zay hkd h5 h;simp only [zc,zu,ph,zaj h1,zb,pw,yh,yk,xu,vk,vj,vi,vh,we,zps,zm4,zuw,zl1,znx];clear hK ho hd;have hk:k=1∨k=17∨k=16∨k=15∨k=14∨(k ≠ 1∧k ≠ 17∧k ≠ 16∧k ≠ 15∧k ≠ 14):=by omega
  rcases hk with rfl | rfl | rfl | rfl | rfl | ⟨q1,q2,q3,q4,q5⟩ <;> rcases kids with _ | ⟨a,_ | ⟨b,_ | ⟨c,l⟩⟩⟩ <;> rcases nms with _ | ⟨x,nms⟩ <;> simp [zz,mkB,zla,hT,zce,zh1,Bool.and_assoc, *]
theorem zyp:Nat.beq 1 (cx.P.cellsOf 9)=true:=by kernel_rfl
theorem zgm:Nat.beq 5 (cx.P.cellsOf 26)=true:=by kernel_rfl
theorem ydk(t:T)(ho:t.ok=true):zj cx 97 [.d t.d] []=some (.ret (mkB (zao t)),[]):=by
 obtain ⟨k,nm,kids,nms,pl⟩:=t;obtain ⟨h1,h2,h3,h4,h5⟩:=vo ho;refine zm zg3 (N:=kids.length+1) ?_;refine (g76 (kids.length+1) k nm kids nms pl).trans ?_
 have h:=vr (λ r i=>LP cx K1 (kids.length+1) 97 0 4 r [(1,V.ptr 1 0),(3,V.d (D.int .i64 i))] [(1,Ob.val 5 (V.d (D.agg [D.int .i64 k,D.str nm,D.sl 5 (T.ds kids),D.sl 1 (List.map D.str nms),D.int .i64 pl])))] (AK cx K1 (kids.length+1) 97 0 4 (EK cx 97 0)))
  kids (λ t=>!zap t) (λ j=>some (Out.ret (V.d (D.bool false)),[])) (some (Out.ret (V.d (D.bool true)),[])) (yp h2)
  (λ r j x hj hx=>by
   rw [l76,zu,yf hj,y8,yh,po,hx];obtain ⟨q1,q2,q3,q4,q5⟩:yn x.nm=true∧yn x.kids=true∧yn x.nms=true∧x.nms.all yn=true∧T.oks x.kids=true:=by
    have:=wx h5 (pq hx);cases x; exact vo this
   generalize LP cx K1 (kids.length+1) 97 0 4 r _ _ _=Z;obtain ⟨k',nm',kids',nms',pl'⟩:=x;simp only [zlw,zax,zhk] at q1 q2 q3 q4 q5;simp only [pw,zb,zc,Bool.and_self,yk,xu,vk,vj,vi,vh,zm9,zlw,zax,zhk,z9k,decide_true,zyp,zgm,Bool.true_or,zu,ph,zl1,zm4,zps,wt,zaj q1];have hk:k'=13∨k' ≠ 13:=by omega
   rcases hk with rfl | hk <;> rcases kids' with _ | ⟨a,kids'⟩ <;> rcases nms' with _ | ⟨y,_ | ⟨z,nms'⟩⟩ <;> simp [zap,zla,xu,D.cells, *]
   cases z6 nm' <;> cases decide (y=[48]) <;> cases decide (y=[49]) <;> rfl) (λ r=>by rw [l76,zu,yw,px]) (k:=kids.length+1) (by omega)
 rw [h,ph,zl1];have e:kids.all zap = !(kids.any λ s=>!zap s):=by rw [List.not_any_eq_all_not]; simp
 simp only [mkB,zao,e,←zbh kids 0];cases xh (λ t=>!zap t) kids 0 <;> rcases nms with _ | ⟨x,nms⟩ <;> simp [zce]
theorem z7o:knows cx K8.S (zj cx):=by
 have h75:=zk (f:=96) (dec:=ql) (sp:=zg2) (mk:=λ l=>mkB (l.all z6)) zg3 λ a q b hd h hb=>by
  obtain rfl:=wu h;obtain ⟨rfl,h1,h2⟩:=zlv hb;exact ydl b h1 h2
 have h76:=zk (f:=97) (dec:=ql) (sp:=zr) (mk:=λ t=>mkB (zao t)) h75 λ a q b hd h hb=>by
  obtain rfl:=wu h;obtain ⟨rfl,h1⟩:=wv hb;exact ydk b h1
 exact zk h76 λ a q b hd h hb=>by
  obtain rfl:=wu h;obtain ⟨rfl,h1⟩:=wv hb;exact z9r b.depth b (Nat.le_refl _) h1
abbrev L42 (m n r:Nat) (k a:Int) (nm:List UInt8) (kids:List T) (nms:List (List UInt8)) (pl i:Int):Option R1:=
 LP cx (KQ m) n 59 0 22 r [(1,V.ptr 1 0),(3,V.d (D.int .i64 a)),(4,V.d (D.int .i64 (kids.length:Int))),(5,V.d (D.int .i64 i))] [(1,Ob.val 5 (V.d (D.agg [D.int .i64 k,D.str nm,D.sl 5 (T.ds kids),D.sl 1 (List.map D.str nms),D.int .i64 pl])))] (AK cx (KQ m) n 59 0 22 (EK cx 59 0))
theorem yav{m:Nat}{k:Int}{nm:List UInt8}{kids:List T}{nms:List (List UInt8)}{pl:Int}(h2:yn kids=true)(h5:T.oks kids=true)(hkd:T.depths kids≤m)(a:Int)(N:Nat)(hN:kids.length<N) :
  L42 m N N k a nm kids nms pl 0=some (.ret (mkB (decide (a=0)&&kids.all ym)),[]):=by
 have h:=vr (λ r i=>L42 m N r k a nm kids nms pl i)
  kids (λ t=>!ym t) (λ j=>some (Out.ret (V.d (D.bool false)),[])) (some (Out.ret (V.d (D.bool (decide (a=0)))),[])) (yp h2)
  (λ r j x hj hx=>by
   simp only [L42];rw [l42,zu,yf hj,y8,yh,po,hx];have hxm:=pq hx;obtain ⟨q1,q2,q3,q4,q5⟩:yn x.nm=true∧yn x.kids=true∧yn x.nms=true∧x.nms.all yn=true∧T.oks x.kids=true:=by
    have:=wx h5 hxm;cases x; exact vo this
   have hdx:T.depths x.kids≤m:=by
    have:=zgy hxm;cases x; simp only [T.depth] at this; simp only [T.kids]; omega
   have hT:∀ t∈x.kids,zi m t.d=some t:=λ t h=>zay hdx q5 h;have hC:∀ t∈x.kids,zr t.d=some t:=λ t h=>zd8 q5 h;generalize LP cx (KQ m) N 59 0 22 r _ _ _=Z;obtain ⟨k',nm',kids',nms',pl'⟩:=x;simp only [zlw,zax,zhk] at q1 q2 q3 q4 q5 hT hC hdx;simp only [pw,zb,zc,Bool.and_self,yk,xu,vk,vj,vi,vh,zm9,zlw,zax,zhk,z9k,decide_true,zyp,zgm,Bool.true_or,zu,ph,zl1,znx,zm4,zuw,zps,yh,we];have hk:k'=11∨k' ≠ 11:=by omega
   rcases hk with rfl | hk <;> rcases kids' with _ | ⟨b,_ | ⟨c,_ | ⟨d,l⟩⟩⟩ <;> rcases nms' with _ | ⟨y,nms'⟩ <;> simp [ym,hT,hC, *]
   ·cases decide (nm'=[]) <;> cases zao b <;> rfl
   ·cases decide (nm'=[]) <;> cases zao b <;> cases zg c <;> rfl
   ·rw [pb (p:=(l.length:Int)+1+1+1<1) (by omega),pa (p:=(2:Int)<(l.length:Int)+1+1+1) (by omega)]
    cases decide (nm'=[]) <;> rfl) (λ r=>by rw [L42,l42,yw,px]) (k:=N) hN
 rw [h];have e:kids.all ym = !(kids.any λ s=>!ym s):=by rw [List.not_any_eq_all_not]; simp
 simp only [mkB,e,←zbh kids 0];cases xh (λ t=>!ym t) kids 0 <;> simp
theorem z9u:∀ (m:Nat) (t:T),t.depth≤m→t.ok=true→zj cx 59 [.d t.d] []=some (.ret (mkB (zg t)),[])
 | 0,.mk ..,h,_=>by simp [T.depth] at h
 | m+1,.mk k nm kids nms pl,hd,ho=>by
  have hQ:knows cx (KQ m).S (zj cx):=zk z7o λ a q b _ h hb=>by
   obtain rfl:=wu h;obtain ⟨rfl,h1,h2⟩:=xl hb;exact z9u m b h1 h2
  obtain ⟨h1,h2,h3,h4,h5⟩:=vo ho;have hkd:=qk hd;refine zm hQ (N:=kids.length+1) ?_;refine (g42 (kids.length+1) m k nm kids nms pl).trans ?_;have hC:zr (D.agg [D.int .i64 k,D.str nm,D.sl 5 (T.ds kids),D.sl 1 (List.map D.str nms),D.int .i64 pl])=some (.mk k nm kids nms pl):=zij ho;have hT:∀ t∈kids,zi m t.d=some t:=λ t h=>zay hkd h5 h;have hTC:∀ t∈kids,zr t.d=some t:=λ t h=>zd8 h5 h;have hL:=yav (k:=k) (nm:=nm) (nms:=nms) (pl:=pl) h2 h5 hkd (nms.length:Int) (kids.length+1) (by omega)
  simp only [L42] at hL;simp only [hC,zwm h3 h4,zc,zu,ph,zaj h1,zb,pw,yh,yk,xu,vk,vj,vi,vh,we,zps,zm4,zuw,zl1,znx,decide_true,Bool.and_true,hL];clear hL hC hQ ho hd;have hk:k=1∨k=2∨k=3∨k=4∨k=5∨k=6∨k=7∨k=8∨k=9∨k=10∨(k ≠ 1∧k ≠ 2∧k ≠ 3∧k ≠ 4∧k ≠ 5∧k ≠ 6∧k ≠ 7∧k ≠ 8∧k ≠ 9∧k ≠ 10):=by omega
  rcases hk with rfl | rfl | rfl | rfl | rfl | rfl | rfl | rfl | rfl | rfl | ⟨q1,q2,q3,q4,q5,q6,q7,q8,q9,q10⟩
  all_goals simp only [*,Int.reduceEq,decide_true,decide_false,pw,px]
  all_goals rcases kids with _ | ⟨a,_ | ⟨b,_ | ⟨c,l⟩⟩⟩
  all_goals rcases nms with _ | ⟨x,_ | ⟨y,nms⟩⟩
  all_goals simp [zg,zz,mkB,hT,hTC,zce,zh1,zng,Bool.and_assoc,List.not_any_eq_all_not,zgw]
  all_goals first | (simp [*]; done) | (rw [pb (p:=((nms.length:Int)+1+1<2)) (by omega),pb (p:=nms.length+1+1<2) (by omega)]; simp)
def adV:Bool→V | true=>.ptr 0 0 | false=>.d .nilptr
def psS(u:Bool)(L:List D):St:=[(0,.val 187695107 (.agg [adV u,.sl 6291457 L 1,.d (.bool false)])),(1,.tok L.length)]
def ze(L:List D)(s:List UInt8):List D:=L++s.map λ b=>.int .u8 b.toNat
def zq(L:List D)(s:List UInt8):Bool:=decide (L.length+s.length≤65536)
def zy(n:Nat)(L:List D):Bool:=decide (n=L.length)
theorem yo(L:List D):zy L.length L=true:=pa rfl
theorem wh(L:List D)(s t:List UInt8):ze (ze L s) t=ze L (s++t):=by simp [ze]
theorem w0(L:List D)(s:List UInt8):(ze L s).length=L.length+s.length:=by simp [ze]
theorem zgn{L:List D}{s t:List UInt8}(h:zq L (s++t)=true):zq L s=true∧zq (ze L s) t=true:=by
 simp only [zq,decide_eq_true_eq,pe,w0] at h ⊢;omega
def z3a:List D→Option (List UInt8)
 | []=>some []
 | .str s::r=>(match z3a r with | some t=>some (s++t) | none=>none)
 | _::_=>none
def psD:St→Option (List D×Nat)
 | [(0,.val 187695107 (.agg [.ptr 0 0,.sl 6291457 L 1,.d (.bool false)])),(1,.tok n)]=>some (L,n)
 | [(0,.val 187695107 (.agg [.d .nilptr,.sl 6291457 L 1,.d (.bool false)])),(1,.tok n)]=>some (L,n)
 | _=>none
theorem zed{σ:St}{L:List D}{n:Nat}(h:psD σ=some (L,n))(hn:zy n L=true):∃ u,σ=psS u L:=by
 simp only [zy,decide_eq_true_eq] at hn;subst hn;unfold psD at h;split at h
 ·cases h; exact ⟨true,rfl⟩
 ·cases h; exact ⟨false,rfl⟩
 ·cases h
def prK{α:Type}(f:Nat)(dec:List V→Option α)(sp:α→Option (List UInt8))(S:CK R1):CK R1:=
 more f (λ a σ=>match dec a,psD σ with | some q,some p=>some (q,p) | _,_=>none)
  (λ K q=>match q with | (x,L,n)=>zc (sp x) λ s=>zb (zy n L) (zb (zq L s) (K (.ret (.tup [])) (psS true (ze L s)))))
  (λ K q=>by
   obtain ⟨x,L,n⟩:=q;simp only;rw [zal];congr 1;funext s;simp only [zb,vn];rfl) S
theorem zbe{α:Type}{f:Nat}{dec:List V→Option α}{sp:α→Option (List UInt8)}{S:CK R1}(hS:knows cx S.S (zj cx))
  (hf:∀ a q s u L,dec a=some q→sp q=some s→zq L s=true→zj cx f a (psS u L)=some (.ret (.tup []),psS true (ze L s))):knows cx (prK f dec sp S).S (zj cx):=
 v8 hS λ a σ q r hd h=>by
  obtain ⟨q,L,n⟩:=q;simp only at hd h;split at hd
  ·rename_i q' p hq hp;cases hd;obtain ⟨s,hs,h⟩:=zd h;obtain ⟨h1,h⟩:=zf h;obtain ⟨h2,h⟩:=zf h;cases h;obtain ⟨u,rfl⟩:=zed hp h1;exact hf a q s u L hq hs h2
  ·cases hd
theorem g66(n:Nat)(S:CK R1)(L:List D):zn cx S n 158 [.ptr 0 0] (psS true L)=some (Out.ret (V.d (D.int .i64 (↑L.length:Int))),[(0,Ob.val 187695107 (V.agg [V.ptr 0 0,V.sl 6291457 L 1,V.d (D.bool false)])),(1,Ob.tok L.length)]):=by kernel_rfl
theorem g89(n:Nat)(S:CK R1)(L:List D):zn cx S n 191 [.ptr 0 0] (psS true L)=some (Out.ret (V.tup []),[(0,Ob.val 187695107 (V.agg [V.ptr 0 0,V.sl 6291457 L 1,V.d (D.bool false)])),(1,Ob.tok L.length)]):=by kernel_rfl
theorem yhh(n:Nat)(S:CK R1)(L:List D):zn cx S n 191 [.ptr 0 0] (psS false L)=some (Out.ret (V.tup []),[(0,Ob.val 187695107 (V.agg [V.ptr 0 0,V.sl 6291457 L 1,V.d (D.bool false)])),(1,Ob.tok L.length)]):=by kernel_rfl
theorem yhk(n:Nat)(S:CK R1)(L:List D):zn cx S n 158 [.ptr 0 0] (psS false L)=some (.ret (.d (.int .i64 L.length)),psS false L):=by kernel_rfl
def zzq:List V→Option Unit | [.ptr 0 0]=>some () | _=>none
theorem zj5{a:List V}{x}(h:zzq a=some x):a=[.ptr 0 0]:=by
 unfold zzq at h;split at h
 ·rfl
 ·cases h
def z6q:List V→Option (List UInt8) | [.ptr 0 0,.d (.str s)]=>some s | _=>none
theorem zzp{a:List V}{s}(h:z6q a=some s):a=[.ptr 0 0,.d (.str s)]:=by
 unfold z6q at h;split at h
 ·cases h; rfl
 ·cases h
def K89:CK R1:=more 191 (λ a σ=>match zzq a,psD σ with | some _,some p=>some p | _,_=>none) (λ K q=>match q with | (L,n)=>zb (zy n L) (K (.ret (.tup [])) (psS true L)))
  (λ K q=>by obtain ⟨L,n⟩:=q; simp only [zb,vn]; rfl) (CK.plain zo)
theorem z3t:knows cx K89.S (zj cx):=v8 zp λ a σ q r hd h=>by
 obtain ⟨L,n⟩:=q;simp only at hd h;split at hd
 ·rename_i p ha hp;cases hd;obtain ⟨h1,h⟩:=zf h;cases h;obtain rfl:=zj5 ha;obtain ⟨u,rfl⟩:=zed hp h1;refine zm zp (N:=0) ?_;cases u
  ·exact yhh 0 _ L
  ·exact g89 0 _ L
 ·cases hd
theorem g67(n:Nat)(L:List D)(s:List UInt8):zn cx K89 n 159 [.ptr 0 0,.d (.str s)] (psS true L)=zb (zy L.length L) (zb (decide (L.length=L.length)&&decide (L.length+(List.map (λ b=>D.int IntKind.u8 (↑b.toNat:Int)) s).length≤4294967296)) (some (Out.ret (V.tup [V.d (D.int .i64 (↑s.length:Int)),V.d D.nilIface]),[(0,Ob.val 187695107 (V.agg [V.ptr 0 0,V.sl 6291457 (L++List.map (λ b=>D.int IntKind.u8 (↑b.toNat:Int)) s) 1,V.d (D.bool false)])),(1,Ob.tok (L.length+(List.map (λ b=>D.int IntKind.u8 (↑b.toNat:Int)) s).length))]))):=by kernel_rfl
theorem yhj(n:Nat)(L:List D)(s:List UInt8):zn cx K89 n 159 [.ptr 0 0,.d (.str s)] (psS false L)=zb (zy L.length L) (zb (decide (L.length=L.length)&&decide (L.length+(List.map (λ b=>D.int IntKind.u8 (↑b.toNat:Int)) s).length≤4294967296)) (some (Out.ret (V.tup [V.d (D.int .i64 (↑s.length:Int)),V.d D.nilIface]),[(0,Ob.val 187695107 (V.agg [V.ptr 0 0,V.sl 6291457 (L++List.map (λ b=>D.int IntKind.u8 (↑b.toNat:Int)) s) 1,V.d (D.bool false)])),(1,Ob.tok (L.length+(List.map (λ b=>D.int IntKind.u8 (↑b.toNat:Int)) s).length))]))):=by kernel_rfl
def K67:CK R1:=more 159 (λ a σ=>match z6q a,psD σ with | some s,some p=>some (s,p) | _,_=>none)
  (λ K q=>match q with | (s,L,n)=>zb (zy n L) (zb (zq L s) (K (.ret (.tup [.d (.int .i64 s.length),.d .nilIface])) (psS true (ze L s)))))
  (λ K q=>by obtain ⟨s,L,n⟩:=q; simp only [zb,vn]; rfl)
 (more 158 (λ a σ=>match zzq a,psD σ with | some _,some p=>some (p,σ) | _,_=>none) (λ K q=>match q with | ((L,n),σ)=>zb (zy n L) (K (.ret (.d (.int .i64 L.length))) σ))
  (λ K q=>by obtain ⟨⟨L,n⟩,σ⟩:=q; simp only [zb,vn]; rfl) (CK.plain zo))
theorem ydp(u:Bool)(L:List D)(s:List UInt8)(h:zq L s=true):zj cx 159 [.ptr 0 0,.d (.str s)] (psS u L)=some (.ret (.tup [.d (.int .i64 s.length),.d .nilIface]),psS true (ze L s)):=by
 have h1:decide (L.length+(List.map (λ b:UInt8=>D.int IntKind.u8 (b.toNat:Int)) s).length≤4294967296)=true:=pa (by simp only [zq,decide_eq_true_eq] at h; rw [ph]; omega)
 have e:(ze L s).length=L.length+(List.map (λ b:UInt8=>D.int IntKind.u8 (b.toNat:Int)) s).length:=by simp [ze]
 refine zm z3t (N:=0) ?_;cases u
 ·rw [yhj,h1];simp only [yo,zb,pw,decide_true,Bool.and_self];rw [psS,e]; rfl
 ·rw [g67,h1];simp only [yo,zb,pw,decide_true,Bool.and_self];rw [psS,e]; rfl
theorem z3z:knows cx K67.S (zj cx):=by
 have h66:knows cx (more 158 (λ a σ=>match zzq a,psD σ with | some _,some p=>some (p,σ) | _,_=>none) (λ K q=>match q with | ((L,n),σ)=>zb (zy n L) (K (.ret (.d (.int .i64 L.length))) σ))
  (λ K q=>by obtain ⟨⟨L,n⟩,σ⟩:=q; simp only [zb,vn]; rfl) (CK.plain zo)).S (zj cx):=v8 zp λ a σ q r hd h=>by
  obtain ⟨⟨L,n⟩,τ⟩:=q;simp only at hd h;split at hd
  ·rename_i p ha hp;cases hd;obtain ⟨h1,h⟩:=zf h;cases h;obtain rfl:=zj5 ha;obtain ⟨u,rfl⟩:=zed hp h1;refine zm zp (N:=0) ?_;cases u
   ·exact yhk 0 _ _
   ·exact g66 0 _ _
  ·cases hd
 exact v8 h66 λ a σ q r hd h=>by
  obtain ⟨s,L,n⟩:=q;simp only at hd h;split at hd
  ·rename_i s' p ha hp;cases hd;obtain ⟨h1,h⟩:=zf h;obtain ⟨h2,h⟩:=zf h;cases h;obtain rfl:=zzp ha;obtain ⟨u,rfl⟩:=zed hp h1;exact ydp u L s h2
  ·cases hd
theorem g38(n:Nat)(L:List D)(l:List D):zn cx K67 n 127 [.ptr 0 0,.d (.sl 1 l)] (psS true L)=LP cx K67 n 127 2 1 n [(0,V.ptr 0 0),(6,V.d (D.sl 1 l)),(7,V.d (D.int .i64 (↑l.length:Int))),(8,V.d (D.int .i64 (0:Int)))] [(0,Ob.val 187695107 (V.agg [V.ptr 0 0,V.sl 6291457 L 1,V.d (D.bool false)])),(1,Ob.tok L.length)] (AK cx K67 n 127 2 1 (EK cx 127 2)):=by kernel_rfl
theorem yhp(n:Nat)(L:List D)(l:List D):zn cx K67 n 127 [.ptr 0 0,.d (.sl 1 l)] (psS false L)=LP cx K67 n 127 2 1 n [(0,V.ptr 0 0),(6,V.d (D.sl 1 l)),(7,V.d (D.int .i64 (↑l.length:Int))),(8,V.d (D.int .i64 (0:Int)))] [(0,Ob.val 187695107 (V.agg [V.d D.nilptr,V.sl 6291457 L 1,V.d (D.bool false)])),(1,Ob.tok L.length)] (AK cx K67 n 127 2 1 (EK cx 127 2)):=by kernel_rfl
theorem l38(n k:Nat)(L:List D)(l:List (List UInt8))(i:Int):LP cx K67 n 127 2 1 (k+1) [(0,.ptr 0 0),(6,.d (.sl 1 (l.map .str))),(7,.d (.int .i64 (l.length:Int))),(8,.d (.int .i64 i))] (psS true L) (AK cx K67 n 127 2 1 (EK cx 127 2))=bif decide (i<(↑l.length:Int)) then zb (decide (0≤i)&&decide (i<(↑(List.map D.str l).length:Int))) (za (List.map D.str l) i.toNat λ y=>za y.cells 0 λ c=>match c with
 | D.str s=>zb (zy L.length L) (bif decide ((65536:Int)<IntKind.i64.wrap ((↑L.length:Int)+(↑s.length:Int))) then some (Out.ret (V.tup []),[(0,Ob.val 187695107 (V.agg [V.ptr 0 0,V.sl 6291457 L 1,V.d (D.bool true)])),(1,Ob.tok L.length)]) else zb (zy L.length L) (zb (zq L s) (LP cx K67 n 127 2 1 k [(0,V.ptr 0 0),(6,V.d (D.sl 1 (List.map D.str l))),(7,V.d (D.int .i64 (↑l.length:Int))),(8,V.d (D.int .i64 (IntKind.i64.wrap (i+(1:Int)))))] [(0,Ob.val 187695107 (V.agg [V.ptr 0 0,V.sl 6291457 (ze L s) 1,V.d (D.bool false)])),(1,Ob.tok (ze L s).length)] (AK cx K67 n 127 2 1 (EK cx 127 2)))))
 | x=>none) else some (Out.ret (V.tup []),[(0,Ob.val 187695107 (V.agg [V.ptr 0 0,V.sl 6291457 L 1,V.d (D.bool false)])),(1,Ob.tok L.length)]):=by kernel_rfl
theorem yea(n k:Nat)(L:List D)(l:List (List UInt8))(i:Int):LP cx K67 n 127 2 1 (k+1) [(0,.ptr 0 0),(6,.d (.sl 1 (l.map .str))),(7,.d (.int .i64 (l.length:Int))),(8,.d (.int .i64 i))] (psS false L) (AK cx K67 n 127 2 1 (EK cx 127 2))=bif decide (i<(↑l.length:Int)) then zb (decide (0≤i)&&decide (i<(↑(List.map D.str l).length:Int))) (za (List.map D.str l) i.toNat λ y=>za y.cells 0 λ c=>match c with
 | D.str s=>zb (zy L.length L) (bif decide ((65536:Int)<IntKind.i64.wrap ((↑L.length:Int)+(↑s.length:Int))) then some (Out.ret (V.tup []),[(0,Ob.val 187695107 (V.agg [V.d D.nilptr,V.sl 6291457 L 1,V.d (D.bool true)])),(1,Ob.tok L.length)]) else zb (zy L.length L) (zb (zq L s) (LP cx K67 n 127 2 1 k [(0,V.ptr 0 0),(6,V.d (D.sl 1 (List.map D.str l))),(7,V.d (D.int .i64 (↑l.length:Int))),(8,V.d (D.int .i64 (IntKind.i64.wrap (i+(1:Int)))))] [(0,Ob.val 187695107 (V.agg [V.ptr 0 0,V.sl 6291457 (ze L s) 1,V.d (D.bool false)])),(1,Ob.tok (ze L s).length)] (AK cx K67 n 127 2 1 (EK cx 127 2)))))
 | x=>none) else some (Out.ret (V.tup []),[(0,Ob.val 187695107 (V.agg [V.d D.nilptr,V.sl 6291457 L 1,V.d (D.bool false)])),(1,Ob.tok L.length)]):=by kernel_rfl
theorem zor(L:List D):ze L []=L:=by simp [ze]
theorem zwe{L:List D}{s:List UInt8}(h:zq L s=true):decide ((65536:Int)<IntKind.i64.wrap ((L.length:Int)+(s.length:Int)))=false:=by
 simp only [zq,decide_eq_true_eq] at h;rw [IntWalk.i64_in _ (by omega)]
 exact pb (by omega)
abbrev L38 (n k:Nat) (u:Bool) (L:List D) (l:List (List UInt8)) (i:Int):Option R1:=
 LP cx K67 n 127 2 1 k [(0,.ptr 0 0),(6,.d (.sl 1 (l.map .str))),(7,.d (.int .i64 (l.length:Int))),(8,.d (.int .i64 i))] (psS u L) (AK cx K67 n 127 2 1 (EK cx 127 2))
theorem z5m(n:Nat)(l:List (List UInt8))(hl:l.length<4294967296):∀ (r:List (List UInt8)) (j k:Nat) (u:Bool) (L:List D),l.drop j=r→j≤l.length→r.length<k→zq L r.flatten=true →
  L38 n k u L l j=some (.ret (.tup []),psS (u||!r.isEmpty) (ze L r.flatten))
 | [],j,k,u,L,hd,hj,hk,hr=>by
  obtain ⟨k,rfl⟩:∃ i,k=i+1:=⟨k - 1,by omega⟩
  have:l.length≤j:=by simpa using hd
  obtain rfl:j=l.length:=by omega
  simp only [L38,List.flatten_nil,zor];cases u
  ·rw [yea,yw]; rfl
  ·rw [l38,yw]; rfl
 | s::r,j,k,u,L,hd,hj,hk,hr=>by
  obtain ⟨k,rfl⟩:∃ i,k=i+1:=⟨k - 1,by omega⟩
  obtain ⟨h1,h2,h3⟩:=za0 hd;rw [List.flatten_cons] at hr;obtain ⟨hr1,hr2⟩:=zgn hr;have ih:=z5m n l hl r (j+1) k true (ze L s) h3 h1 (by simp at hk; omega) hr2
  simp only [L38,Bool.true_or] at ih;have e:psS true (ze (ze L s) r.flatten)=psS (u||!(s::r).isEmpty) (ze L (s::r).flatten):=by
   rw [wh,List.flatten_cons]; cases u <;> rfl
  rw [←e];simp only [L38];cases u
  ·rw [yea,ph,yf h1,y8,wt,po,h2,w9 h1 hl];simp only [pw,zb,zc,Bool.and_self,D.cells,xu,yo,zwe hr1,px,hr1];exact ih
  ·rw [l38,ph,yf h1,y8,wt,po,h2,w9 h1 hl];simp only [pw,zb,zc,Bool.and_self,D.cells,xu,yo,zwe hr1,px,hr1];exact ih
theorem z9x(u:Bool)(L:List D)(l:List (List UInt8))(hl:l.length<4294967296)(hne:l ≠ [])(hr:zq L l.flatten=true) :
  zj cx 127 [.ptr 0 0,.d (.sl 1 (l.map .str))] (psS u L)=some (.ret (.tup []),psS true (ze L l.flatten)):=by
 have h:=z5m (l.length+1) l hl l 0 (l.length+1) u L rfl (Nat.zero_le _) (by omega) hr
 simp only [L38] at h;have e:(u||!l.isEmpty)=true:=by cases l; exact absurd rfl hne; cases u <;> rfl
 rw [e] at h;refine zm z3z (N:=l.length+1) ?_;cases u
 ·rw [yhp,ph]; exact h
 ·rw [g38,ph]; exact h
theorem znh:∀ {l:List D} {s:List UInt8},z3a l=some s→∃ m:List (List UInt8),l=m.map .str∧s=m.flatten
 | [],s,h=>by cases h; exact ⟨[],rfl,rfl⟩
 | x::r,s,h=>by
  unfold z3a at h;split at h
  ·rename_i he; cases he
  ·rename_i t q he;cases he;split at h
   ·rename_i u hu;cases h;obtain ⟨m,rfl,rfl⟩:=znh hu;exact ⟨t::m,rfl,rfl⟩
   ·cases h
  ·cases h
def zqj:List V→Option (List D) | [.ptr 0 0,.d (.sl 1 (a::l))]=>bif Nat.ble l.length 100 then some (a::l) else none | _=>none
theorem zn8{a:List V}{l}(h:zqj a=some l):a=[.ptr 0 0,.d (.sl 1 l)]∧l ≠ []∧l.length<4294967296:=by
 unfold zqj at h;split at h
 ·rename_i x r;cases hc:Nat.ble r.length 100 <;> rw [hc] at h
  ·cases h
  ·cases h;have:=pu hc;exact ⟨rfl,by simp,by simp; omega⟩
 ·cases h
def K38:CK R1:=prK 127 zqj z3a (CK.plain zo)
theorem z36:knows cx K38.S (zj cx):=zbe zp λ a q s u L h hs hr=>by
 obtain ⟨rfl,h1,h2⟩:=zn8 h;obtain ⟨m,rfl,rfl⟩:=znh hs;exact z9x u L m (by simpa using h2) (by intro e; rw [e] at h1; exact h1 rfl) hr
def ya(l:List (List UInt8))(sep:List UInt8):List UInt8:=Lib.join l sep
def z6r:List V→Option (D×List UInt8) | [.d x,.d (.str s)]=>some (x,s) | _=>none
def zdm(q:D×List UInt8):Option (List (List UInt8)×List UInt8):=match zg2 q.1 with | some l=>bif decide ((Lib.join l q.2).length≤140737488355328) then some (l,q.2) else none | none=>none
theorem ydf(l:List (List UInt8))(sep:List UInt8)(h1:yn l=true)(h2:(Lib.join l sep).length≤140737488355328):zj cx 192 [.d (.sl 1 (l.map .str)),.d (.str sep)] []=some (.ret (.d (.str (ya l sep))),[]):=by
 refine zhm (n:=1) ?_;have e:cx.nat 192 [.d (.sl 1 (l.map .str)),.d (.str sep)] []=some (.ret (.d (.str (Lib.join l sep))),[]):=by
  have e0:cx.nat 192 [.d (.sl 1 (l.map .str)),.d (.str sep)] []=zlz [.d (.sl 1 (l.map .str)),.d (.str sep)] []:=by kernel_rfl
  rw [e0];simp only [zlz,zsc,zc];rw [pa h2,pa (by have:=yp h1; omega)]
  rfl
 show zbu cx (vz cx 0) 0 192 _ []=_;unfold zbu;rw [e];rfl
def K90:CK R1:=z7 192 z6r zdm (λ q=>mkS (ya q.1 q.2)) K38
theorem z3s:knows cx K90.S (zj cx):=zk z36 λ a q b hd h hb=>by
 obtain ⟨x,s⟩:=q;unfold z6r at h;split at h
 ·cases h;unfold zdm at hb;split at hb
  ·rename_i l hl;simp only at hl hb;cases hc:decide ((Lib.join l s).length≤140737488355328) <;> rw [hc] at hb
   ·cases hb
   ·cases hb;obtain ⟨rfl,h1,h2⟩:=zlv hl;exact ydf l s h1 (pc hc)
  ·cases hb
 ·cases h
def yb(b:Bool)(s:List UInt8):List UInt8:=bif b then [40]++s++[41] else s
def y5(k:Int):Int:=bif decide (k=2)||decide (k=3)||decide (k=4)||decide (k=5) then 0 else bif decide (k=6)||decide (k=7) then 1 else 2
def xw(k:Int):Int:=bif decide (k=14) then 0 else bif decide (k=15) then 1 else 2
def xb(l:List (List UInt8))(i:Nat):List UInt8:=l.getD i []
mutual
def xy:T→List UInt8
 | .mk k nm kids _ _=>bif decide (k=16) then [126]++xb (zd5 kids 2) 0 else bif decide (k=15) then xb (zd5 kids 1) 0++[32,47,92,32]++xb (zd5 kids 2) 1
   else bif decide (k=14) then xb (zd5 kids 0) 0++[32,92,47,32]++xb (zd5 kids 1) 1 else nm
def zd5:List T→Int→List (List UInt8)
 | [],_=>[]
 | t::l,a=>yb (decide (xw t.k<a)) (xy t)::zd5 l a
end
def vt(t:T)(a:Int):List UInt8:=yb (decide (xw t.k<a)) (xy t)
def zae(t:T):List UInt8:=[40]++t.nm++[61]++xb t.nms 0++[41]
def zft(t:T):List UInt8:=(bif t.kids.isEmpty then [49] else [])++(t.kids.map zae).flatten
def vw(l:List T):Bool:=match l with | .mk k _ (.mk k' _ _ _ _::_) _ _::_=>decide (k=9)&&decide (k'=1) | _=>false
mutual
def yi:T→List UInt8
 | .mk k nm kids nms _=>bif decide (k=1) then nm
  else bif decide (k=2) then [92]++ya nms [32]++[46,32]++xb (yq kids 0) 0
  else bif decide (k=3) then [60]++ya nms [32]++[62,32]++xb (yq kids 0) 0
  else bif decide (k=4) then (bif decide (nms.length=1) then [40]++xb nms 0++[32,58,32]++xb (yq kids 0) 0++[41] else yb (vw kids) (xb (yq kids 1) 0))++[32,45,62,32]++xb (yq kids 0) 1
  else bif decide (k=5) then (bif decide (nms.length=1) then [40]++xb nms 0++[32,58,32]++xb (yq kids 0) 0++[41] else yb (vw kids) (xb (yq kids 1) 0))++[32,42,32]++xb (yq kids 0) 1
  else bif decide (k=6) then xb (yq kids 1) 0++[32]++xb (yq kids 2) 1
  else bif decide (k=7) then xb (yq kids 1) 0++[32,64,32]++(match kids with | _::b::_=>vt b 2 | _=>[])
  else bif decide (k=8) then [40]++xb (yq kids 0) 0++[44,32]++xb (yq kids 0) 1++[41]
  else bif decide (k=9) then [40]++xb (yq kids 0) 0++[32,58,32]++xb (yq kids 0) 1++[41]
  else [91]++zbn true kids++[93]
def yq:List T→Int→List (List UInt8)
 | [],_=>[]
 | t::l,a=>yb (decide (y5 t.k<a)) (yi t)::yq l a
def zaf:T→List UInt8
 | .mk _ _ kids _ _=>(match kids with | f::_=>zft f | _=>[])++(bif decide (kids.length=2) then [32,45,62,32]++xb (yq kids 0) 1 else [])
def zbn:Bool→List T→List UInt8
 | _,[]=>[]
 | b,e::l=>(bif b then [] else [44,32])++zaf e++zbn false l
end
def zw(t:T)(a:Int):List UInt8:=yb (decide (y5 t.k<a)) (yi t)
theorem xd:∀ (l:List T) (a:Int) (i:Nat) (t:T),l[i]?=some t→xb (yq l a) i=zw t a
 | [],_,_,_,h=>by simp at h
 | u::l,a,0,t,h=>by simp at h; subst h; rfl
 | u::l,a,i+1,t,h=>by rw [yq]; exact xd l a i t (by simpa using h)
theorem zfm:∀ (l:List T) (a:Int) (i:Nat) (t:T),l[i]?=some t→xb (zd5 l a) i=vt t a
 | [],_,_,_,h=>by simp at h
 | u::l,a,0,t,h=>by simp at h; subst h; rfl
 | u::l,a,i+1,t,h=>by rw [zd5]; exact zfm l a i t (by simpa using h)
def zn7:List V→Option (D×Int) | [.ptr 0 0,.d x,.d (.int .i64 a)]=>some (x,a) | _=>none
theorem zhw{a:List V}{x:D}{n:Int}(h:zn7 a=some (x,n)):a=[.ptr 0 0,.d x,.d (.int .i64 n)]:=by
 unfold zn7 at h;split at h
 ·cases h; rfl
 ·cases h
def ztx:List V→Option D | [.ptr 0 0,.d x]=>some x | _=>none
theorem zqi{a:List V}{x:D}(h:ztx a=some x):a=[.ptr 0 0,.d x]:=by
 unfold ztx at h;split at h
 ·cases h; rfl
 ·cases h
def zxx:List V→Option (D×List UInt8) | [.ptr 0 0,.d x,.d (.str s)]=>some (x,s) | _=>none
theorem zqh{a:List V}{x:D}{s}(h:zxx a=some (x,s)):a=[.ptr 0 0,.d x,.d (.str s)]:=by
 unfold zxx at h;split at h
 ·cases h; rfl
 ·cases h
def z4x(m:Nat):D×Int→Option (List UInt8) | (x,a)=>zc (zi m x) λ t=>zb (zg t) (some (zw t a))
def ygw(m:Nat):D×Int→Option (List UInt8) | (x,a)=>zc (zi m x) λ t=>zb (zz t) (some (vt t a))
def zuj(u:Bool)(L:List D)(x:D):St:=[(0,.val 1 (.ptr 1 0)),(1,.val 187695107 (.agg [bif u then .ptr 1 0 else .d .nilptr,.sl 6291457 L 2,.d (.bool false)])),(2,.tok L.length),(3,.val 5 (.d x))]
def zgo(u:Bool)(L:List D)(x:D):St:=[(0,.val 5 (.d x)),(1,.val 1 (.ptr 2 0)),(2,.val 187695107 (.agg [bif u then .ptr 2 0 else .d .nilptr,.sl 6291457 L 3,.d (.bool false)])),(3,.tok L.length)]
def psB(u:Bool)(L:List D)(x:D):St:=psS u L++[(2,.val 1 (.ptr 0 0)),(3,.val 5 (.d x))]
def psF(u:Bool)(L:List D)(x:D):St:=psS u L++[(2,.val 5 (.d x)),(3,.val 1 (.ptr 0 0))]
def znv:St→Option (D×List D×Nat)
 | [(0,.val 1 (.ptr 1 0)),(1,.val 187695107 (.agg [.ptr 1 0,.sl 6291457 L 2,.d (.bool false)])),(2,.tok n),(3,.val 5 (.d x))]=>some (x,L,n)
 | [(0,.val 1 (.ptr 1 0)),(1,.val 187695107 (.agg [.d .nilptr,.sl 6291457 L 2,.d (.bool false)])),(2,.tok n),(3,.val 5 (.d x))]=>some (x,L,n)
 | _=>none
def zo9:St→Option (D×List D×Nat)
 | [(0,.val 5 (.d x)),(1,.val 1 (.ptr 2 0)),(2,.val 187695107 (.agg [.ptr 2 0,.sl 6291457 L 3,.d (.bool false)])),(3,.tok n)]=>some (x,L,n)
 | [(0,.val 5 (.d x)),(1,.val 1 (.ptr 2 0)),(2,.val 187695107 (.agg [.d .nilptr,.sl 6291457 L 3,.d (.bool false)])),(3,.tok n)]=>some (x,L,n)
 | _=>none
def z73:St→Option (D×List D×Nat)
 | [a,b,(2,.val 1 (.ptr 0 0)),(3,.val 5 (.d x))]=>(match psD [a,b] with | some (L,n)=>some (x,L,n) | none=>none)
 | _=>none
def yal:St→Option (D×List D×Nat)
 | [a,b,(2,.val 5 (.d x)),(3,.val 1 (.ptr 0 0))]=>(match psD [a,b] with | some (L,n)=>some (x,L,n) | none=>none)
 | _=>none
theorem zo8{σ:St}{x:D}{L:List D}{n:Nat}(h:znv σ=some (x,L,n))(hn:zy n L=true):∃ u,σ=zuj u L x:=by
 simp only [zy,decide_eq_true_eq] at hn;subst hn;unfold znv at h;split at h
 ·cases h; exact ⟨true,rfl⟩
 ·cases h; exact ⟨false,rfl⟩
 ·cases h
theorem zwf{σ:St}{x:D}{L:List D}{n:Nat}(h:zo9 σ=some (x,L,n))(hn:zy n L=true):∃ u,σ=zgo u L x:=by
 simp only [zy,decide_eq_true_eq] at hn;subst hn;unfold zo9 at h;split at h
 ·cases h; exact ⟨true,rfl⟩
 ·cases h; exact ⟨false,rfl⟩
 ·cases h
theorem zsl{σ:St}{x:D}{L:List D}{n:Nat}(h:z73 σ=some (x,L,n))(hn:zy n L=true):∃ u,σ=psB u L x:=by
 unfold z73 at h;split at h
 ·split at h
  ·rename_i hp;cases h;obtain ⟨u,hu⟩:=zed hp hn;refine ⟨u,?_⟩;unfold psB;rw [←hu];rfl
  ·cases h
 ·cases h
theorem z2c{σ:St}{x:D}{L:List D}{n:Nat}(h:yal σ=some (x,L,n))(hn:zy n L=true):∃ u,σ=psF u L x:=by
 unfold yal at h;split at h
 ·split at h
  ·rename_i hp;cases h;obtain ⟨u,hu⟩:=zed hp hn;refine ⟨u,?_⟩;unfold psF;rw [←hu];rfl
  ·cases h
 ·cases h
def clK(f:Nat)(dec:List V→Option Bool)(pd:St→Option (D×List D×Nat))(ps:Bool→List D→D→St)(sp:Bool→D→Option (List UInt8))(S:CK R1):CK R1:=
 more f (λ a σ=>match dec a,pd σ with | some b,some p=>some (b,p) | _,_=>none)
  (λ K q=>match q with | (b,x,L,n)=>zc (sp b x) λ s=>zb (zy n L) (zb (zq L s) (K (.ret (.tup [])) (ps true (ze L s) x))))
  (λ K q=>by
   obtain ⟨b,x,L,n⟩:=q;simp only;rw [zal];congr 1;funext s;simp only [zb,vn];rfl) S
theorem zfb{f:Nat}{dec:List V→Option Bool}{pd:St→Option (D×List D×Nat)}{ps:Bool→List D→D→St}{sp:Bool→D→Option (List UInt8)}{S:CK R1}(hS:knows cx S.S (zj cx))
  (hp:∀ {σ x L n},pd σ=some (x,L,n)→zy n L=true→∃ u,σ=ps u L x)
  (hf:∀ a b x s u L,dec a=some b→sp b x=some s→zq L s=true→zj cx f a (ps u L x)=some (.ret (.tup []),ps true (ze L s) x)):knows cx (clK f dec pd ps sp S).S (zj cx):=
 v8 hS λ a σ q r hd h=>by
  obtain ⟨b,x,L,n⟩:=q;simp only at hd h;split at hd
  ·rename_i b' p hb hpd;cases hd;obtain ⟨s,hs,h⟩:=zd h;obtain ⟨h1,h⟩:=zf h;obtain ⟨h2,h⟩:=zf h;cases h;obtain ⟨u,rfl⟩:=hp hpd h1;exact hf a b x s u L hb hs h2
  ·cases hd
def zoa:List V→Option Bool | [.ptr 0 0,.ptr 3 0]=>some true | _=>none
def zqo:List V→Option Bool | [.ptr 0 0,.ptr 1 0]=>some true | _=>none
def zx1(g:Nat):List V→Option Bool | [.ptr 0 0,.d (.bool b),.func f [.ptr 2 0,.ptr 3 0]]=>bif Nat.beq f g then some b else none | _=>none
theorem zql{a:List V}{b}(h:zoa a=some b):a=[.ptr 0 0,.ptr 3 0]:=by
 unfold zoa at h;split at h
 ·rfl
 ·cases h
theorem zx4{a:List V}{b}(h:zqo a=some b):a=[.ptr 0 0,.ptr 1 0]:=by
 unfold zqo at h;split at h
 ·rfl
 ·cases h
theorem zk1{g:Nat}{a:List V}{b}(h:zx1 g a=some b):a=[.ptr 0 0,.d (.bool b),.func g [.ptr 2 0,.ptr 3 0]]:=by
 unfold zx1 at h;split at h
 ·rename_i b' f;cases hc:Nat.beq f g <;> rw [hc] at h
  ·cases h
  ·obtain rfl:=pj hc;cases h; rfl
 ·cases h
def z6s:List V→Option Int | [.d (.int .i64 a)]=>some a | _=>none
def K91:CK R1:=z7 161 ql zr (λ t=>mkI (y5 t.k)) (z7 217 z6s some (λ k=>mkI (xw k)) K90)
def ze3(t:T):Bool:=zg t&&(decide (t.k=4)||decide (t.k=5))
def ze2(t:T):Bool:=zg t&&(decide (t.k=8)||decide (t.k=9))
def zcn(t:T):Bool:=zg t&&decide (t.k=10)
def zfu:T→List UInt8→List UInt8 | .mk _ _ kids nms _,s=>(bif decide (nms.length=1) then [40]++xb nms 0++[32,58,32]++xb (yq kids 0) 0++[41] else yb (vw kids) (xb (yq kids 1) 0))++s++xb (yq kids 0) 1
def zfq:T→List UInt8→List UInt8 | .mk _ _ kids _ _,s=>[40]++xb (yq kids 0) 0++s++xb (yq kids 0) 1++[41]
def zd6:T→List UInt8 | .mk _ _ kids _ _=>[91]++zbn true kids++[93]
def ygx(m:Nat):D×List UInt8→Option (List UInt8) | (x,s)=>zc (zi m x) λ t=>zb (ze3 t) (some (zfu t s))
def yc0(m:Nat):D×List UInt8→Option (List UInt8) | (x,s)=>zc (zi m x) λ t=>zb (ze2 t) (some (zfq t s))
def ycz(m:Nat)(x:D):Option (List UInt8):=zc (zi m x) λ t=>zb (zcn t) (some (zd6 t))
def z16(m:Nat)(x:D):Option (List UInt8):=zc (zi m x) λ t=>zb (zg t) (some (yi t))
def z9e:D×Int→Option (List UInt8) | (x,a)=>zc (zr x) λ t=>zb (zz t) (some (vt t a))
def z0r(m:Nat)(x:D):Option (List UInt8):=zc (zi m x) λ t=>zb (zz t) (some (xy t))
def KT(m:Nat):CK R1:=prK 128 zn7 (z4x m) K91
def KM(m:Nat):CK R1:=prK 194 zn7 (ygw m) K91
def ygl(m:Nat):CK R1:=clK 160 (zx1 218) yal psF (λ b x=>zc (z0r m x) λ s=>some (yb b s)) K91
def ygm(m:Nat):CK R1:=clK 160 (zx1 216) z73 psB (λ b x=>zc (z4x m (x,1)) λ s=>some (yb b s)) (KT m)
def K70(m:Nat):CK R1:=clK 160 (zx1 162) z73 psB (λ b x=>zc (z16 m x) λ s=>some (yb b s)) K91
def K71(m:Nat):CK R1:=prK 193 zxx (ygx (m+1)) (prK 195 zxx (yc0 (m+1)) (prK 196 ztx (ycz (m+1)) (prK 194 zn7 z9e (KT m))))
theorem g69(n:Nat)(k:Int)(nm:List UInt8)(kids:List T)(nms:List (List UInt8))(pl:Int):zn cx (CK.plain zo) n 161 [.d (.agg [.int .i64 k,.str nm,.sl 5 (T.ds kids),.sl 1 (nms.map .str),.int .i64 pl])] []=bif decide (k=(2:Int)) then bif decide (k=(2:Int)) then some (Out.ret (V.d (D.int .i64 (0:Int))),[]) else bif decide (k=(6:Int)) then bif decide (k=(6:Int)) then some (Out.ret (V.d (D.int .i64 (1:Int))),[]) else some (Out.ret (V.d (D.int .i64 (2:Int))),[]) else bif decide (k=(7:Int)) then some (Out.ret (V.d (D.int .i64 (1:Int))),[]) else some (Out.ret (V.d (D.int .i64 (2:Int))),[]) else bif decide (k=(3:Int)) then bif decide (k=(3:Int)) then some (Out.ret (V.d (D.int .i64 (0:Int))),[]) else bif decide (k=(6:Int)) then bif decide (k=(6:Int)) then some (Out.ret (V.d (D.int .i64 (1:Int))),[]) else some (Out.ret (V.d (D.int .i64 (2:Int))),[]) else bif decide (k=(7:Int)) then some (Out.ret (V.d (D.int .i64 (1:Int))),[]) else some (Out.ret (V.d (D.int .i64 (2:Int))),[]) else bif decide (k=(4:Int)) then bif decide (k=(4:Int)) then some (Out.ret (V.d (D.int .i64 (0:Int))),[]) else bif decide (k=(6:Int)) then bif decide (k=(6:Int)) then some (Out.ret (V.d (D.int .i64 (1:Int))),[]) else some (Out.ret (V.d (D.int .i64 (2:Int))),[]) else bif decide (k=(7:Int)) then some (Out.ret (V.d (D.int .i64 (1:Int))),[]) else some (Out.ret (V.d (D.int .i64 (2:Int))),[]) else bif decide (k=(5:Int)) then some (Out.ret (V.d (D.int .i64 (0:Int))),[]) else bif decide (k=(6:Int)) then bif decide (k=(6:Int)) then some (Out.ret (V.d (D.int .i64 (1:Int))),[]) else some (Out.ret (V.d (D.int .i64 (2:Int))),[]) else bif decide (k=(7:Int)) then some (Out.ret (V.d (D.int .i64 (1:Int))),[]) else some (Out.ret (V.d (D.int .i64 (2:Int))),[]):=by kernel_rfl
theorem yhq(n:Nat)(k:Int):zn cx (CK.plain zo) n 217 [.d (.int .i64 k)] []=bif decide (k=(14:Int)) then some (Out.ret (V.d (D.int .i64 (0:Int))),[]) else bif decide (k=(15:Int)) then some (Out.ret (V.d (D.int .i64 (1:Int))),[]) else some (Out.ret (V.d (D.int .i64 (2:Int))),[]):=by kernel_rfl
theorem yfa(n m:Nat)(L:List D)(u:Bool)(k:Int)(nm:List UInt8)(kids:List T)(nms:List (List UInt8))(pl:Int):zn cx (KM m) n 218 [.ptr 0 0,.ptr 1 0] (zgo u L (.agg [.int .i64 k,.str nm,.sl 5 (T.ds kids),.sl 1 (nms.map .str),.int .i64 pl]))=bif decide (k=(16:Int)) then zb (zy L.length L) (zb (zq L [126]) (zb (decide ((0:Int)<(↑(T.ds kids).length:Int))) (za (T.ds kids) (0:Int).toNat λ y=>za y.cells 0 λ c=>za y.cells 1 λ c_1=>za y.cells 2 λ c_2=>za y.cells 3 λ c_3=>za y.cells 4 λ c_4=>zc (zc (zi m (D.agg [c,c_1,c_2,c_3,c_4])) λ t=>zb (zz t) (some (vt t (2:Int)))) λ s=>zb (zy (ze L [126]).length (ze L [126])) (zb (zq (ze L [126]) s) (some (Out.ret (V.tup []),[(0,Ob.val 5 (V.d (D.agg [D.int .i64 k,D.str nm,D.sl 5 (T.ds kids),D.sl 1 (List.map D.str nms),D.int .i64 pl]))),(1,Ob.val 1 (V.ptr 2 0)),(2,Ob.val 187695107 (V.agg [V.ptr 2 0,V.sl 6291457 (ze (ze L [126]) s) 3,V.d (D.bool false)])),(3,Ob.tok (ze (ze L [126]) s).length)])))))) else bif decide (k=(15:Int)) then zb (decide ((0:Int)<(↑(T.ds kids).length:Int))) (za (T.ds kids) (0:Int).toNat λ y=>za y.cells 0 λ c=>za y.cells 1 λ c_1=>za y.cells 2 λ c_2=>za y.cells 3 λ c_3=>za y.cells 4 λ c_4=>zc (zc (zi m (D.agg [c,c_1,c_2,c_3,c_4])) λ t=>zb (zz t) (some (vt t (1:Int)))) λ s=>zb (zy L.length L) (zb (zq L s) (zb (zy (ze L s).length (ze L s)) (zb (zq (ze L s) [32,47,92,32]) (zb (decide ((1:Int)<(↑(T.ds kids).length:Int))) (za (T.ds kids) (1:Int).toNat λ y=>za y.cells 0 λ c=>za y.cells 1 λ c_5=>za y.cells 2 λ c_6=>za y.cells 3 λ c_7=>za y.cells 4 λ c_8=>zc (zc (zi m (D.agg [c,c_5,c_6,c_7,c_8])) λ t=>zb (zz t) (some (vt t (2:Int)))) λ s_1=>zb (zy (ze (ze L s) [32,47,92,32]).length (ze (ze L s) [32,47,92,32])) (zb (zq (ze (ze L s) [32,47,92,32]) s_1) (some (Out.ret (V.tup []),[(0,Ob.val 5 (V.d (D.agg [D.int .i64 k,D.str nm,D.sl 5 (T.ds kids),D.sl 1 (List.map D.str nms),D.int .i64 pl]))),(1,Ob.val 1 (V.ptr 2 0)),(2,Ob.val 187695107 (V.agg [V.ptr 2 0,V.sl 6291457 (ze (ze (ze L s) [32,47,92,32]) s_1) 3,V.d (D.bool false)])),(3,Ob.tok (ze (ze (ze L s) [32,47,92,32]) s_1).length)]))))))))) else bif decide (k=(14:Int)) then zb (decide ((0:Int)<(↑(T.ds kids).length:Int))) (za (T.ds kids) (0:Int).toNat λ y=>za y.cells 0 λ c=>za y.cells 1 λ c_1=>za y.cells 2 λ c_2=>za y.cells 3 λ c_3=>za y.cells 4 λ c_4=>zc (zc (zi m (D.agg [c,c_1,c_2,c_3,c_4])) λ t=>zb (zz t) (some (vt t (0:Int)))) λ s=>zb (zy L.length L) (zb (zq L s) (zb (zy (ze L s).length (ze L s)) (zb (zq (ze L s) [32,92,47,32]) (zb (decide ((1:Int)<(↑(T.ds kids).length:Int))) (za (T.ds kids) (1:Int).toNat λ y=>za y.cells 0 λ c=>za y.cells 1 λ c_5=>za y.cells 2 λ c_6=>za y.cells 3 λ c_7=>za y.cells 4 λ c_8=>zc (zc (zi m (D.agg [c,c_5,c_6,c_7,c_8])) λ t=>zb (zz t) (some (vt t (1:Int)))) λ s_1=>zb (zy (ze (ze L s) [32,92,47,32]).length (ze (ze L s) [32,92,47,32])) (zb (zq (ze (ze L s) [32,92,47,32]) s_1) (some (Out.ret (V.tup []),[(0,Ob.val 5 (V.d (D.agg [D.int .i64 k,D.str nm,D.sl 5 (T.ds kids),D.sl 1 (List.map D.str nms),D.int .i64 pl]))),(1,Ob.val 1 (V.ptr 2 0)),(2,Ob.val 187695107 (V.agg [V.ptr 2 0,V.sl 6291457 (ze (ze (ze L s) [32,92,47,32]) s_1) 3,V.d (D.bool false)])),(3,Ob.tok (ze (ze (ze L s) [32,92,47,32]) s_1).length)]))))))))) else zb (zy L.length L) (zb (zq L (nm++[])) (some (Out.ret (V.tup []),[(0,Ob.val 5 (V.d (D.agg [D.int .i64 k,D.str nm,D.sl 5 (T.ds kids),D.sl 1 (List.map D.str nms),D.int .i64 pl]))),(1,Ob.val 1 (V.ptr 2 0)),(2,Ob.val 187695107 (V.agg [V.ptr 2 0,V.sl 6291457 (ze L (nm++[])) 3,V.d (D.bool false)])),(3,Ob.tok (ze L (nm++[])).length)]))):=by cases u <;> kernel_rfl
theorem yhi(n m:Nat)(L:List D)(u:Bool)(k:Int)(nm:List UInt8)(kids:List T)(nms:List (List UInt8))(pl:Int):zn cx (prK 163 ztx (z16 m) K91) n 162 [.ptr 0 0,.ptr 3 0] (zuj u L (.agg [.int .i64 k,.str nm,.sl 5 (T.ds kids),.sl 1 (nms.map .str),.int .i64 pl]))=zc (zc (zi m (D.agg [D.int .i64 k,D.str nm,D.sl 5 (T.ds kids),D.sl 1 (List.map D.str nms),D.int .i64 pl])) λ t=>zb (zg t) (some (yi t))) λ s=>zb (zy L.length L) (zb (zq L s) (some (Out.ret (V.tup []),[(0,Ob.val 1 (V.ptr 1 0)),(1,Ob.val 187695107 (V.agg [V.ptr 1 0,V.sl 6291457 (ze L s) 2,V.d (D.bool false)])),(2,Ob.tok (ze L s).length),(3,Ob.val 5 (V.d (D.agg [D.int .i64 k,D.str nm,D.sl 5 (T.ds kids),D.sl 1 (List.map D.str nms),D.int .i64 pl])))]))):=by cases u <;> kernel_rfl
theorem yfb(n m:Nat)(L:List D)(u:Bool)(k:Int)(nm:List UInt8)(kids:List T)(nms:List (List UInt8))(pl:Int):zn cx (KT m) n 216 [.ptr 0 0,.ptr 3 0] (zuj u L (.agg [.int .i64 k,.str nm,.sl 5 (T.ds kids),.sl 1 (nms.map .str),.int .i64 pl]))=zc (zc (zi m (D.agg [D.int .i64 k,D.str nm,D.sl 5 (T.ds kids),D.sl 1 (List.map D.str nms),D.int .i64 pl])) λ t=>zb (zg t) (some (zw t (1:Int)))) λ s=>zb (zy L.length L) (zb (zq L s) (some (Out.ret (V.tup []),[(0,Ob.val 1 (V.ptr 1 0)),(1,Ob.val 187695107 (V.agg [V.ptr 1 0,V.sl 6291457 (ze L s) 2,V.d (D.bool false)])),(2,Ob.tok (ze L s).length),(3,Ob.val 5 (V.d (D.agg [D.int .i64 k,D.str nm,D.sl 5 (T.ds kids),D.sl 1 (List.map D.str nms),D.int .i64 pl])))]))):=by cases u <;> kernel_rfl
theorem yhe(n m:Nat)(L:List D)(u:Bool)(k:Int)(nm:List UInt8)(kids:List T)(nms:List (List UInt8))(pl:Int)(s:List UInt8):zn cx (KT m) n 195 [.ptr 0 0,.d (.agg [.int .i64 k,.str nm,.sl 5 (T.ds kids),.sl 1 (nms.map .str),.int .i64 pl]),.d (.str s)] (psS u L)=zb (zy L.length L) (zb (zq L [40]) (zb (decide ((0:Int)<(↑(T.ds kids).length:Int))) (za (T.ds kids) (0:Int).toNat λ y=>za y.cells 0 λ c=>za y.cells 1 λ c_1=>za y.cells 2 λ c_2=>za y.cells 3 λ c_3=>za y.cells 4 λ c_4=>zc (zc (zi m (D.agg [c,c_1,c_2,c_3,c_4])) λ t=>zb (zg t) (some (zw t (0:Int)))) λ s_1=>zb (zy (ze L [40]).length (ze L [40])) (zb (zq (ze L [40]) s_1) (zb (zy (ze (ze L [40]) s_1).length (ze (ze L [40]) s_1)) (zb (zq (ze (ze L [40]) s_1) (s++[])) (zb (decide ((1:Int)<(↑(T.ds kids).length:Int))) (za (T.ds kids) (1:Int).toNat λ y=>za y.cells 0 λ c=>za y.cells 1 λ c_5=>za y.cells 2 λ c_6=>za y.cells 3 λ c_7=>za y.cells 4 λ c_8=>zc (zc (zi m (D.agg [c,c_5,c_6,c_7,c_8])) λ t=>zb (zg t) (some (zw t (0:Int)))) λ s_2=>zb (zy (ze (ze (ze L [40]) s_1) (s++[])).length (ze (ze (ze L [40]) s_1) (s++[]))) (zb (zq (ze (ze (ze L [40]) s_1) (s++[])) s_2) (zb (zy (ze (ze (ze (ze L [40]) s_1) (s++[])) s_2).length (ze (ze (ze (ze L [40]) s_1) (s++[])) s_2)) (zb (zq (ze (ze (ze (ze L [40]) s_1) (s++[])) s_2) [41]) (some (Out.ret (V.tup []),[(0,Ob.val 187695107 (V.agg [V.ptr 0 0,V.sl 6291457 (ze (ze (ze (ze (ze L [40]) s_1) (s++[])) s_2) [41]) 1,V.d (D.bool false)])),(1,Ob.tok (ze (ze (ze (ze (ze L [40]) s_1) (s++[])) s_2) [41]).length)]))))))))))))):=by cases u <;> kernel_rfl
theorem ye0(n m:Nat)(L:List D)(u:Bool)(k:Int)(nm:List UInt8)(kids:List T)(nms:List (List UInt8))(pl:Int)(b:Bool):zn cx (clK 162 zoa znv zuj (λ _ x=>z16 m x) K91) n 160 [.ptr 0 0,.d (.bool b),.func 162 [.ptr 2 0,.ptr 3 0]] (psB u L (.agg [.int .i64 k,.str nm,.sl 5 (T.ds kids),.sl 1 (nms.map .str),.int .i64 pl]))=bif b then zb (zy L.length L) (zb (zq L [40]) (zc (zc (zi m (D.agg [D.int .i64 k,D.str nm,D.sl 5 (T.ds kids),D.sl 1 (List.map D.str nms),D.int .i64 pl])) λ t=>zb (zg t) (some (yi t))) λ s=>zb (zy (ze L [40]).length (ze L [40])) (zb (zq (ze L [40]) s) (bif b then zb (zy (ze (ze L [40]) s).length (ze (ze L [40]) s)) (zb (zq (ze (ze L [40]) s) [41]) (some (Out.ret (V.tup []),[(0,Ob.val 187695107 (V.agg [V.ptr 0 0,V.sl 6291457 (ze (ze (ze L [40]) s) [41]) 1,V.d (D.bool false)])),(1,Ob.tok (ze (ze (ze L [40]) s) [41]).length),(2,Ob.val 1 (V.ptr 0 0)),(3,Ob.val 5 (V.d (D.agg [D.int .i64 k,D.str nm,D.sl 5 (T.ds kids),D.sl 1 (List.map D.str nms),D.int .i64 pl])))]))) else some (Out.ret (V.tup []),[(0,Ob.val 187695107 (V.agg [V.ptr 0 0,V.sl 6291457 (ze (ze L [40]) s) 1,V.d (D.bool false)])),(1,Ob.tok (ze (ze L [40]) s).length),(2,Ob.val 1 (V.ptr 0 0)),(3,Ob.val 5 (V.d (D.agg [D.int .i64 k,D.str nm,D.sl 5 (T.ds kids),D.sl 1 (List.map D.str nms),D.int .i64 pl])))]))))) else zc (zc (zi m (D.agg [D.int .i64 k,D.str nm,D.sl 5 (T.ds kids),D.sl 1 (List.map D.str nms),D.int .i64 pl])) λ t=>zb (zg t) (some (yi t))) λ s=>zb (zy L.length L) (zb (zq L s) (bif b then zb (zy (ze L s).length (ze L s)) (zb (zq (ze L s) [41]) (some (Out.ret (V.tup []),[(0,Ob.val 187695107 (V.agg [V.ptr 0 0,V.sl 6291457 (ze (ze L s) [41]) 1,V.d (D.bool false)])),(1,Ob.tok (ze (ze L s) [41]).length),(2,Ob.val 1 (V.ptr 0 0)),(3,Ob.val 5 (V.d (D.agg [D.int .i64 k,D.str nm,D.sl 5 (T.ds kids),D.sl 1 (List.map D.str nms),D.int .i64 pl])))]))) else some (Out.ret (V.tup []),[(0,Ob.val 187695107 (V.agg [V.ptr 0 0,V.sl 6291457 (ze L s) 1,V.d (D.bool false)])),(1,Ob.tok (ze L s).length),(2,Ob.val 1 (V.ptr 0 0)),(3,Ob.val 5 (V.d (D.agg [D.int .i64 k,D.str nm,D.sl 5 (T.ds kids),D.sl 1 (List.map D.str nms),D.int .i64 pl])))]))):=by cases u <;> kernel_rfl
theorem yez(n m:Nat)(L:List D)(u:Bool)(k:Int)(nm:List UInt8)(kids:List T)(nms:List (List UInt8))(pl:Int)(b:Bool):zn cx (clK 216 zoa znv zuj (λ _ x=>z4x m (x,1)) K91) n 160 [.ptr 0 0,.d (.bool b),.func 216 [.ptr 2 0,.ptr 3 0]] (psB u L (.agg [.int .i64 k,.str nm,.sl 5 (T.ds kids),.sl 1 (nms.map .str),.int .i64 pl]))=bif b then zb (zy L.length L) (zb (zq L [40]) (zc (zc (zi m (D.agg [D.int .i64 k,D.str nm,D.sl 5 (T.ds kids),D.sl 1 (List.map D.str nms),D.int .i64 pl])) λ t=>zb (zg t) (some (zw t 1))) λ s=>zb (zy (ze L [40]).length (ze L [40])) (zb (zq (ze L [40]) s) (bif b then zb (zy (ze (ze L [40]) s).length (ze (ze L [40]) s)) (zb (zq (ze (ze L [40]) s) [41]) (some (Out.ret (V.tup []),[(0,Ob.val 187695107 (V.agg [V.ptr 0 0,V.sl 6291457 (ze (ze (ze L [40]) s) [41]) 1,V.d (D.bool false)])),(1,Ob.tok (ze (ze (ze L [40]) s) [41]).length),(2,Ob.val 1 (V.ptr 0 0)),(3,Ob.val 5 (V.d (D.agg [D.int .i64 k,D.str nm,D.sl 5 (T.ds kids),D.sl 1 (List.map D.str nms),D.int .i64 pl])))]))) else some (Out.ret (V.tup []),[(0,Ob.val 187695107 (V.agg [V.ptr 0 0,V.sl 6291457 (ze (ze L [40]) s) 1,V.d (D.bool false)])),(1,Ob.tok (ze (ze L [40]) s).length),(2,Ob.val 1 (V.ptr 0 0)),(3,Ob.val 5 (V.d (D.agg [D.int .i64 k,D.str nm,D.sl 5 (T.ds kids),D.sl 1 (List.map D.str nms),D.int .i64 pl])))]))))) else zc (zc (zi m (D.agg [D.int .i64 k,D.str nm,D.sl 5 (T.ds kids),D.sl 1 (List.map D.str nms),D.int .i64 pl])) λ t=>zb (zg t) (some (zw t 1))) λ s=>zb (zy L.length L) (zb (zq L s) (bif b then zb (zy (ze L s).length (ze L s)) (zb (zq (ze L s) [41]) (some (Out.ret (V.tup []),[(0,Ob.val 187695107 (V.agg [V.ptr 0 0,V.sl 6291457 (ze (ze L s) [41]) 1,V.d (D.bool false)])),(1,Ob.tok (ze (ze L s) [41]).length),(2,Ob.val 1 (V.ptr 0 0)),(3,Ob.val 5 (V.d (D.agg [D.int .i64 k,D.str nm,D.sl 5 (T.ds kids),D.sl 1 (List.map D.str nms),D.int .i64 pl])))]))) else some (Out.ret (V.tup []),[(0,Ob.val 187695107 (V.agg [V.ptr 0 0,V.sl 6291457 (ze L s) 1,V.d (D.bool false)])),(1,Ob.tok (ze L s).length),(2,Ob.val 1 (V.ptr 0 0)),(3,Ob.val 5 (V.d (D.agg [D.int .i64 k,D.str nm,D.sl 5 (T.ds kids),D.sl 1 (List.map D.str nms),D.int .i64 pl])))]))):=by cases u <;> kernel_rfl
theorem yey(n m:Nat)(L:List D)(u:Bool)(k:Int)(nm:List UInt8)(kids:List T)(nms:List (List UInt8))(pl:Int)(b:Bool):zn cx (clK 218 zqo zo9 zgo (λ _ x=>z0r m x) K91) n 160 [.ptr 0 0,.d (.bool b),.func 218 [.ptr 2 0,.ptr 3 0]] (psF u L (.agg [.int .i64 k,.str nm,.sl 5 (T.ds kids),.sl 1 (nms.map .str),.int .i64 pl]))=bif b then zb (zy L.length L) (zb (zq L [40]) (zc (zc (zi m (D.agg [D.int .i64 k,D.str nm,D.sl 5 (T.ds kids),D.sl 1 (List.map D.str nms),D.int .i64 pl])) λ t=>zb (zz t) (some (xy t))) λ s=>zb (zy (ze L [40]).length (ze L [40])) (zb (zq (ze L [40]) s) (bif b then zb (zy (ze (ze L [40]) s).length (ze (ze L [40]) s)) (zb (zq (ze (ze L [40]) s) [41]) (some (Out.ret (V.tup []),[(0,Ob.val 187695107 (V.agg [V.ptr 0 0,V.sl 6291457 (ze (ze (ze L [40]) s) [41]) 1,V.d (D.bool false)])),(1,Ob.tok (ze (ze (ze L [40]) s) [41]).length),(2,Ob.val 5 (V.d (D.agg [D.int .i64 k,D.str nm,D.sl 5 (T.ds kids),D.sl 1 (List.map D.str nms),D.int .i64 pl]))),(3,Ob.val 1 (V.ptr 0 0))]))) else some (Out.ret (V.tup []),[(0,Ob.val 187695107 (V.agg [V.ptr 0 0,V.sl 6291457 (ze (ze L [40]) s) 1,V.d (D.bool false)])),(1,Ob.tok (ze (ze L [40]) s).length),(2,Ob.val 5 (V.d (D.agg [D.int .i64 k,D.str nm,D.sl 5 (T.ds kids),D.sl 1 (List.map D.str nms),D.int .i64 pl]))),(3,Ob.val 1 (V.ptr 0 0))]))))) else zc (zc (zi m (D.agg [D.int .i64 k,D.str nm,D.sl 5 (T.ds kids),D.sl 1 (List.map D.str nms),D.int .i64 pl])) λ t=>zb (zz t) (some (xy t))) λ s=>zb (zy L.length L) (zb (zq L s) (bif b then zb (zy (ze L s).length (ze L s)) (zb (zq (ze L s) [41]) (some (Out.ret (V.tup []),[(0,Ob.val 187695107 (V.agg [V.ptr 0 0,V.sl 6291457 (ze (ze L s) [41]) 1,V.d (D.bool false)])),(1,Ob.tok (ze (ze L s) [41]).length),(2,Ob.val 5 (V.d (D.agg [D.int .i64 k,D.str nm,D.sl 5 (T.ds kids),D.sl 1 (List.map D.str nms),D.int .i64 pl]))),(3,Ob.val 1 (V.ptr 0 0))]))) else some (Out.ret (V.tup []),[(0,Ob.val 187695107 (V.agg [V.ptr 0 0,V.sl 6291457 (ze L s) 1,V.d (D.bool false)])),(1,Ob.tok (ze L s).length),(2,Ob.val 5 (V.d (D.agg [D.int .i64 k,D.str nm,D.sl 5 (T.ds kids),D.sl 1 (List.map D.str nms),D.int .i64 pl]))),(3,Ob.val 1 (V.ptr 0 0))]))):=by cases u <;> kernel_rfl
theorem yhf(n m:Nat)(L:List D)(u:Bool)(k:Int)(nm:List UInt8)(kids:List T)(nms:List (List UInt8))(pl a:Int):zn cx (ygl m) n 194 [.ptr 0 0,.d (.agg [.int .i64 k,.str nm,.sl 5 (T.ds kids),.sl 1 (nms.map .str),.int .i64 pl]),.d (.int .i64 a)] (psS u L)=zc (zc (zc (zi m (D.agg [D.int .i64 k,D.str nm,D.sl 5 (T.ds kids),D.sl 1 (List.map D.str nms),D.int .i64 pl])) λ t=>zb (zz t) (some (xy t))) λ s=>some (yb (decide (xw k<a)) s)) λ s=>zb (zy L.length L) (zb (zq L s) (some (Out.ret (V.tup []),[(0,Ob.val 187695107 (V.agg [V.ptr 0 0,V.sl 6291457 (ze L s) 1,V.d (D.bool false)])),(1,Ob.tok (ze L s).length)]))):=by cases u <;> kernel_rfl
theorem yho(n m:Nat)(L:List D)(u:Bool)(k:Int)(nm:List UInt8)(kids:List T)(nms:List (List UInt8))(pl a:Int):zn cx (K70 m) n 128 [.ptr 0 0,.d (.agg [.int .i64 k,.str nm,.sl 5 (T.ds kids),.sl 1 (nms.map .str),.int .i64 pl]),.d (.int .i64 a)] (psS u L)=zc (zr (D.agg [D.int .i64 k,D.str nm,D.sl 5 (T.ds kids),D.sl 1 (List.map D.str nms),D.int .i64 pl])) λ b=>zc (zc (zc (zi m (D.agg [D.int .i64 k,D.str nm,D.sl 5 (T.ds kids),D.sl 1 (List.map D.str nms),D.int .i64 pl])) λ t=>zb (zg t) (some (yi t))) λ s=>some (yb (decide (y5 b.k<a)) s)) λ s=>zb (zy L.length L) (zb (zq L s) (some (Out.ret (V.tup []),[(0,Ob.val 187695107 (V.agg [V.ptr 0 0,V.sl 6291457 (ze L s) 1,V.d (D.bool false)])),(1,Ob.tok (ze L s).length)]))):=by cases u <;> kernel_rfl
theorem yhg(n m:Nat)(L:List D)(u:Bool)(k:Int)(nm:List UInt8)(kids:List T)(nms:List (List UInt8))(pl:Int)(s:List UInt8):zn cx (ygm m) n 193 [.ptr 0 0,.d (.agg [.int .i64 k,.str nm,.sl 5 (T.ds kids),.sl 1 (nms.map .str),.int .i64 pl]),.d (.str s)] (psS u L)=zb (decide ((0:Int)<(↑(T.ds kids).length:Int))) (za (T.ds kids) (0:Int).toNat λ y=>za y.cells 0 λ c=>za y.cells 1 λ c_1=>za y.cells 2 λ c_2=>za y.cells 3 λ c_3=>za y.cells 4 λ c_4=>bif decide ((↑(List.map D.str nms).length:Int)=(1:Int)) then zb (decide ((0:Int)<(↑(List.map D.str nms).length:Int))) (za (List.map D.str nms) (0:Int).toNat λ y=>za y.cells 0 λ c_5=>match c_5 with
 | D.str s_1=>zb (zy L.length L) (zb (zq L (40::(s_1++([32,58,32]++[])))) (zc (zc (zi m (D.agg [c,c_1,c_2,c_3,c_4])) λ t=>zb (zg t) (some (zw t (0:Int)))) λ s_2=>zb (zy (ze L (40::(s_1++([32,58,32]++[])))).length (ze L (40::(s_1++([32,58,32]++[]))))) (zb (zq (ze L (40::(s_1++([32,58,32]++[])))) s_2) (zb (zy (ze (ze L (40::(s_1++([32,58,32]++[])))) s_2).length (ze (ze L (40::(s_1++([32,58,32]++[])))) s_2)) (zb (zq (ze (ze L (40::(s_1++([32,58,32]++[])))) s_2) [41]) (zb (zy (ze (ze (ze L (40::(s_1++([32,58,32]++[])))) s_2) [41]).length (ze (ze (ze L (40::(s_1++([32,58,32]++[])))) s_2) [41])) (zb (zq (ze (ze (ze L (40::(s_1++([32,58,32]++[])))) s_2) [41]) (s++[])) (zb (decide ((1:Int)<(↑(T.ds kids).length:Int))) (za (T.ds kids) (1:Int).toNat λ y=>za y.cells 0 λ c=>za y.cells 1 λ c_6=>za y.cells 2 λ c_7=>za y.cells 3 λ c_8=>za y.cells 4 λ c_9=>zc (zc (zi m (D.agg [c,c_6,c_7,c_8,c_9])) λ t=>zb (zg t) (some (zw t (0:Int)))) λ s_3=>zb (zy (ze (ze (ze (ze L (40::(s_1++([32,58,32]++[])))) s_2) [41]) (s++[])).length (ze (ze (ze (ze L (40::(s_1++([32,58,32]++[])))) s_2) [41]) (s++[]))) (zb (zq (ze (ze (ze (ze L (40::(s_1++([32,58,32]++[])))) s_2) [41]) (s++[])) s_3) (some (Out.ret (V.tup []),[(0,Ob.val 187695107 (V.agg [V.ptr 0 0,V.sl 6291457 (ze (ze (ze (ze (ze L (40::(s_1++([32,58,32]++[])))) s_2) [41]) (s++[])) s_3) 1,V.d (D.bool false)])),(1,Ob.tok (ze (ze (ze (ze (ze L (40::(s_1++([32,58,32]++[])))) s_2) [41]) (s++[])) s_3).length)]))))))))))))
 | x=>none) else match c with
 | D.int k' n=>bif decide (k'=IntKind.i64) then bif decide (n=(9:Int)) then match c_2 with
  | D.sl s_1 l=>bif s_1.beq (cx.P.cellsOf 26)||l.isEmpty then zb (decide ((0:Int)<(↑l.length:Int))) (za l (0:Int).toNat λ y=>za y.cells 0 λ c_5=>match c_5 with
   | D.int k' n=>bif decide (k'=IntKind.i64) then zc (zc (zc (zi m (D.agg [c,c_1,c_2,c_3,c_4])) λ t=>zb (zg t) (some (zw t 1))) λ s=>some (yb (decide (n=(1:Int))) s)) λ s_2=>zb (zy L.length L) (zb (zq L s_2) (zb (zy (ze L s_2).length (ze L s_2)) (zb (zq (ze L s_2) (s++[])) (zb (decide ((1:Int)<(↑(T.ds kids).length:Int))) (za (T.ds kids) (1:Int).toNat λ y=>za y.cells 0 λ c=>za y.cells 1 λ c_6=>za y.cells 2 λ c_7=>za y.cells 3 λ c_8=>za y.cells 4 λ c_9=>zc (zc (zi m (D.agg [c,c_6,c_7,c_8,c_9])) λ t=>zb (zg t) (some (zw t (0:Int)))) λ s_3=>zb (zy (ze (ze L s_2) (s++[])).length (ze (ze L s_2) (s++[]))) (zb (zq (ze (ze L s_2) (s++[])) s_3) (some (Out.ret (V.tup []),[(0,Ob.val 187695107 (V.agg [V.ptr 0 0,V.sl 6291457 (ze (ze (ze L s_2) (s++[])) s_3) 1,V.d (D.bool false)])),(1,Ob.tok (ze (ze (ze L s_2) (s++[])) s_3).length)])))))))) else none
   | x=>none) else none
  | x=>none else zc (zc (zc (zi m (D.agg [c,c_1,c_2,c_3,c_4])) λ t=>zb (zg t) (some (zw t 1))) λ s=>some s) λ s_1=>zb (zy L.length L) (zb (zq L s_1) (zb (zy (ze L s_1).length (ze L s_1)) (zb (zq (ze L s_1) (s++[])) (zb (decide ((1:Int)<(↑(T.ds kids).length:Int))) (za (T.ds kids) (1:Int).toNat λ y=>za y.cells 0 λ c=>za y.cells 1 λ c_5=>za y.cells 2 λ c_6=>za y.cells 3 λ c_7=>za y.cells 4 λ c_8=>zc (zc (zi m (D.agg [c,c_5,c_6,c_7,c_8])) λ t=>zb (zg t) (some (zw t (0:Int)))) λ s_2=>zb (zy (ze (ze L s_1) (s++[])).length (ze (ze L s_1) (s++[]))) (zb (zq (ze (ze L s_1) (s++[])) s_2) (some (Out.ret (V.tup []),[(0,Ob.val 187695107 (V.agg [V.ptr 0 0,V.sl 6291457 (ze (ze (ze L s_1) (s++[])) s_2) 1,V.d (D.bool false)])),(1,Ob.tok (ze (ze (ze L s_1) (s++[])) s_2).length)])))))))) else none
 | x=>none):=by cases u <;> kernel_rfl
theorem yb0(n m:Nat)(L:List D)(u:Bool)(nm:List UInt8)(kids:List T)(nms:List (List UInt8))(pl:Int):zn cx (K71 m) n 163 [.ptr 0 0,.d (.agg [.int .i64 1,.str nm,.sl 5 (T.ds kids),.sl 1 (nms.map .str),.int .i64 pl])] (psS u L)=zb (zy L.length L) (zb (zq L (nm++[])) (some (Out.ret (V.tup []),[(0,Ob.val 187695107 (V.agg [V.ptr 0 0,V.sl 6291457 (ze L (nm++[])) 1,V.d (D.bool false)])),(1,Ob.tok (ze L (nm++[])).length)]))):=by cases u <;> kernel_rfl
theorem ybz(n m:Nat)(L:List D)(u:Bool)(nm:List UInt8)(kids:List T)(nms:List (List UInt8))(pl:Int):zn cx (K71 m) n 163 [.ptr 0 0,.d (.agg [.int .i64 2,.str nm,.sl 5 (T.ds kids),.sl 1 (nms.map .str),.int .i64 pl])] (psS u L)=zc (zdm (D.sl 1 (List.map D.str nms),[32])) λ b=>zb (zy L.length L) (zb (zq L (92::(ya b.fst b.snd++([46,32]++[])))) (zb (decide ((0:Int)<(↑(T.ds kids).length:Int))) (za (T.ds kids) (0:Int).toNat λ y=>za y.cells 0 λ c=>za y.cells 1 λ c_1=>za y.cells 2 λ c_2=>za y.cells 3 λ c_3=>za y.cells 4 λ c_4=>zc (zc (zi m (D.agg [c,c_1,c_2,c_3,c_4])) λ t=>zb (zg t) (some (zw t (0:Int)))) λ s=>zb (zy (ze L (92::(ya b.fst b.snd++([46,32]++[])))).length (ze L (92::(ya b.fst b.snd++([46,32]++[]))))) (zb (zq (ze L (92::(ya b.fst b.snd++([46,32]++[])))) s) (some (Out.ret (V.tup []),[(0,Ob.val 187695107 (V.agg [V.ptr 0 0,V.sl 6291457 (ze (ze L (92::(ya b.fst b.snd++([46,32]++[])))) s) 1,V.d (D.bool false)])),(1,Ob.tok (ze (ze L (92::(ya b.fst b.snd++([46,32]++[])))) s).length)])))))):=by cases u <;> kernel_rfl
theorem yby(n m:Nat)(L:List D)(u:Bool)(nm:List UInt8)(kids:List T)(nms:List (List UInt8))(pl:Int):zn cx (K71 m) n 163 [.ptr 0 0,.d (.agg [.int .i64 3,.str nm,.sl 5 (T.ds kids),.sl 1 (nms.map .str),.int .i64 pl])] (psS u L)=zc (zdm (D.sl 1 (List.map D.str nms),[32])) λ b=>zb (zy L.length L) (zb (zq L (60::(ya b.fst b.snd++([62,32]++[])))) (zb (decide ((0:Int)<(↑(T.ds kids).length:Int))) (za (T.ds kids) (0:Int).toNat λ y=>za y.cells 0 λ c=>za y.cells 1 λ c_1=>za y.cells 2 λ c_2=>za y.cells 3 λ c_3=>za y.cells 4 λ c_4=>zc (zc (zi m (D.agg [c,c_1,c_2,c_3,c_4])) λ t=>zb (zg t) (some (zw t (0:Int)))) λ s=>zb (zy (ze L (60::(ya b.fst b.snd++([62,32]++[])))).length (ze L (60::(ya b.fst b.snd++([62,32]++[]))))) (zb (zq (ze L (60::(ya b.fst b.snd++([62,32]++[])))) s) (some (Out.ret (V.tup []),[(0,Ob.val 187695107 (V.agg [V.ptr 0 0,V.sl 6291457 (ze (ze L (60::(ya b.fst b.snd++([62,32]++[])))) s) 1,V.d (D.bool false)])),(1,Ob.tok (ze (ze L (60::(ya b.fst b.snd++([62,32]++[])))) s).length)])))))):=by cases u <;> kernel_rfl
theorem ybx(n m:Nat)(L:List D)(u:Bool)(nm:List UInt8)(kids:List T)(nms:List (List UInt8))(pl:Int):zn cx (K71 m) n 163 [.ptr 0 0,.d (.agg [.int .i64 4,.str nm,.sl 5 (T.ds kids),.sl 1 (nms.map .str),.int .i64 pl])] (psS u L)=zc (zc (zi (m+1) (D.agg [D.int .i64 (4:Int),D.str nm,D.sl 5 (T.ds kids),D.sl 1 (List.map D.str nms),D.int .i64 pl])) λ t=>zb (ze3 t) (some (zfu t [32,45,62,32]))) λ s=>zb (zy L.length L) (zb (zq L s) (some (Out.ret (V.tup []),[(0,Ob.val 187695107 (V.agg [V.ptr 0 0,V.sl 6291457 (ze L s) 1,V.d (D.bool false)])),(1,Ob.tok (ze L s).length)]))):=by cases u <;> kernel_rfl
theorem ybw(n m:Nat)(L:List D)(u:Bool)(nm:List UInt8)(kids:List T)(nms:List (List UInt8))(pl:Int):zn cx (K71 m) n 163 [.ptr 0 0,.d (.agg [.int .i64 5,.str nm,.sl 5 (T.ds kids),.sl 1 (nms.map .str),.int .i64 pl])] (psS u L)=zc (zc (zi (m+1) (D.agg [D.int .i64 (5:Int),D.str nm,D.sl 5 (T.ds kids),D.sl 1 (List.map D.str nms),D.int .i64 pl])) λ t=>zb (ze3 t) (some (zfu t [32,42,32]))) λ s=>zb (zy L.length L) (zb (zq L s) (some (Out.ret (V.tup []),[(0,Ob.val 187695107 (V.agg [V.ptr 0 0,V.sl 6291457 (ze L s) 1,V.d (D.bool false)])),(1,Ob.tok (ze L s).length)]))):=by cases u <;> kernel_rfl
theorem ybv(n m:Nat)(L:List D)(u:Bool)(nm:List UInt8)(kids:List T)(nms:List (List UInt8))(pl:Int):zn cx (K71 m) n 163 [.ptr 0 0,.d (.agg [.int .i64 6,.str nm,.sl 5 (T.ds kids),.sl 1 (nms.map .str),.int .i64 pl])] (psS u L)=zb (decide ((0:Int)<(↑(T.ds kids).length:Int))) (za (T.ds kids) (0:Int).toNat λ y=>za y.cells 0 λ c=>za y.cells 1 λ c_1=>za y.cells 2 λ c_2=>za y.cells 3 λ c_3=>za y.cells 4 λ c_4=>zc (zc (zi m (D.agg [c,c_1,c_2,c_3,c_4])) λ t=>zb (zg t) (some (zw t (1:Int)))) λ s=>zb (zy L.length L) (zb (zq L s) (zb (zy (ze L s).length (ze L s)) (zb (zq (ze L s) [32]) (zb (decide ((1:Int)<(↑(T.ds kids).length:Int))) (za (T.ds kids) (1:Int).toNat λ y=>za y.cells 0 λ c=>za y.cells 1 λ c_5=>za y.cells 2 λ c_6=>za y.cells 3 λ c_7=>za y.cells 4 λ c_8=>zc (zc (zi m (D.agg [c,c_5,c_6,c_7,c_8])) λ t=>zb (zg t) (some (zw t (2:Int)))) λ s_1=>zb (zy (ze (ze L s) [32]).length (ze (ze L s) [32])) (zb (zq (ze (ze L s) [32]) s_1) (some (Out.ret (V.tup []),[(0,Ob.val 187695107 (V.agg [V.ptr 0 0,V.sl 6291457 (ze (ze (ze L s) [32]) s_1) 1,V.d (D.bool false)])),(1,Ob.tok (ze (ze (ze L s) [32]) s_1).length)]))))))))):=by cases u <;> kernel_rfl
theorem ybu(n m:Nat)(L:List D)(u:Bool)(nm:List UInt8)(kids:List T)(nms:List (List UInt8))(pl:Int):zn cx (K71 m) n 163 [.ptr 0 0,.d (.agg [.int .i64 7,.str nm,.sl 5 (T.ds kids),.sl 1 (nms.map .str),.int .i64 pl])] (psS u L)=zb (decide ((0:Int)<(↑(T.ds kids).length:Int))) (za (T.ds kids) (0:Int).toNat λ y=>za y.cells 0 λ c=>za y.cells 1 λ c_1=>za y.cells 2 λ c_2=>za y.cells 3 λ c_3=>za y.cells 4 λ c_4=>zc (zc (zi m (D.agg [c,c_1,c_2,c_3,c_4])) λ t=>zb (zg t) (some (zw t (1:Int)))) λ s=>zb (zy L.length L) (zb (zq L s) (zb (zy (ze L s).length (ze L s)) (zb (zq (ze L s) [32,64,32]) (zb (decide ((1:Int)<(↑(T.ds kids).length:Int))) (za (T.ds kids) (1:Int).toNat λ y=>za y.cells 0 λ c=>za y.cells 1 λ c_5=>za y.cells 2 λ c_6=>za y.cells 3 λ c_7=>za y.cells 4 λ c_8=>zc (zc (zr (D.agg [c,c_5,c_6,c_7,c_8])) λ t=>zb (zz t) (some (vt t (2:Int)))) λ s_1=>zb (zy (ze (ze L s) [32,64,32]).length (ze (ze L s) [32,64,32])) (zb (zq (ze (ze L s) [32,64,32]) s_1) (some (Out.ret (V.tup []),[(0,Ob.val 187695107 (V.agg [V.ptr 0 0,V.sl 6291457 (ze (ze (ze L s) [32,64,32]) s_1) 1,V.d (D.bool false)])),(1,Ob.tok (ze (ze (ze L s) [32,64,32]) s_1).length)]))))))))):=by cases u <;> kernel_rfl
theorem ybt(n m:Nat)(L:List D)(u:Bool)(nm:List UInt8)(kids:List T)(nms:List (List UInt8))(pl:Int):zn cx (K71 m) n 163 [.ptr 0 0,.d (.agg [.int .i64 8,.str nm,.sl 5 (T.ds kids),.sl 1 (nms.map .str),.int .i64 pl])] (psS u L)=zc (zc (zi (m+1) (D.agg [D.int .i64 (8:Int),D.str nm,D.sl 5 (T.ds kids),D.sl 1 (List.map D.str nms),D.int .i64 pl])) λ t=>zb (ze2 t) (some (zfq t [44,32]))) λ s=>zb (zy L.length L) (zb (zq L s) (some (Out.ret (V.tup []),[(0,Ob.val 187695107 (V.agg [V.ptr 0 0,V.sl 6291457 (ze L s) 1,V.d (D.bool false)])),(1,Ob.tok (ze L s).length)]))):=by cases u <;> kernel_rfl
theorem ybs(n m:Nat)(L:List D)(u:Bool)(nm:List UInt8)(kids:List T)(nms:List (List UInt8))(pl:Int):zn cx (K71 m) n 163 [.ptr 0 0,.d (.agg [.int .i64 9,.str nm,.sl 5 (T.ds kids),.sl 1 (nms.map .str),.int .i64 pl])] (psS u L)=zc (zc (zi (m+1) (D.agg [D.int .i64 (9:Int),D.str nm,D.sl 5 (T.ds kids),D.sl 1 (List.map D.str nms),D.int .i64 pl])) λ t=>zb (ze2 t) (some (zfq t [32,58,32]))) λ s=>zb (zy L.length L) (zb (zq L s) (some (Out.ret (V.tup []),[(0,Ob.val 187695107 (V.agg [V.ptr 0 0,V.sl 6291457 (ze L s) 1,V.d (D.bool false)])),(1,Ob.tok (ze L s).length)]))):=by cases u <;> kernel_rfl
theorem z8r(n m:Nat)(L:List D)(u:Bool)(nm:List UInt8)(kids:List T)(nms:List (List UInt8))(pl:Int):zn cx (K71 m) n 163 [.ptr 0 0,.d (.agg [.int .i64 10,.str nm,.sl 5 (T.ds kids),.sl 1 (nms.map .str),.int .i64 pl])] (psS u L)=zc (zc (zi (m+1) (D.agg [D.int .i64 (10:Int),D.str nm,D.sl 5 (T.ds kids),D.sl 1 (List.map D.str nms),D.int .i64 pl])) λ t=>zb (zcn t) (some (zd6 t))) λ s=>zb (zy L.length L) (zb (zq L s) (some (Out.ret (V.tup []),[(0,Ob.val 187695107 (V.agg [V.ptr 0 0,V.sl 6291457 (ze L s) 1,V.d (D.bool false)])),(1,Ob.tok (ze L s).length)]))):=by cases u <;> kernel_rfl
theorem vl{L:List D}{s:List UInt8}(h:L.length+s.length≤65536):zq L s=true:=pa h
theorem room_le{L:List D}{s:List UInt8}(h:zq L s=true):L.length+s.length≤65536:=pc h
theorem zdt{k:Int}{nm:List UInt8}{kids:List T}{nms:List (List UInt8)}{pl:Int}(h:zg (.mk k nm kids nms pl)=true)(hk:k=4∨k=5∨k=6∨k=8∨k=9) :
  ∃ a b,kids=[a,b]∧zg a=true∧zg b=true:=by
 rcases kids with _ | ⟨a,_ | ⟨b,_ | ⟨c,l⟩⟩⟩ <;> rcases hk with rfl | rfl | rfl | rfl | rfl <;> simp [zg] at h ⊢
 all_goals exact ⟨a,b,⟨rfl,rfl⟩,h.2.1.2,h.2.2⟩
theorem ydd{m:Nat}(hm:knows cx (KT m).S (zj cx)){u:Bool}{L:List D}{t:T}{s:List UInt8}(hd:t.depth≤m+1)(ho:t.ok=true)(hi:ze2 t=true)(hr:zq L (zfq t s)=true) :
  zj cx 195 [.ptr 0 0,.d t.d,.d (.str s)] (psS u L)=some (.ret (.tup []),psS true (ze L (zfq t s))):=by
 obtain ⟨k,nm,kids,nms,pl⟩:=t;obtain ⟨h1,h2,h3,h4,h5⟩:=vo ho;have hkd:=qk hd;simp only [ze2,zm9,pm,Bool.or_eq_true] at hi;obtain ⟨a,b,rfl,ha,hb⟩:=zdt hi.1 (by rcases hi.2 with h | h <;> have:=pc h <;> omega)
 have hT:∀ t∈[a,b],zi m t.d=some t:=λ t h=>zay hkd h5 h;have hlen:=room_le hr;simp only [zfq,zax,xd [a,b] 0 0 a rfl,xd [a,b] 0 1 b rfl,pe,py,pz] at hlen;refine zm hm (N:=0) ?_;refine (yhe 0 m L u k nm [a,b] nms pl s).trans ?_;simp only [zfq,zax,xd [a,b] 0 0 a rfl,xd [a,b] 0 1 b rfl];have e0:decide ((0:Int)<((T.ds [a,b]).length:Int))=true:=by rw [zu]; rfl
 have e1:decide ((1:Int)<((T.ds [a,b]).length:Int))=true:=by rw [zu]; rfl
 have n0:[a,b][(0:Int).toNat]?=some a:=rfl;have n1:[a,b][(1:Int).toNat]?=some b:=rfl;simp only [e0,e1,yh,n0,n1,yk,xu,vk,vj,vi,vh,we,hT a (by simp),hT b (by simp),zc,zb,pw,yo,ha,hb]
 simp (disch:=(simp only [w0,pe,py,pz]; omega)) only [vl,pw];simp [wh,psS,adV]
theorem ydo(t:T)(h:t.ok=true):zj cx 161 [.d t.d] []=some (.ret (mkI (y5 t.k)),[]):=by
 obtain ⟨k,nm,kids,nms,pl⟩:=t;refine zm zp (N:=0) ?_;refine (g69 0 k nm kids nms pl).trans ?_;simp only [zm9,mkI,y5];have hk:k=2∨k=3∨k=4∨k=5∨k=6∨k=7∨(k ≠ 2∧k ≠ 3∧k ≠ 4∧k ≠ 5∧k ≠ 6∧k ≠ 7):=by omega
 rcases hk with rfl | rfl | rfl | rfl | rfl | rfl | ⟨q1,q2,q3,q4,q5,q6⟩ <;> simp [*]
theorem ya7(k:Int):zj cx 217 [.d (.int .i64 k)] []=some (.ret (mkI (xw k)),[]):=by
 refine zm zp (N:=0) ?_;refine (yhq 0 k).trans ?_;simp only [mkI,xw];cases decide (k=14) <;> cases decide (k=15) <;> rfl
theorem zc3:knows cx K91.S (zj cx):=by
 have h107:=zk (f:=217) (dec:=z6s) (sp:=some) (mk:=λ k=>mkI (xw k)) z3s λ a q b hd h hb=>by
  cases hb;unfold z6s at h;split at h
  ·cases h; exact ya7 _
  ·cases h
 exact zk h107 λ a q b hd h hb=>by
  obtain rfl:=wu h;obtain ⟨rfl,h1⟩:=wv hb;exact ydo b h1
theorem ztl{k:Int}{nm:List UInt8}{kids:List T}{nms:List (List UInt8)}{pl:Int}(h:zz (.mk k nm kids nms pl)=true) :
  (kids=[]∧(k=1∨k=17))∨(∃ a,kids=[a]∧k=16∧zz a=true)∨(∃ a b,kids=[a,b]∧(k=14∨k=15)∧zz a=true∧zz b=true):=by
 rcases kids with _ | ⟨a,_ | ⟨b,_ | ⟨c,l⟩⟩⟩ <;> simp [zz] at h ⊢
 ·rcases h.2 with h | h <;> simp [h.1]
 ·exact ⟨h.1.1.1,h.2⟩
 ·exact ⟨a,b,⟨rfl,rfl⟩,h.1.1.1.1,h.1.2,h.2⟩
theorem ya6{m:Nat}(hm:knows cx (KM m).S (zj cx)){u:Bool}{L:List D}{t:T}(hd:t.depth≤m+1)(ho:t.ok=true)(hi:zz t=true)(hr:zq L (xy t)=true) :
  zj cx 218 [.ptr 0 0,.ptr 1 0] (zgo u L t.d)=some (.ret (.tup []),zgo true (ze L (xy t)) t.d):=by
 obtain ⟨k,nm,kids,nms,pl⟩:=t;obtain ⟨h1,h2,h3,h4,h5⟩:=vo ho;have hkd:=qk hd;have hT:∀ t∈kids,zi m t.d=some t:=λ t h=>zay hkd h5 h;have hlen:=room_le hr;refine zm hm (N:=0) ?_;refine (yfa 0 m L u k nm kids nms pl).trans ?_;rcases ztl hi with ⟨rfl,hk⟩ | ⟨a,rfl,rfl,ha⟩ | ⟨a,b,rfl,hk,ha,hb⟩
 ·have e:xy (.mk k nm [] nms pl)=nm:=by rcases hk with rfl | rfl <;> simp [xy]
  rw [e] at hlen ⊢;rw [pb (p:=k=16) (by omega),pb (p:=k=15) (by omega),pb (p:=k=14) (by omega)]
  simp only [px,yo,zb,pw,List.append_nil];rw [vl hlen];simp [zgo,T.d,T.ds]
 ·have e:xy (.mk 16 nm [a] nms pl)=[126]++vt a 2:=by simp [xy,←zfm [a] 2 0 a rfl]
  rw [e] at hlen ⊢;simp only [pe,py,pz] at hlen;have e0:decide ((0:Int)<((T.ds [a]).length:Int))=true:=by rw [zu]; rfl
  have n0:[a][(0:Int).toNat]?=some a:=rfl;simp only [decide_true,e0,yh,n0,yk,xu,vk,vj,vi,vh,we,hT a (by simp),zc,zb,pw,yo,ha]
  simp (disch:=((try simp only [w0,pe,py,pz]); omega)) only [vl,pw]
  simp [wh,zgo,T.d]
 ·have e0:decide ((0:Int)<((T.ds [a,b]).length:Int))=true:=by rw [zu]; rfl
  have e1:decide ((1:Int)<((T.ds [a,b]).length:Int))=true:=by rw [zu]; rfl
  have n0:[a,b][(0:Int).toNat]?=some a:=rfl;have n1:[a,b][(1:Int).toNat]?=some b:=rfl;rcases hk with rfl | rfl
  ·have e:xy (.mk 14 nm [a,b] nms pl)=vt a 0++[32,92,47,32]++vt b 1:=by simp [xy,←zfm [a,b] 0 0 a rfl,←zfm [a,b] 1 1 b rfl]
   rw [e] at hlen ⊢;simp only [pe,py,pz] at hlen;simp only [Int.reduceEq,decide_false,px,decide_true,e0,e1,yh,n0,n1,yk,xu,vk,vj,vi,vh,we,hT a (by simp),hT b (by simp),zc,zb,pw,yo,ha,hb]
   simp (disch:=((try simp only [w0,pe,py,pz]); omega)) only [vl,pw]
   simp [wh,zgo,T.d]
  ·have e:xy (.mk 15 nm [a,b] nms pl)=vt a 1++[32,47,92,32]++vt b 2:=by simp [xy,←zfm [a,b] 1 0 a rfl,←zfm [a,b] 2 1 b rfl]
   rw [e] at hlen ⊢;simp only [pe,py,pz] at hlen;simp only [Int.reduceEq,decide_false,px,decide_true,e0,e1,yh,n0,n1,yk,xu,vk,vj,vi,vh,we,hT a (by simp),hT b (by simp),zc,zb,pw,yo,ha,hb]
   simp (disch:=((try simp only [w0,pe,py,pz]); omega)) only [vl,pw]
   simp [wh,zgo,T.d]
theorem zh8(b:Bool)(s:List UInt8):(yb b s).length=s.length+bif b then 2 else 0:=by cases b <;> simp [yb]
theorem yaz{m:Nat}(hc:knows cx (clK 218 zqo zo9 zgo (λ _ x=>z0r m x) K91).S (zj cx)){u b:Bool}{L:List D}{t:T}(hd:t.depth≤m)(ho:t.ok=true)(hi:zz t=true)(hr:zq L (yb b (xy t))=true) :
  zj cx 160 [.ptr 0 0,.d (.bool b),.func 218 [.ptr 2 0,.ptr 3 0]] (psF u L t.d)=some (.ret (.tup []),psF true (ze L (yb b (xy t))) t.d):=by
 have hT:=zeq hd ho;have hlen:=room_le hr;rw [zh8] at hlen;refine zm hc (N:=0) ?_;obtain ⟨k,nm,kids,nms,pl⟩:=t;refine (yey 0 m L u k nm kids nms pl b).trans ?_;simp only [T.d] at hT;cases b
 ·simp only [px] at hlen;simp only [hT,zc,zb,hi,pw,px,yo];simp (disch:=((try simp only [w0,pe,py,pz]); omega)) only [vl,pw]
  simp [wh,psF,psS,adV,T.d,yb]
 ·simp only [pw] at hlen;simp only [hT,zc,zb,hi,pw,px,yo];simp (disch:=((try simp only [w0,pe,py,pz]); omega)) only [vl,pw]
  simp [wh,psF,psS,adV,T.d,yb]
theorem z0i{m:Nat}(h:∀ {u L t},t.depth≤m→t.ok=true→zz t=true→zq L (xy t)=true→zj cx 218 [.ptr 0 0,.ptr 1 0] (zgo u L t.d)=some (.ret (.tup []),zgo true (ze L (xy t)) t.d)) :
  knows cx (ygl m).S (zj cx):=by
 have hc:knows cx (clK 218 zqo zo9 zgo (λ _ x=>z0r m x) K91).S (zj cx):=zfb zc3 zwf λ a b x s u L ha hs hr=>by
  obtain rfl:=zx4 ha;obtain ⟨t,ht,hs⟩:=zd hs;obtain ⟨hf,hs⟩:=zf hs;cases hs;obtain ⟨rfl,h1,h2⟩:=xl ht;exact h h1 h2 hf hr
 exact zfb zc3 z2c λ a b x s u L ha hs hr=>by
  obtain rfl:=zk1 ha;obtain ⟨s',hs',hs⟩:=zd hs;cases hs;obtain ⟨t,ht,hs'⟩:=zd hs';obtain ⟨hf,hs'⟩:=zf hs';cases hs';obtain ⟨rfl,h1,h2⟩:=xl ht;exact yaz hc h1 h2 hf hr
theorem z9p:∀ (m:Nat) (u:Bool) (L:List D) (t:T) (a:Int),t.depth≤m→t.ok=true→zz t=true→zq L (vt t a)=true →
  zj cx 194 [.ptr 0 0,.d t.d,.d (.int .i64 a)] (psS u L)=some (.ret (.tup []),psS true (ze L (vt t a)))
 | 0,_,_,.mk ..,_,h,_,_,_=>by simp [T.depth] at h
 | m+1,u,L,t,a,hd,ho,hi,hr=>by
  have hm:knows cx (KM m).S (zj cx):=zbe zc3 λ a q s u L ha hs hr=>by
   obtain ⟨x,n⟩:=q;obtain rfl:=zhw ha;obtain ⟨t,ht,hs⟩:=zd hs;obtain ⟨hf,hs⟩:=zf hs;cases hs;obtain ⟨rfl,h1,h2⟩:=xl ht;exact z9p m u L t n h1 h2 hf hr
  have hK:=z0i (m:=m+1) λ h1 h2 h3 h4=>ya6 hm h1 h2 h3 h4;have hT:=zeq hd ho;refine zm hK (N:=0) ?_;obtain ⟨k,nm,kids,nms,pl⟩:=t;refine (yhf 0 (m+1) L u k nm kids nms pl a).trans ?_;simp only [T.d] at hT;have hr:zq L (yb (decide (xw k<a)) (xy (.mk k nm kids nms pl)))=true:=hr;show _=some (Out.ret (V.tup []),psS true (ze L (yb (decide (xw k<a)) (xy (.mk k nm kids nms pl)))));simp only [hT,zc,zb,hi,pw,yo,hr];rfl
theorem zbb{k:Int}{nm:List UInt8}{kids:List T}{nms:List (List UInt8)}{pl:Int}:(T.mk k nm kids nms pl).d.cells=[.int .i64 k,.str nm,.sl 5 (T.ds kids),.sl 1 (nms.map .str),.int .i64 pl]:=rfl
theorem zc2(s:List UInt8):(D.str s).cells=[.str s]:=rfl
theorem zi7(t:T):T.mk t.k t.nm t.kids t.nms t.pl=t:=by cases t; rfl
theorem zjl{k:Int}{nm:List UInt8}{kids:List T}{nms:List (List UInt8)}{pl:Int}:D.agg [.int .i64 k,.str nm,.sl 5 (T.ds kids),.sl 1 (nms.map .str),.int .i64 pl]=(T.mk k nm kids nms pl).d:=rfl
theorem zmt{k : Int}{nm : List UInt8}{kids : List T}{nms : List (List UInt8)}{pl : Int}(h : zg (.mk k nm kids nms pl) = true)(hk : k = 4 ∨ k = 5) : nms = [] ∨ ∃ x, nms = [x] := by
  rcases kids with _ | ⟨a, _ | ⟨b, _ | ⟨c, l⟩⟩⟩ <;> rcases hk with rfl | rfl <;> simp [zg] at h
  all_goals (rcases nms with _ | ⟨x, _ | ⟨y, r⟩⟩
             · exact .inl rfl
             · exact .inr ⟨x, rfl⟩
             · have := h.2.1.1.1; simp at this; omega)
theorem ya0{m:Nat}(hc:knows cx (clK 216 zoa znv zuj (λ _ x=>z4x m (x,1)) K91).S (zj cx)){u b:Bool}{L:List D}{t:T}(hd:t.depth≤m)(ho:t.ok=true)(hi:zg t=true)(hr:zq L (yb b (zw t 1))=true) :
  zj cx 160 [.ptr 0 0,.d (.bool b),.func 216 [.ptr 2 0,.ptr 3 0]] (psB u L t.d)=some (.ret (.tup []),psB true (ze L (yb b (zw t 1))) t.d):=by
 have hT:=zeq hd ho;have hlen:=room_le hr;rw [zh8] at hlen;refine zm hc (N:=0) ?_;obtain ⟨k,nm,kids,nms,pl⟩:=t;refine (yez 0 m L u k nm kids nms pl b).trans ?_;simp only [T.d] at hT;cases b
 ·simp only [px] at hlen;simp only [hT,zc,zb,hi,pw,px,yo];simp (disch:=((try simp only [w0,pe,py,pz]); omega)) only [vl,pw]
  simp [wh,psB,psS,adV,T.d,yb]
 ·simp only [pw] at hlen;simp only [hT,zc,zb,hi,pw,px,yo];simp (disch:=((try simp only [w0,pe,py,pz]); omega)) only [vl,pw]
  simp [wh,psB,psS,adV,T.d,yb]
theorem z0j{m:Nat}(hm:knows cx (KT m).S (zj cx)):knows cx (ygm m).S (zj cx):=by
 have hc:knows cx (clK 216 zoa znv zuj (λ _ x=>z4x m (x,1)) K91).S (zj cx):=zfb zc3 zo8 λ a b x s u L ha hs hr=>by
  obtain rfl:=zql ha;obtain ⟨t,ht,hs⟩:=zd hs;obtain ⟨hf,hs⟩:=zf hs;cases hs;obtain ⟨rfl,h1,h2⟩:=xl ht;have hT:=zeq h1 h2;refine zm hm (N:=0) ?_;obtain ⟨k,nm,kids,nms,pl⟩:=t;refine (yfb 0 m L u k nm kids nms pl).trans ?_;simp only [T.d] at hT;simp only [hT,zc,zb,hf,pw,yo,hr];rfl
 exact zfb hm zsl λ a b x s u L ha hs hr=>by
  obtain rfl:=zk1 ha;obtain ⟨s',hs',hs⟩:=zd hs;cases hs;obtain ⟨t,ht,hs'⟩:=zd hs';obtain ⟨hf,hs'⟩:=zf hs';cases hs';obtain ⟨rfl,h1,h2⟩:=xl ht;exact ya0 hc h1 h2 hf hr
theorem yde{m:Nat}(hm:knows cx (KT m).S (zj cx)){u:Bool}{L:List D}{t:T}{s:List UInt8}(hd:t.depth≤m+1)(ho:t.ok=true)(hi:ze3 t=true)(hr:zq L (zfu t s)=true) :
  zj cx 193 [.ptr 0 0,.d t.d,.d (.str s)] (psS u L)=some (.ret (.tup []),psS true (ze L (zfu t s))):=by
 obtain ⟨k,nm,kids,nms,pl⟩:=t;obtain ⟨h1,h2,h3,h4,h5⟩:=vo ho;have hkd:=qk hd;simp only [ze3,zm9,pm,Bool.or_eq_true] at hi;have hk:k=4∨k=5:=by rcases hi.2 with h | h <;> have:=pc h <;> omega
 obtain ⟨a,b,rfl,ha,hb⟩:=zdt hi.1 (by omega)
 have hT:∀ t∈[a,b],zi m t.d=some t:=λ t h=>zay hkd h5 h;have hlen:=room_le hr;simp only [zfu,xd [a,b] 0 0 a rfl,xd [a,b] 1 0 a rfl,xd [a,b] 0 1 b rfl] at hlen;refine zm (z0j hm) (N:=0) ?_;refine (yhg 0 m L u k nm [a,b] nms pl s).trans ?_;simp only [zfu,xd [a,b] 0 0 a rfl,xd [a,b] 1 0 a rfl,xd [a,b] 0 1 b rfl];have e0:decide ((0:Int)<((T.ds [a,b]).length:Int))=true:=by rw [zu]; rfl
 have e1:decide ((1:Int)<((T.ds [a,b]).length:Int))=true:=by rw [zu]; rfl
 have n0:[a,b][(0:Int).toNat]?=some a:=rfl;have n1:[a,b][(1:Int).toNat]?=some b:=rfl;rcases zmt hi.1 hk with rfl | ⟨x,rfl⟩
 ·have hl0:decide ((([]:List (List UInt8)).map D.str).length=(1:Int))=false:=rfl;simp only [pz,Nat.zero_ne_one,decide_false,px,pe,zh8] at hlen ⊢;by_cases h9:a.k=9
  ·obtain ⟨k',nm',kids',nms',pl'⟩:=a;simp only [zm9] at h9;subst h9;obtain ⟨c,d,rfl,_,_⟩:=zdt ha (by omega)
   have e2:decide ((0:Int)<((T.ds [c,d]).length:Int))=true:=by rw [zu]; rfl
   have n2:[c,d][(0:Int).toNat]?=some c:=rfl;have ea:vw [.mk 9 nm' [c,d] nms' pl',b]=decide (c.k=1):=by
    obtain ⟨k3,_,_,_,_⟩:=c;simp only [vw,decide_true,Bool.true_and]; rfl
   simp only [hl0,e0,e1,e2,yh,n0,n1,n2,↓zbb,yk,xu,vk,vj,vi,vh,zjl,zi7,hT _ (pp ..),hT b (by simp),zc,zb,pw,px,yo,ha,hb,decide_true,zgm,Bool.true_or]
   rw [ea] at hlen ⊢;generalize decide (c.k=1)=q at hlen ⊢;cases q
   ·simp only [px,yb] at hlen ⊢;simp (disch:=((try simp only [w0,pe,py,pz]); omega)) only [vl,pw]
    simp [wh,psS,adV]
   ·simp only [pw,yb] at hlen ⊢;simp (disch:=((try simp only [w0,pe,py,pz]); omega)) only [vl,pw]
    simp [wh,psS,adV]
  ·have ea:vw [a,b]=false:=by
    obtain ⟨k',nm',kids',nms',pl'⟩:=a;simp only [zm9] at h9;rcases kids' with _ | ⟨⟨_,_,_,_,_⟩,_⟩ <;> simp [vw,h9]
   simp only [hl0,e0,e1,yh,n0,n1,yk,xu,vk,vj,vi,vh,we,hT a (by simp),hT b (by simp),zc,zb,pw,px,yo,ha,hb,decide_true]
   rw [ea] at hlen ⊢;rw [pb h9];simp only [decide_true,pw,px,yb] at hlen ⊢;simp (disch:=((try simp only [w0,pe,py,pz]); omega)) only [vl,pw]
   simp [wh,psS,adV]
 ·simp only [py,pz,Nat.zero_add,decide_true,pw,pe] at hlen ⊢;have nx:[x][(0:Int).toNat]?=some x:=rfl;have ex:xb [x] 0=x:=rfl;rw [ex] at hlen ⊢;simp only [e0,e1,yh,n0,n1,yk,xu,vk,vj,vi,vh,we,hT a (by simp),hT b (by simp),zc,zb,pw,yo,ha,hb,ph,zm4,zl1,wt,nx,py,pz,Nat.lt_add_one,decide_true,zc2]
  simp (disch:=((try simp only [w0,pe,py,pz]); omega)) only [vl,pw]
  simp [wh,psS,adV]
theorem yhd(n m:Nat)(L:List D)(u:Bool)(k:Int)(nm:List UInt8)(kids:List T)(nms:List (List UInt8))(pl:Int):zn cx (KT m) n 196 [.ptr 0 0,.d (.agg [.int .i64 k,.str nm,.sl 5 (T.ds kids),.sl 1 (nms.map .str),.int .i64 pl])] (psS u L)=zb (zy L.length L) (zb (zq L [91]) (LP cx (KT m) n 196 2 3 n [(0,V.ptr 0 0),(12,V.d (D.sl 5 (T.ds kids))),(13,V.d (D.int .i64 (↑(T.ds kids).length:Int))),(14,V.d (D.int .i64 (0:Int)))] [(0,Ob.val 187695107 (V.agg [V.ptr 0 0,V.sl 6291457 (ze L [91]) 1,V.d (D.bool false)])),(1,Ob.tok (ze L [91]).length)] (AK cx (KT m) n 196 2 3 (EK cx 196 2)))):=by cases u <;> kernel_rfl
theorem l94(n m r:Nat)(L:List D)(kids:List T)(i:Int):LP cx (KT m) n 196 2 3 (r+1) [(0,V.ptr 0 0),(12,V.d (D.sl 5 (T.ds kids))),(13,V.d (D.int .i64 (kids.length:Int))),(14,V.d (D.int .i64 i))] (psS true L) (AK cx (KT m) n 196 2 3 (EK cx 196 2))=bif decide (i<(↑kids.length:Int)) then zb (decide (0≤i)&&decide (i<(↑(T.ds kids).length:Int))) (za (T.ds kids) i.toNat λ y=>za y.cells 0 λ c=>za y.cells 1 λ c_1=>za y.cells 2 λ c_2=>za y.cells 3 λ c_3=>za y.cells 4 λ c_4=>bif decide ((0:Int)<i) then zb (zy L.length L) (zb (zq L [44,32]) (match c_2 with
 | D.sl s l=>bif s.beq (cx.P.cellsOf 26)||l.isEmpty then zb (decide ((0:Int)<(↑l.length:Int))) (za l (0:Int).toNat λ y=>za y.cells 2 λ c_5=>match c_5 with
  | D.sl s l=>bif s.beq (cx.P.cellsOf 26)||l.isEmpty then bif decide ((↑l.length:Int)=(0:Int)) then zb (zy (ze L [44,32]).length (ze L [44,32])) (zb (zq (ze L [44,32]) [49]) (match c_2 with
   | D.sl s l=>bif s.beq (cx.P.cellsOf 26)||l.isEmpty then zb (decide ((0:Int)<(↑l.length:Int))) (za l (0:Int).toNat λ y=>za y.cells 2 λ c_6=>match c_6 with
    | D.sl s l=>bif s.beq (cx.P.cellsOf 26)||l.isEmpty then LP cx (KT m) n 196 2 10 n [(0,V.ptr 0 0),(5,V.ptr 7 0),(12,V.d (D.sl 5 (T.ds kids))),(13,V.d (D.int .i64 (↑kids.length:Int))),(14,V.d (D.int .i64 i)),(38,V.d (D.sl 5 l)),(39,V.d (D.int .i64 (↑l.length:Int))),(40,V.d (D.int .i64 (0:Int)))] [(0,Ob.val 187695107 (V.agg [V.ptr 0 0,V.sl 6291457 (ze (ze L [44,32]) [49]) 1,V.d (D.bool false)])),(1,Ob.tok (ze (ze L [44,32]) [49]).length),(7,Ob.val 5 (V.d (D.agg [c,c_1,c_2,c_3,c_4])))] (AL cx (KT m) n 196 2 3 10 (inK cx (KT m) n 196 2 3 r (AK cx (KT m) n 196 2 3 (EK cx 196 2)))) else none
    | x=>none) else none
   | x=>none)) else match c_2 with
   | D.sl s l=>bif s.beq (cx.P.cellsOf 26)||l.isEmpty then zb (decide ((0:Int)<(↑l.length:Int))) (za l (0:Int).toNat λ y=>za y.cells 2 λ c_6=>match c_6 with
    | D.sl s l=>bif s.beq (cx.P.cellsOf 26)||l.isEmpty then LP cx (KT m) n 196 2 10 n [(0,V.ptr 0 0),(5,V.ptr 7 0),(12,V.d (D.sl 5 (T.ds kids))),(13,V.d (D.int .i64 (↑kids.length:Int))),(14,V.d (D.int .i64 i)),(38,V.d (D.sl 5 l)),(39,V.d (D.int .i64 (↑l.length:Int))),(40,V.d (D.int .i64 (0:Int)))] [(0,Ob.val 187695107 (V.agg [V.ptr 0 0,V.sl 6291457 (ze L [44,32]) 1,V.d (D.bool false)])),(1,Ob.tok (ze L [44,32]).length),(7,Ob.val 5 (V.d (D.agg [c,c_1,c_2,c_3,c_4])))] (AL cx (KT m) n 196 2 3 10 (inK cx (KT m) n 196 2 3 r (AK cx (KT m) n 196 2 3 (EK cx 196 2)))) else none
    | x=>none) else none
   | x=>none else none
  | x=>none) else none
 | x=>none)) else match c_2 with
 | D.sl s l=>bif s.beq (cx.P.cellsOf 26)||l.isEmpty then zb (decide ((0:Int)<(↑l.length:Int))) (za l (0:Int).toNat λ y=>za y.cells 2 λ c_5=>match c_5 with
  | D.sl s l=>bif s.beq (cx.P.cellsOf 26)||l.isEmpty then bif decide ((↑l.length:Int)=(0:Int)) then zb (zy L.length L) (zb (zq L [49]) (match c_2 with
   | D.sl s l=>bif s.beq (cx.P.cellsOf 26)||l.isEmpty then zb (decide ((0:Int)<(↑l.length:Int))) (za l (0:Int).toNat λ y=>za y.cells 2 λ c_6=>match c_6 with
    | D.sl s l=>bif s.beq (cx.P.cellsOf 26)||l.isEmpty then LP cx (KT m) n 196 2 10 n [(0,V.ptr 0 0),(5,V.ptr 7 0),(12,V.d (D.sl 5 (T.ds kids))),(13,V.d (D.int .i64 (↑kids.length:Int))),(14,V.d (D.int .i64 i)),(38,V.d (D.sl 5 l)),(39,V.d (D.int .i64 (↑l.length:Int))),(40,V.d (D.int .i64 (0:Int)))] [(0,Ob.val 187695107 (V.agg [V.ptr 0 0,V.sl 6291457 (ze L [49]) 1,V.d (D.bool false)])),(1,Ob.tok (ze L [49]).length),(7,Ob.val 5 (V.d (D.agg [c,c_1,c_2,c_3,c_4])))] (AL cx (KT m) n 196 2 3 10 (inK cx (KT m) n 196 2 3 r (AK cx (KT m) n 196 2 3 (EK cx 196 2)))) else none
    | x=>none) else none
   | x=>none)) else match c_2 with
   | D.sl s l=>bif s.beq (cx.P.cellsOf 26)||l.isEmpty then zb (decide ((0:Int)<(↑l.length:Int))) (za l (0:Int).toNat λ y=>za y.cells 2 λ c_6=>match c_6 with
    | D.sl s l=>bif s.beq (cx.P.cellsOf 26)||l.isEmpty then LP cx (KT m) n 196 2 10 n [(0,V.ptr 0 0),(5,V.ptr 7 0),(12,V.d (D.sl 5 (T.ds kids))),(13,V.d (D.int .i64 (↑kids.length:Int))),(14,V.d (D.int .i64 i)),(38,V.d (D.sl 5 l)),(39,V.d (D.int .i64 (↑l.length:Int))),(40,V.d (D.int .i64 (0:Int)))] [(0,Ob.val 187695107 (V.agg [V.ptr 0 0,V.sl 6291457 L 1,V.d (D.bool false)])),(1,Ob.tok L.length),(7,Ob.val 5 (V.d (D.agg [c,c_1,c_2,c_3,c_4])))] (AL cx (KT m) n 196 2 3 10 (inK cx (KT m) n 196 2 3 r (AK cx (KT m) n 196 2 3 (EK cx 196 2)))) else none
    | x=>none) else none
   | x=>none else none
  | x=>none) else none
 | x=>none) else zb (zy L.length L) (zb (zq L [93]) (some (Out.ret (V.tup []),[(0,Ob.val 187695107 (V.agg [V.ptr 0 0,V.sl 6291457 (ze L [93]) 1,V.d (D.bool false)])),(1,Ob.tok (ze L [93]).length)]))):=by kernel_rfl
theorem i94(n m r q:Nat)(L:List D)(kids qs kids':List T)(i j k' pl':Int)(nm':List UInt8)(nms':List (List UInt8)):LP cx (KT m) n 196 2 10 (q+1) [(0,V.ptr 0 0),(5,V.ptr 7 0),(12,V.d (D.sl 5 (T.ds kids))),(13,V.d (D.int .i64 (kids.length:Int))),(14,V.d (D.int .i64 i)),(38,V.d (D.sl 5 (T.ds qs))),(39,V.d (D.int .i64 (qs.length:Int))),(40,V.d (D.int .i64 j))] [(0,Ob.val 187695107 (V.agg [V.ptr 0 0,V.sl 6291457 L 1,V.d (D.bool false)])),(1,Ob.tok L.length),(7,Ob.val 5 (V.d (D.agg [D.int .i64 k',D.str nm',D.sl 5 (T.ds kids'),D.sl 1 (nms'.map .str),D.int .i64 pl'])))] (AL cx (KT m) n 196 2 3 10 (inK cx (KT m) n 196 2 3 r (AK cx (KT m) n 196 2 3 (EK cx 196 2))))=bif decide (j<(↑qs.length:Int)) then zb (decide (0≤j)&&decide (j<(↑(T.ds qs).length:Int))) (za (T.ds qs) j.toNat λ y=>za y.cells 0 λ c=>za y.cells 1 λ c=>za y.cells 2 λ c_1=>za y.cells 3 λ c_2=>za y.cells 4 λ c_3=>match c with
 | D.str s=>match c_2 with
  | D.sl s_1 l=>bif s_1.beq (cx.P.cellsOf 9)||l.isEmpty then zb (decide ((0:Int)<(↑l.length:Int))) (za l (0:Int).toNat λ y=>za y.cells 0 λ c=>match c with
   | D.str s_2=>zb (zy L.length L) (zb (zq L (40::(s++([61]++(s_2++([41]++[])))))) (LP cx (KT m) n 196 2 10 q [(0,V.ptr 0 0),(5,V.ptr 7 0),(12,V.d (D.sl 5 (T.ds kids))),(13,V.d (D.int .i64 (↑kids.length:Int))),(14,V.d (D.int .i64 i)),(38,V.d (D.sl 5 (T.ds qs))),(39,V.d (D.int .i64 (↑qs.length:Int))),(40,V.d (D.int .i64 (IntKind.i64.wrap (j+(1:Int)))))] [(0,Ob.val 187695107 (V.agg [V.ptr 0 0,V.sl 6291457 (ze L (40::(s++([61]++(s_2++([41]++[])))))) 1,V.d (D.bool false)])),(1,Ob.tok (ze L (40::(s++([61]++(s_2++([41]++[])))))).length),(7,Ob.val 5 (V.d (D.agg [D.int .i64 k',D.str nm',D.sl 5 (T.ds kids'),D.sl 1 (List.map D.str nms'),D.int .i64 pl'])))] (AL cx (KT m) n 196 2 3 10 (inK cx (KT m) n 196 2 3 r (AK cx (KT m) n 196 2 3 (EK cx 196 2))))))
   | x=>none) else none
  | x=>none
 | x=>none) else bif decide ((↑(T.ds kids').length:Int)=(2:Int)) then zb (zy L.length L) (zb (zq L [32,45,62,32]) (zb (decide ((1:Int)<(↑(T.ds kids').length:Int))) (za (T.ds kids') (1:Int).toNat λ y=>za y.cells 0 λ c=>za y.cells 1 λ c_1=>za y.cells 2 λ c_2=>za y.cells 3 λ c_3=>za y.cells 4 λ c_4=>zc (zc (zi m (D.agg [c,c_1,c_2,c_3,c_4])) λ t=>zb (zg t) (some (zw t (0:Int)))) λ s=>zb (zy (ze L [32,45,62,32]).length (ze L [32,45,62,32])) (zb (zq (ze L [32,45,62,32]) s) (LP cx (KT m) n 196 2 3 r [(0,V.ptr 0 0),(12,V.d (D.sl 5 (T.ds kids))),(13,V.d (D.int .i64 (↑kids.length:Int))),(14,V.d (D.int .i64 (IntKind.i64.wrap (i+(1:Int)))))] [(0,Ob.val 187695107 (V.agg [V.ptr 0 0,V.sl 6291457 (ze (ze L [32,45,62,32]) s) 1,V.d (D.bool false)])),(1,Ob.tok (ze (ze L [32,45,62,32]) s).length)] (AK cx (KT m) n 196 2 3 (EK cx 196 2))))))) else LP cx (KT m) n 196 2 3 r [(0,V.ptr 0 0),(12,V.d (D.sl 5 (T.ds kids))),(13,V.d (D.int .i64 (↑kids.length:Int))),(14,V.d (D.int .i64 (IntKind.i64.wrap (i+(1:Int)))))] [(0,Ob.val 187695107 (V.agg [V.ptr 0 0,V.sl 6291457 L 1,V.d (D.bool false)])),(1,Ob.tok L.length)] (AK cx (KT m) n 196 2 3 (EK cx 196 2)):=by kernel_rfl
abbrev O94 (m n r:Nat) (L:List D) (kids:List T) (i:Int):Option R1:=
 LP cx (KT m) n 196 2 3 r [(0,V.ptr 0 0),(12,V.d (D.sl 5 (T.ds kids))),(13,V.d (D.int .i64 (kids.length:Int))),(14,V.d (D.int .i64 i))] [(0,Ob.val 187695107 (V.agg [V.ptr 0 0,V.sl 6291457 L 1,V.d (D.bool false)])),(1,Ob.tok L.length)] (AK cx (KT m) n 196 2 3 (EK cx 196 2))
abbrev I94 (m n r q:Nat) (L:List D) (kids qs kids':List T) (i j k' pl':Int) (nm':List UInt8) (nms':List (List UInt8)):Option R1:=
 LP cx (KT m) n 196 2 10 q [(0,V.ptr 0 0),(5,V.ptr 7 0),(12,V.d (D.sl 5 (T.ds kids))),(13,V.d (D.int .i64 (kids.length:Int))),(14,V.d (D.int .i64 i)),(38,V.d (D.sl 5 (T.ds qs))),(39,V.d (D.int .i64 (qs.length:Int))),(40,V.d (D.int .i64 j))] [(0,Ob.val 187695107 (V.agg [V.ptr 0 0,V.sl 6291457 L 1,V.d (D.bool false)])),(1,Ob.tok L.length),(7,Ob.val 5 (V.d (D.agg [D.int .i64 k',D.str nm',D.sl 5 (T.ds kids'),D.sl 1 (nms'.map .str),D.int .i64 pl'])))] (AL cx (KT m) n 196 2 3 10 (inK cx (KT m) n 196 2 3 r (AK cx (KT m) n 196 2 3 (EK cx 196 2))))
def qz(kids:List T):List UInt8:=bif decide (kids.length=2) then [32,45,62,32]++xb (yq kids 0) 1 else []
theorem z1k{t:T}(h:zap t=true):∃ nm x pl,t=.mk 13 nm [] [x] pl∧z6 nm=true∧zla x=true:=by
 obtain ⟨k,nm,kids,nms,pl⟩:=t;rcases kids with _ | ⟨a,kids⟩ <;> rcases nms with _ | ⟨x,_ | ⟨y,nms⟩⟩ <;> simp [zap] at h
 obtain ⟨⟨rfl,h1⟩,h2⟩:=h;exact ⟨nm,x,pl,rfl,h1,h2⟩
theorem z1c{m n r:Nat}{kids qs kids':List T}{i k' pl':Int}{nm':List UInt8}{nms':List (List UInt8)}(hq:∀ t∈qs,zap t=true)(hl:qs.length<4294967296)
  (hk:kids'.length=2→∃ t,kids'[1]?=some t∧zi m t.d=some t∧zg t=true) :
  ∀ (rest:List T) (j q:Nat) (L:List D),qs.drop j=rest→j≤qs.length→rest.length<q→zq L ((rest.map zae).flatten++qz kids')=true →
   I94 m n r q L kids qs kids' i j k' pl' nm' nms'=O94 m n r (ze L ((rest.map zae).flatten++qz kids')) kids (IntKind.i64.wrap (i+1))
 | [],j,q,L,hd,hj,hk',hr=>by
  obtain ⟨q,rfl⟩:∃ i,q=i+1:=⟨q - 1,by omega⟩
  have:qs.length≤j:=by simpa using hd
  obtain rfl:j=qs.length:=by omega
  simp only [List.map_nil,List.flatten_nil,List.nil_append] at hr ⊢;have hlen:=room_le hr;simp only [I94,O94];rw [i94,yw,px,zu,zuw];by_cases h2:kids'.length=2
  ·obtain ⟨t,ht,hT,hrt⟩:=hk h2;have n1:kids'[(1:Int).toNat]?=some t:=ht;have e:qz kids'=[32,45,62,32]++zw t 0:=by
    unfold qz;rw [pa h2,pw,xd kids' 0 1 t ht]
   rw [e] at hlen ⊢;have e1:decide ((1:Int)<(kids'.length:Int))=true:=pa (by omega)
   simp only [pe,py,pz] at hlen;rw [pa h2];simp only [pw,e1,yh,n1,yk,xu,vk,vj,vi,vh,we,hT,zc,zb,hrt,yo];simp (disch:=((try simp only [w0,pe,py,pz]); omega)) only [vl,pw]
   simp [wh]
  ·have e:qz kids'=[]:=by unfold qz; rw [pb h2]; rfl
   rw [pb h2,px,e,zor]
 | t::rest,j,q,L,hd,hj,hk',hr=>by
  obtain ⟨q,rfl⟩:∃ i,q=i+1:=⟨q - 1,by omega⟩
  obtain ⟨h1,h2,h3⟩:=za0 hd;obtain ⟨nm,x,pl,rfl,_,_⟩:=z1k (hq t (pq h2));have et:zae (.mk 13 nm [] [x] pl)=40::(nm++([61]++(x++([41]++[])))):=by simp [zae,T.nm,T.nms,xb]
  simp only [List.map_cons,List.flatten_cons,List.append_assoc] at hr ⊢;obtain ⟨hr1,hr2⟩:=zgn hr;have ih:=z1c (n:=n) (r:=r) (kids:=kids) (i:=i) (k':=k') (pl':=pl') (nm':=nm') (nms':=nms') hq hl hk rest (j+1) q (ze L (zae (.mk 13 nm [] [x] pl))) h3 h1 (by simp at hk'; omega) hr2
  rw [wh] at ih;rw [←ih,et];rw [et] at hr1;simp only [I94];have nx:[x][(0:Int).toNat]?=some x:=rfl;have ex:decide ((0:Int)<(([x].map D.str).length:Int))=true:=rfl;rw [i94,yf h1,zu,yf h1,y8,yh,po,h2,w9 h1 hl];simp only [pw,zb,zc,Bool.and_self,zbb,xu,vk,vj,vi,vh,zyp,Bool.true_or,ex,wt,nx,zc2,yo,hr1]
theorem zxu{t:T}(h:ym t=true):∃ qs plf r pl,t=.mk 11 [] (.mk 12 [] qs [] plf::r) [] pl∧(∀ q∈qs,zap q=true)∧(r=[]∨∃ u,r=[u]∧zg u=true):=by
 obtain ⟨k,nm,kids,nms,pl⟩:=t;rcases kids with _ | ⟨f,_ | ⟨u,_ | ⟨c,l⟩⟩⟩ <;> simp [ym] at h
 ·obtain ⟨k',nm',kids',nms',pl'⟩:=f;simp [zao] at h;obtain ⟨⟨⟨rfl,rfl⟩,rfl⟩,⟨⟨rfl,rfl⟩,rfl⟩,h⟩:=h;exact ⟨kids',pl',[],pl,rfl,h,.inl rfl⟩
 ·obtain ⟨k',nm',kids',nms',pl'⟩:=f;simp [zao] at h;obtain ⟨⟨⟨⟨rfl,rfl⟩,rfl⟩,⟨⟨rfl,rfl⟩,rfl⟩,h⟩,hu⟩:=h;exact ⟨kids',pl',[u],pl,rfl,h,.inr ⟨u,rfl,hu⟩⟩
theorem zzl(k:Int)(nm:List UInt8)(f:T)(r:List T)(nms:List (List UInt8))(pl:Int):zaf (.mk k nm (f::r) nms pl)=zft f++qz (f::r):=rfl
theorem z0x{m n:Nat}{kids:List T}(hn:4294967296<n)(hl:kids.length<4294967296)(ho:T.oks kids=true)(hd0:T.depths kids≤m)(he:∀ t∈kids,ym t=true) :
  ∀ (rest:List T) (j r:Nat) (L:List D),kids.drop j=rest→j≤kids.length→rest.length<r→zq L (zbn (decide (j=0)) rest++[93])=true →
   O94 m n r L kids j=some (.ret (.tup []),psS true (ze L (zbn (decide (j=0)) rest++[93])))
 | [],j,r,L,hd,hj,hk',hr=>by
  obtain ⟨r,rfl⟩:∃ i,r=i+1:=⟨r - 1,by omega⟩
  have:kids.length≤j:=by simpa using hd
  obtain rfl:j=kids.length:=by omega
  have e:zbn (decide (kids.length=0)) []++[93]=[93]:=by cases decide (kids.length=0) <;> rfl
  rw [e] at hr ⊢;simp only [O94];refine (l94 n m r L kids kids.length).trans ?_;rw [yw,px];simp only [yo,zb,pw,hr];rfl
 | t::rest,j,r,L,hd,hj,hk',hr=>by
  obtain ⟨r,rfl⟩:∃ i,r=i+1:=⟨r - 1,by omega⟩
  obtain ⟨h1,h2,h3⟩:=za0 hd;have htm:=pq h2;obtain ⟨qs,plf,r',pl,rfl,hq,hr'⟩:=zxu (he t htm);obtain ⟨_,o2,_,_,o5⟩:=vo (wx ho htm);have hdx:T.depths (.mk 12 [] qs [] plf::r')≤m:=by
   have:=zgy htm;simp only [T.depth] at this; omega
  have hql:qs.length<4294967296:=by
   obtain ⟨_,q2,_,_,_⟩:=vo (wx o5 (pp ..));exact yp q2
  have hkt:(T.mk 12 [] qs [] plf::r').length=2→∃ t,(T.mk 12 [] qs [] plf::r')[1]?=some t∧zi m t.d=some t∧zg t=true:=by
   intro h;rcases hr' with rfl | ⟨u,rfl,hu⟩
   ·simp at h
   ·exact ⟨u,rfl,zay hdx o5 (by simp),hu⟩
  have step:∀ s:List UInt8,zbn (decide (j=0)) (.mk 11 [] (.mk 12 [] qs [] plf::r') [] pl::rest)++[93]=(bif decide (j=0) then [] else [44,32])++(bif qs.isEmpty then [49] else [])++((qs.map zae).flatten++qz (.mk 12 [] qs [] plf::r'))++(zbn (decide (j+1=0)) rest++[93]):=by
   intro _;rw [zbn,zzl,zft,zax,pb (p:=j+1=0) (by omega)]
   simp only [List.append_assoc]
  rw [step []] at hr ⊢;generalize hP:(bif decide (j=0) then [] else [44,32]:List UInt8)=P at hr ⊢;generalize hQ:(bif qs.isEmpty then [49] else []:List UInt8)=Q at hr ⊢;obtain ⟨r1,r2⟩:=zgn hr;obtain ⟨r3,r4⟩:=zgn r1;obtain ⟨r5,r6⟩:=zgn r3;have h_in:=z1c (n:=n) (r:=r) (kids:=kids) (i:=(j:Int)) (k':=11) (pl':=pl) (nm':=[]) (nms':=[]) hq hql hkt qs 0 n (ze L (P++Q)) rfl (Nat.zero_le _) (by omega) r4
  have h_out:=z0x hn hl ho hd0 he rest (j+1) r (ze L (P++Q++((qs.map zae).flatten++qz (.mk 12 [] qs [] plf::r')))) h3 h1 (by simp at hk'; omega) r2
  rw [wh,w9 h1 hl] at h_in;have h:=h_in.trans h_out;rw [wh] at h;rw [←h];have f0:(T.mk 12 [] qs [] plf::r')[(0:Int).toNat]?=some (T.mk 12 [] qs [] plf):=rfl;have g0:decide ((0:Int)<((T.ds (T.mk 12 [] qs [] plf::r')).length:Int))=true:=pa (by rw [zu]; simp)
  simp only [O94,I94];refine (l94 n m r L kids j).trans ?_;rw [yf h1,zu,yf h1,y8,yh,po,h2];simp only [pw,zb,zc,Bool.and_self,zbb,xu,vk,vj,vi,vh,zgm,Bool.true_or,yh,f0,g0,yo];rw [zu,zps];rcases j with _ | j
  ·simp only [decide_true,pw] at hP;subst hP;rcases qs with _ | ⟨q,qs⟩
   ·simp only [List.isEmpty_nil,pw] at hQ;subst hQ;simp only [List.nil_append] at r6 ⊢;rw [zor] at r6;simp [r6]
   ·simp only [List.isEmpty_cons,px] at hQ;subst hQ;simp [zor]
  ·simp only [Nat.succ_ne_zero,decide_false,px] at hP;subst hP;have hj0:decide ((0:Int)<((j+1:Nat):Int))=true:=pa (by omega)
   rw [hj0];rcases qs with _ | ⟨q,qs⟩
   ·simp only [List.isEmpty_nil,pw] at hQ;subst hQ;simp [r5,r6,wh]
   ·simp only [List.isEmpty_cons,px] at hQ;subst hQ;simp [r5]
theorem zsi{nm:List UInt8}{kids:List T}{nms:List (List UInt8)}{pl:Int}(h:zg (.mk 10 nm kids nms pl)=true):∀ t∈kids,ym t=true:=by
 rcases kids with _ | ⟨a,_ | ⟨b,_ | ⟨c,l⟩⟩⟩ <;> simp [zg,zgw] at h ⊢ <;> simp_all
theorem ydc{m:Nat}(hm:knows cx (KT m).S (zj cx)){u:Bool}{L:List D}{t:T}(hd:t.depth≤m+1)(ho:t.ok=true)(hi:zcn t=true)(hr:zq L (zd6 t)=true) :
  zj cx 196 [.ptr 0 0,.d t.d] (psS u L)=some (.ret (.tup []),psS true (ze L (zd6 t))):=by
 obtain ⟨k,nm,kids,nms,pl⟩:=t;obtain ⟨h1,h2,h3,h4,h5⟩:=vo ho;have hkd:=qk hd;simp only [zcn,pm] at hi;have hk:k=10:=pc hi.2;subst hk;refine zm hm (N:=4294967297) ?_;refine (yhd _ m L u 10 nm kids nms pl).trans ?_;simp only [zd6,List.append_assoc] at hr ⊢;obtain ⟨r1,r2⟩:=zgn hr;have h:=z0x (m:=m) (n:=4294967297) (kids:=kids) (by omega) (yp h2) h5 hkd (zsi hi.1) kids 0 4294967297 (ze L [91]) rfl (Nat.zero_le _) (by have:=yp h2; omega) r2
 rw [wh] at h;simp only [yo,zb,pw,r1,zu];exact h
theorem z0u{k:Int}{nm:List UInt8}{kids:List T}{nms:List (List UInt8)}{pl:Int}(h:zg (.mk k nm kids nms pl)=true) :
  k=1∨((k=2∨k=3)∧∃ a,kids=[a]∧zg a=true)∨(k=4∨k=5)∨(k=6∧∃ a b,kids=[a,b]∧zg a=true∧zg b=true)∨(k=7∧∃ a b,kids=[a,b]∧zg a=true∧zz b=true)∨(k=8∨k=9)∨k=10:=by
 rcases kids with _ | ⟨a,_ | ⟨b,_ | ⟨c,l⟩⟩⟩
 ·simp [zg] at h;rcases h.2 with h | h <;> simp [h.1]
 ·simp [zg] at h;rcases h.2 with h | h
  ·refine .inr (.inl ⟨h.1.1.1,a,rfl,h.2⟩)
  ·simp [h.1.1]
 ·simp [zg] at h;rcases h.2 with ((h | h) | h) | h
  ·rcases h.1.1.1.1 with rfl | rfl <;> simp
  ·rcases h.1.1.1 with (hk | hk) | hk
   ·exact .inr (.inr (.inr (.inl ⟨hk,a,b,rfl,h.1.2,h.2⟩)))
   ·simp [hk]
   ·simp [hk]
  ·exact .inr (.inr (.inr (.inr (.inl ⟨h.1.1.1,a,b,rfl,h.1.2,h.2⟩))))
  ·simp [h.1.1.1]
 ·simp [zg] at h;simp [h]
theorem zup{nms:List (List UInt8)}{sep:List UInt8}(h3:yn nms=true)(h4:nms.all yn=true)(h:(ya nms sep).length≤140737488355328):zdm (D.sl 1 (nms.map D.str),sep)=some (nms,sep):=by
 unfold zdm;simp only [zwm h3 h4];rw [pa (by unfold ya at h; omega)]
 rfl
theorem z3x{m:Nat}(hm:knows cx (KT m).S (zj cx)):knows cx (K71 m).S (zj cx):=by
 have h92:=zbe (f:=194) (dec:=zn7) (sp:=z9e) hm λ a q s u L ha hs hr=>by
  obtain ⟨x,n⟩:=q;obtain rfl:=zhw ha;obtain ⟨t,ht,hs⟩:=zd hs;obtain ⟨hf,hs⟩:=zf hs;cases hs;obtain ⟨rfl,h2⟩:=wv ht;exact z9p t.depth u L t n (Nat.le_refl _) h2 hf hr
 have h94:=zbe (f:=196) (dec:=ztx) (sp:=ycz (m+1)) h92 λ a x s u L ha hs hr=>by
  obtain rfl:=zqi ha;obtain ⟨t,ht,hs⟩:=zd hs;obtain ⟨hf,hs⟩:=zf hs;cases hs;obtain ⟨rfl,h1,h2⟩:=xl ht;exact ydc hm h1 h2 hf hr
 have h93:=zbe (f:=195) (dec:=zxx) (sp:=yc0 (m+1)) h94 λ a q s u L ha hs hr=>by
  obtain ⟨x,g⟩:=q;obtain rfl:=zqh ha;obtain ⟨t,ht,hs⟩:=zd hs;obtain ⟨hf,hs⟩:=zf hs;cases hs;obtain ⟨rfl,h1,h2⟩:=xl ht;exact ydd hm h1 h2 hf hr
 exact zbe h93 λ a q s u L ha hs hr=>by
  obtain ⟨x,g⟩:=q;obtain rfl:=zqh ha;obtain ⟨t,ht,hs⟩:=zd hs;obtain ⟨hf,hs⟩:=zf hs;cases hs;obtain ⟨rfl,h1,h2⟩:=xl ht;exact yde hm h1 h2 hf hr
theorem ydn{m:Nat}(hm:knows cx (KT m).S (zj cx)){u:Bool}{L:List D}{t:T}(hd:t.depth≤m+1)(ho:t.ok=true)(hi:zg t=true)(hr:zq L (yi t)=true) :
  zj cx 163 [.ptr 0 0,.d t.d] (psS u L)=some (.ret (.tup []),psS true (ze L (yi t))):=by
 have hTt:=zeq hd ho;obtain ⟨k,nm,kids,nms,pl⟩:=t;obtain ⟨h1,h2,h3,h4,h5⟩:=vo ho;have hkd:=qk hd;have hT:∀ t∈kids,zi m t.d=some t:=λ t h=>zay hkd h5 h;simp only [T.d] at hTt;refine zm (z3x hm) (N:=0) ?_;rcases z0u hi with rfl | ⟨hk,a,rfl,ha⟩ | hk | ⟨rfl,a,b,rfl,ha,hb⟩ | ⟨rfl,a,b,rfl,ha,hb⟩ | hk | rfl
 ·refine (yb0 0 m L u nm kids nms pl).trans ?_;have e:yi (.mk 1 nm kids nms pl)=nm:=by simp [yi]
  rw [e] at hr ⊢;simp only [yo,zb,pw,List.append_nil,hr];rfl
 ·have e0:decide ((0:Int)<((T.ds [a]).length:Int))=true:=by rw [zu]; rfl
  have n0:[a][(0:Int).toNat]?=some a:=rfl;rcases hk with rfl | rfl
  ·have e:yi (.mk 2 nm [a] nms pl)=[92]++ya nms [32]++[46,32]++zw a 0:=by simp [yi,←xd [a] 0 0 a rfl]
   rw [e] at hr ⊢;have hlen:=room_le hr;simp only [pe,py,pz] at hlen;refine (ybz 0 m L u nm [a] nms pl).trans ?_;simp only [zup h3 h4 (sep:=[32]) (by omega),e0,yh,n0,yk,xu,vk,vj,vi,vh,we,hT a (by simp),zc,zb,pw,yo,ha]
   simp (disch:=((try simp only [w0,pe,py,pz]); omega)) only [vl,pw]
   simp [wh,psS,adV]
  ·have e:yi (.mk 3 nm [a] nms pl)=[60]++ya nms [32]++[62,32]++zw a 0:=by simp [yi,←xd [a] 0 0 a rfl]
   rw [e] at hr ⊢;have hlen:=room_le hr;simp only [pe,py,pz] at hlen;refine (yby 0 m L u nm [a] nms pl).trans ?_;simp only [zup h3 h4 (sep:=[32]) (by omega),e0,yh,n0,yk,xu,vk,vj,vi,vh,we,hT a (by simp),zc,zb,pw,yo,ha]
   simp (disch:=((try simp only [w0,pe,py,pz]); omega)) only [vl,pw]
   simp [wh,psS,adV]
 ·rcases hk with rfl | rfl
  ·have hB:ze3 (.mk 4 nm kids nms pl)=true:=by unfold ze3; rw [hi]; rfl
   have e:yi (.mk 4 nm kids nms pl)=zfu (.mk 4 nm kids nms pl) [32,45,62,32]:=by simp [yi,zfu]
   rw [e] at hr ⊢;refine (ybx 0 m L u nm kids nms pl).trans ?_;simp only [hTt,hB,zc,zb,pw,yo,hr];rfl
  ·have hB:ze3 (.mk 5 nm kids nms pl)=true:=by unfold ze3; rw [hi]; rfl
   have e:yi (.mk 5 nm kids nms pl)=zfu (.mk 5 nm kids nms pl) [32,42,32]:=by simp [yi,zfu]
   rw [e] at hr ⊢;refine (ybw 0 m L u nm kids nms pl).trans ?_;simp only [hTt,hB,zc,zb,pw,yo,hr];rfl
 ·have e0:decide ((0:Int)<((T.ds [a,b]).length:Int))=true:=by rw [zu]; rfl
  have e1:decide ((1:Int)<((T.ds [a,b]).length:Int))=true:=by rw [zu]; rfl
  have n0:[a,b][(0:Int).toNat]?=some a:=rfl;have n1:[a,b][(1:Int).toNat]?=some b:=rfl;have e:yi (.mk 6 nm [a,b] nms pl)=zw a 1++[32]++zw b 2:=by simp [yi,←xd [a,b] 1 0 a rfl,←xd [a,b] 2 1 b rfl]
  rw [e] at hr ⊢;have hlen:=room_le hr;simp only [pe,py,pz] at hlen;refine (ybv 0 m L u nm [a,b] nms pl).trans ?_;simp only [e0,e1,yh,n0,n1,yk,xu,vk,vj,vi,vh,we,hT a (by simp),hT b (by simp),zc,zb,pw,yo,ha,hb]
  simp (disch:=((try simp only [w0,pe,py,pz]); omega)) only [vl,pw]
  simp [wh,psS,adV]
 ·have e0:decide ((0:Int)<((T.ds [a,b]).length:Int))=true:=by rw [zu]; rfl
  have e1:decide ((1:Int)<((T.ds [a,b]).length:Int))=true:=by rw [zu]; rfl
  have n0:[a,b][(0:Int).toNat]?=some a:=rfl;have n1:[a,b][(1:Int).toNat]?=some b:=rfl;have e:yi (.mk 7 nm [a,b] nms pl)=zw a 1++[32,64,32]++vt b 2:=by simp [yi,←xd [a,b] 1 0 a rfl]
  rw [e] at hr ⊢;have hlen:=room_le hr;simp only [pe,py,pz] at hlen;refine (ybu 0 m L u nm [a,b] nms pl).trans ?_;simp only [e0,e1,yh,n0,n1,yk,xu,vk,vj,vi,vh,we,hT a (by simp),zd8 h5 (t:=b) (by simp),zc,zb,pw,yo,ha,hb]
  simp (disch:=((try simp only [w0,pe,py,pz]); omega)) only [vl,pw]
  simp [wh,psS,adV]
 ·rcases hk with rfl | rfl
  ·have hB:ze2 (.mk 8 nm kids nms pl)=true:=by unfold ze2; rw [hi]; rfl
   have e:yi (.mk 8 nm kids nms pl)=zfq (.mk 8 nm kids nms pl) [44,32]:=by simp [yi,zfq]
   rw [e] at hr ⊢;refine (ybt 0 m L u nm kids nms pl).trans ?_;simp only [hTt,hB,zc,zb,pw,yo,hr];rfl
  ·have hB:ze2 (.mk 9 nm kids nms pl)=true:=by unfold ze2; rw [hi]; rfl
   have e:yi (.mk 9 nm kids nms pl)=zfq (.mk 9 nm kids nms pl) [32,58,32]:=by simp [yi,zfq]
   rw [e] at hr ⊢;refine (ybs 0 m L u nm kids nms pl).trans ?_;simp only [hTt,hB,zc,zb,pw,yo,hr];rfl
 ·have hB:zcn (.mk 10 nm kids nms pl)=true:=by unfold zcn; rw [hi]; rfl
  have e:yi (.mk 10 nm kids nms pl)=zd6 (.mk 10 nm kids nms pl):=by simp [yi,zd6]
  rw [e] at hr ⊢;refine (z8r 0 m L u nm kids nms pl).trans ?_;simp only [hTt,hB,zc,zb,pw,yo,hr];rfl
theorem ya1{m:Nat}(hc:knows cx (clK 162 zoa znv zuj (λ _ x=>z16 m x) K91).S (zj cx)){u b:Bool}{L:List D}{t:T}(hd:t.depth≤m)(ho:t.ok=true)(hi:zg t=true)(hr:zq L (yb b (yi t))=true) :
  zj cx 160 [.ptr 0 0,.d (.bool b),.func 162 [.ptr 2 0,.ptr 3 0]] (psB u L t.d)=some (.ret (.tup []),psB true (ze L (yb b (yi t))) t.d):=by
 have hT:=zeq hd ho;have hlen:=room_le hr;rw [zh8] at hlen;refine zm hc (N:=0) ?_;obtain ⟨k,nm,kids,nms,pl⟩:=t;refine (ye0 0 m L u k nm kids nms pl b).trans ?_;simp only [T.d] at hT;cases b
 ·simp only [px] at hlen;simp only [hT,zc,zb,hi,pw,px,yo];simp (disch:=((try simp only [w0,pe,py,pz]); omega)) only [vl,pw]
  simp [wh,psB,psS,adV,T.d,yb]
 ·simp only [pw] at hlen;simp only [hT,zc,zb,hi,pw,px,yo];simp (disch:=((try simp only [w0,pe,py,pz]); omega)) only [vl,pw]
  simp [wh,psB,psS,adV,T.d,yb]
theorem z3y{m:Nat}(hm:knows cx (KT m).S (zj cx)):knows cx (K70 (m+1)).S (zj cx):=by
 have h71:knows cx (prK 163 ztx (z16 (m+1)) K91).S (zj cx):=zbe zc3 λ a x s u L ha hs hr=>by
  obtain rfl:=zqi ha;obtain ⟨t,ht,hs⟩:=zd hs;obtain ⟨hf,hs⟩:=zf hs;cases hs;obtain ⟨rfl,h1,h2⟩:=xl ht;exact ydn hm h1 h2 hf hr
 have hc:knows cx (clK 162 zoa znv zuj (λ _ x=>z16 (m+1) x) K91).S (zj cx):=zfb zc3 zo8 λ a b x s u L ha hs hr=>by
  obtain rfl:=zql ha;obtain ⟨t,ht,hs⟩:=zd hs;obtain ⟨hf,hs⟩:=zf hs;cases hs;obtain ⟨rfl,h1,h2⟩:=xl ht;have hT:=zeq h1 h2;refine zm h71 (N:=0) ?_;obtain ⟨k,nm,kids,nms,pl⟩:=t;refine (yhi 0 (m+1) L u k nm kids nms pl).trans ?_;simp only [T.d] at hT;simp only [hT,zc,zb,hf,pw,yo,hr];rfl
 exact zfb zc3 zsl λ a b x s u L ha hs hr=>by
  obtain rfl:=zk1 ha;obtain ⟨s',hs',hs⟩:=zd hs;cases hs;obtain ⟨t,ht,hs'⟩:=zd hs';obtain ⟨hf,hs'⟩:=zf hs';cases hs';obtain ⟨rfl,h1,h2⟩:=xl ht;exact ya1 hc h1 h2 hf hr
theorem z9w:∀ (m:Nat) (u:Bool) (L:List D) (t:T) (a:Int),t.depth≤m→t.ok=true→zg t=true→zq L (zw t a)=true →
  zj cx 128 [.ptr 0 0,.d t.d,.d (.int .i64 a)] (psS u L)=some (.ret (.tup []),psS true (ze L (zw t a)))
 | 0,_,_,.mk ..,_,h,_,_,_=>by simp [T.depth] at h
 | m+1,u,L,t,a,hd,ho,hi,hr=>by
  have hm:knows cx (KT m).S (zj cx):=zbe zc3 λ a q s u L ha hs hr=>by
   obtain ⟨x,n⟩:=q;obtain rfl:=zhw ha;obtain ⟨t,ht,hs⟩:=zd hs;obtain ⟨hf,hs⟩:=zf hs;cases hs;obtain ⟨rfl,h1,h2⟩:=xl ht;exact z9w m u L t n h1 h2 hf hr
  have hT:=zeq hd ho;have hC:=zij ho;refine zm (z3y hm) (N:=0) ?_;obtain ⟨k,nm,kids,nms,pl⟩:=t;refine (yho 0 (m+1) L u k nm kids nms pl a).trans ?_;simp only [T.d] at hT hC;unfold zw at hr ⊢;simp only [hT,hC,zc,zb,hi,pw,yo,hr];rfl
end Go.Vai
end

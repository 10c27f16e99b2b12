/-
  Show: the reference's looks at trees. To: Show: terms are printed.
-/
import Derived.Test.YtmolcgfhgdhgoaaGreatDoorSliPart2
set_option linter.all false
noncomputable section
namespace Go.Vai
open Go.Proofs
theorem g74(n m:Nat)(k:Int)(nm:List UInt8)(kids:List T)(nms:List (List UInt8))(pl:Int):zl cx (zt 95 vp (zg m) (λ t=>mkB (Sp.form t)) K1) n 95 [.d (.agg [.int .i64 k,.str nm,.sl 5 (T.ds kids),.sl 1 (nms.map .str),.int .i64 pl])] []=bif decide ((0:Int)<(↑(List.map D.str nms).length:Int)) then some (Out.ret (V.d (D.bool false)),[]) else bif decide (k=(1:Int)) then bif decide ((↑(T.ds kids).length:Int)=(0:Int)) then zb (decide (nm.length≤big)) (some (Out.ret (V.d (D.bool (Sp.named nm))),[])) else some (Out.ret (V.d (D.bool false)),[]) else bif decide (k=(17:Int)) then bif decide ((↑(T.ds kids).length:Int)=(0:Int)) then bif decide (nm=[48]) then some (Out.ret (V.d (D.bool true)),[]) else some (Out.ret (V.d (D.bool (decide (nm=[49])))),[]) else some (Out.ret (V.d (D.bool false)),[]) else bif decide (k=(16:Int)) then bif decide (nm=[]) then bif decide ((↑(T.ds kids).length:Int)=(1:Int)) then zb (decide ((0:Int)<(↑(T.ds kids).length:Int))) (za (T.ds kids) (0:Int).toNat λ y=>za y.cells 0 λ c=>za y.cells 1 λ c_1=>za y.cells 2 λ c_2=>za y.cells 3 λ c_3=>za y.cells 4 λ c_4=>zc (zg m (D.agg [c,c_1,c_2,c_3,c_4])) λ b=>some (Out.ret (V.d (D.bool (Sp.form b))),[])) else some (Out.ret (V.d (D.bool false)),[]) else some (Out.ret (V.d (D.bool false)),[]) else bif decide (k=(14:Int)) then bif decide (k=(14:Int)) then bif decide (nm=[]) then bif decide ((↑(T.ds kids).length:Int)=(2:Int)) then zb (decide ((0:Int)<(↑(T.ds kids).length:Int))) (za (T.ds kids) (0:Int).toNat λ y=>za y.cells 0 λ c=>za y.cells 1 λ c_1=>za y.cells 2 λ c_2=>za y.cells 3 λ c_3=>za y.cells 4 λ c_4=>zc (zg m (D.agg [c,c_1,c_2,c_3,c_4])) λ b=>bif Sp.form b then zb (decide ((1:Int)<(↑(T.ds kids).length:Int))) (za (T.ds kids) (1:Int).toNat λ y=>za y.cells 0 λ c=>za y.cells 1 λ c_5=>za y.cells 2 λ c_6=>za y.cells 3 λ c_7=>za y.cells 4 λ c_8=>zc (zg m (D.agg [c,c_5,c_6,c_7,c_8])) λ b=>some (Out.ret (V.d (D.bool (Sp.form b))),[])) else some (Out.ret (V.d (D.bool false)),[])) else some (Out.ret (V.d (D.bool false)),[]) else some (Out.ret (V.d (D.bool false)),[]) else some (Out.ret (V.d (D.bool false)),[]) else bif decide (k=(15:Int)) then bif decide (nm=[]) then bif decide ((↑(T.ds kids).length:Int)=(2:Int)) then zb (decide ((0:Int)<(↑(T.ds kids).length:Int))) (za (T.ds kids) (0:Int).toNat λ y=>za y.cells 0 λ c=>za y.cells 1 λ c_1=>za y.cells 2 λ c_2=>za y.cells 3 λ c_3=>za y.cells 4 λ c_4=>zc (zg m (D.agg [c,c_1,c_2,c_3,c_4])) λ b=>bif Sp.form b then zb (decide ((1:Int)<(↑(T.ds kids).length:Int))) (za (T.ds kids) (1:Int).toNat λ y=>za y.cells 0 λ c=>za y.cells 1 λ c_5=>za y.cells 2 λ c_6=>za y.cells 3 λ c_7=>za y.cells 4 λ c_8=>zc (zg m (D.agg [c,c_5,c_6,c_7,c_8])) λ b=>some (Out.ret (V.d (D.bool (Sp.form b))),[])) else some (Out.ret (V.d (D.bool false)),[])) else some (Out.ret (V.d (D.bool false)),[]) else some (Out.ret (V.d (D.bool false)),[]) else some (Out.ret (V.d (D.bool false)),[]):=by kernel_rfl
theorem g76(n:Nat)(k:Int)(nm:List UInt8)(kids:List T)(nms:List (List UInt8))(pl:Int):zl cx K1 n 97 [.d (.agg [.int .i64 k,.str nm,.sl 5 (T.ds kids),.sl 1 (nms.map .str),.int .i64 pl])] []=bif !decide (k=(12:Int)) then some (Out.ret (V.d (D.bool false)),[]) else bif !decide (nm=[]) then some (Out.ret (V.d (D.bool false)),[]) else bif decide ((0:Int)<(↑(List.map D.str nms).length:Int)) then some (Out.ret (V.d (D.bool false)),[]) else LP cx K1 n 97 0 4 n [(1,V.ptr 1 0),(3,V.d (D.int .i64 (0:Int)))] [(1,Ob.val 5 (V.d (D.agg [D.int .i64 k,D.str nm,D.sl 5 (T.ds kids),D.sl 1 (List.map D.str nms),D.int .i64 pl])))] (AK cx K1 n 97 0 4 (EK cx 97 0)):=by kernel_rfl
theorem l76(n r:Nat)(k:Int)(nm:List UInt8)(kids:List T)(nms:List (List UInt8))(pl i:Int):LP cx K1 n 97 0 4 (r+1) [(1,V.ptr 1 0),(3,V.d (D.int .i64 i))] [(1,Ob.val 5 (V.d (D.agg [D.int .i64 k,D.str nm,D.sl 5 (T.ds kids),D.sl 1 (List.map D.str nms),D.int .i64 pl])))] (AK cx K1 n 97 0 4 (EK cx 97 0))=bif decide (i<(↑(T.ds kids).length:Int)) then zb (decide (0≤i)&&decide (i<(↑(T.ds kids).length:Int))) (za (T.ds kids) i.toNat λ y=>za y.cells 0 λ c=>za y.cells 1 λ c_1=>za y.cells 2 λ c_2=>za y.cells 3 λ c_3=>za y.cells 4 λ c_4=>match c with
 | D.int k' n_1=>bif decide (k'=IntKind.i64) then bif !decide (n_1=(13:Int)) then some (Out.ret (V.d (D.bool false)),[]) else match c_2 with
  | D.sl s l=>bif s.beq (cx.P.cellsOf 26)||l.isEmpty then bif decide ((0:Int)<(↑l.length:Int)) then some (Out.ret (V.d (D.bool false)),[]) else match c_1 with
   | D.str s=>zb (decide (s.length≤big)) (bif !Sp.named s then some (Out.ret (V.d (D.bool false)),[]) else match c_3 with
    | D.sl s l=>bif s.beq (cx.P.cellsOf 9)||l.isEmpty then bif !decide ((↑l.length:Int)=(1:Int)) then some (Out.ret (V.d (D.bool false)),[]) else match c_3 with
     | D.sl s l=>bif s.beq (cx.P.cellsOf 9)||l.isEmpty then zb (decide ((0:Int)<(↑l.length:Int))) (za l (0:Int).toNat λ y=>za y.cells 0 λ c=>match c with
      | D.str s=>bif !decide (s=[48]) then match c_3 with
       | D.sl s l=>bif s.beq (cx.P.cellsOf 9)||l.isEmpty then zb (decide ((0:Int)<(↑l.length:Int))) (za l (0:Int).toNat λ y=>za y.cells 0 λ c=>match c with
        | D.str s=>bif !decide (s=[49]) then some (Out.ret (V.d (D.bool false)),[]) else LP cx K1 n 97 0 4 r [(1,V.ptr 1 0),(3,V.d (D.int .i64 (IntKind.i64.wrap (i+(1:Int)))))] [(1,Ob.val 5 (V.d (D.agg [D.int .i64 k,D.str nm,D.sl 5 (T.ds kids),D.sl 1 (List.map D.str nms),D.int .i64 pl])))] (AK cx K1 n 97 0 4 (EK cx 97 0))
        | x=>none) else none
       | x=>none else LP cx K1 n 97 0 4 r [(1,V.ptr 1 0),(3,V.d (D.int .i64 (IntKind.i64.wrap (i+(1:Int)))))] [(1,Ob.val 5 (V.d (D.agg [D.int .i64 k,D.str nm,D.sl 5 (T.ds kids),D.sl 1 (List.map D.str nms),D.int .i64 pl])))] (AK cx K1 n 97 0 4 (EK cx 97 0))
      | x=>none) else none
     | x=>none else none
    | x=>none)
   | x=>none else none
  | x=>none else none
 | x=>none) else some (Out.ret (V.d (D.bool true)),[]):=by kernel_rfl
theorem g42(n m:Nat)(k:Int)(nm:List UInt8)(kids:List T)(nms:List (List UInt8))(pl:Int):zl cx (KQ m) n 59 [.d (.agg [.int .i64 k,.str nm,.sl 5 (T.ds kids),.sl 1 (nms.map .str),.int .i64 pl])] []=bif decide (k=(1:Int)) then zc (Sp.toC (D.agg [D.int .i64 k,D.str nm,D.sl 5 (T.ds kids),D.sl 1 (List.map D.str nms),D.int .i64 pl])) λ b=>some (Out.ret (V.d (D.bool (Sp.form b))),[]) else bif !decide (nm=[]) then some (Out.ret (V.d (D.bool false)),[]) else zc (zgb (D.sl 1 (List.map D.str nms))) λ b=>bif !b.all Sp.named then some (Out.ret (V.d (D.bool false)),[]) else bif decide (k=(2:Int)) then bif decide (k=(2:Int)) then bif decide ((0:Int)<(↑(List.map D.str nms).length:Int)) then bif decide ((↑(T.ds kids).length:Int)=(1:Int)) then zb (decide ((0:Int)<(↑(T.ds kids).length:Int))) (za (T.ds kids) (0:Int).toNat λ y=>za y.cells 0 λ c=>za y.cells 1 λ c_1=>za y.cells 2 λ c_2=>za y.cells 3 λ c_3=>za y.cells 4 λ c_4=>zc (zg m (D.agg [c,c_1,c_2,c_3,c_4])) λ b=>some (Out.ret (V.d (D.bool (Sp.right b))),[])) else some (Out.ret (V.d (D.bool false)),[]) else some (Out.ret (V.d (D.bool false)),[]) else bif decide (k=(4:Int)) then bif decide (k=(4:Int)) then bif decide ((↑(List.map D.str nms).length:Int)<(2:Int)) then bif decide ((↑(T.ds kids).length:Int)=(2:Int)) then zb (decide ((0:Int)<(↑(T.ds kids).length:Int))) (za (T.ds kids) (0:Int).toNat λ y=>za y.cells 0 λ c=>za y.cells 1 λ c_1=>za y.cells 2 λ c_2=>za y.cells 3 λ c_3=>za y.cells 4 λ c_4=>zc (zg m (D.agg [c,c_1,c_2,c_3,c_4])) λ b=>bif Sp.right b then zb (decide ((1:Int)<(↑(T.ds kids).length:Int))) (za (T.ds kids) (1:Int).toNat λ y=>za y.cells 0 λ c=>za y.cells 1 λ c_5=>za y.cells 2 λ c_6=>za y.cells 3 λ c_7=>za y.cells 4 λ c_8=>zc (zg m (D.agg [c,c_5,c_6,c_7,c_8])) λ b=>some (Out.ret (V.d (D.bool (Sp.right b))),[])) else some (Out.ret (V.d (D.bool false)),[])) else some (Out.ret (V.d (D.bool false)),[]) else some (Out.ret (V.d (D.bool false)),[]) else bif decide (k=(6:Int)) then bif decide (k=(6:Int)) then bif decide ((↑(List.map D.str nms).length:Int)=(0:Int)) then bif decide ((↑(T.ds kids).length:Int)=(2:Int)) then zb (decide ((0:Int)<(↑(T.ds kids).length:Int))) (za (T.ds kids) (0:Int).toNat λ y=>za y.cells 0 λ c=>za y.cells 1 λ c_1=>za y.cells 2 λ c_2=>za y.cells 3 λ c_3=>za y.cells 4 λ c_4=>zc (zg m (D.agg [c,c_1,c_2,c_3,c_4])) λ b=>bif Sp.right b then zb (decide ((1:Int)<(↑(T.ds kids).length:Int))) (za (T.ds kids) (1:Int).toNat λ y=>za y.cells 0 λ c=>za y.cells 1 λ c_5=>za y.cells 2 λ c_6=>za y.cells 3 λ c_7=>za y.cells 4 λ c_8=>zc (zg m (D.agg [c,c_5,c_6,c_7,c_8])) λ b=>some (Out.ret (V.d (D.bool (Sp.right b))),[])) else some (Out.ret (V.d (D.bool false)),[])) else some (Out.ret (V.d (D.bool false)),[]) else some (Out.ret (V.d (D.bool false)),[]) else bif decide (k=(7:Int)) then bif decide ((↑(List.map D.str nms).length:Int)=(0:Int)) then bif decide ((↑(T.ds kids).length:Int)=(2:Int)) then zb (decide ((0:Int)<(↑(T.ds kids).length:Int))) (za (T.ds kids) (0:Int).toNat λ y=>za y.cells 0 λ c=>za y.cells 1 λ c_1=>za y.cells 2 λ c_2=>za y.cells 3 λ c_3=>za y.cells 4 λ c_4=>zc (zg m (D.agg [c,c_1,c_2,c_3,c_4])) λ b=>bif Sp.right b then zb (decide ((1:Int)<(↑(T.ds kids).length:Int))) (za (T.ds kids) (1:Int).toNat λ y=>za y.cells 0 λ c=>za y.cells 1 λ c_5=>za y.cells 2 λ c_6=>za y.cells 3 λ c_7=>za y.cells 4 λ c_8=>zc (Sp.toC (D.agg [c,c_5,c_6,c_7,c_8])) λ b=>some (Out.ret (V.d (D.bool (Sp.form b))),[])) else some (Out.ret (V.d (D.bool false)),[])) else some (Out.ret (V.d (D.bool false)),[]) else some (Out.ret (V.d (D.bool false)),[]) else bif decide (k=(10:Int)) then LP cx (KQ m) n 59 0 22 n [(1,V.ptr 1 0),(3,V.d (D.int .i64 (↑(List.map D.str nms).length:Int))),(4,V.d (D.int .i64 (↑(T.ds kids).length:Int))),(5,V.d (D.int .i64 (0:Int)))] [(1,Ob.val 5 (V.d (D.agg [D.int .i64 k,D.str nm,D.sl 5 (T.ds kids),D.sl 1 (List.map D.str nms),D.int .i64 pl])))] (AK cx (KQ m) n 59 0 22 (EK cx 59 0)) else some (Out.ret (V.d (D.bool false)),[]) else bif decide (k=(8:Int)) then bif decide (k=(8:Int)) then bif decide ((↑(List.map D.str nms).length:Int)=(0:Int)) then bif decide ((↑(T.ds kids).length:Int)=(2:Int)) then zb (decide ((0:Int)<(↑(T.ds kids).length:Int))) (za (T.ds kids) (0:Int).toNat λ y=>za y.cells 0 λ c=>za y.cells 1 λ c_1=>za y.cells 2 λ c_2=>za y.cells 3 λ c_3=>za y.cells 4 λ c_4=>zc (zg m (D.agg [c,c_1,c_2,c_3,c_4])) λ b=>bif Sp.right b then zb (decide ((1:Int)<(↑(T.ds kids).length:Int))) (za (T.ds kids) (1:Int).toNat λ y=>za y.cells 0 λ c=>za y.cells 1 λ c_5=>za y.cells 2 λ c_6=>za y.cells 3 λ c_7=>za y.cells 4 λ c_8=>zc (zg m (D.agg [c,c_5,c_6,c_7,c_8])) λ b=>some (Out.ret (V.d (D.bool (Sp.right b))),[])) else some (Out.ret (V.d (D.bool false)),[])) else some (Out.ret (V.d (D.bool false)),[]) else some (Out.ret (V.d (D.bool false)),[]) else bif decide (k=(7:Int)) then bif decide ((↑(List.map D.str nms).length:Int)=(0:Int)) then bif decide ((↑(T.ds kids).length:Int)=(2:Int)) then zb (decide ((0:Int)<(↑(T.ds kids).length:Int))) (za (T.ds kids) (0:Int).toNat λ y=>za y.cells 0 λ c=>za y.cells 1 λ c_1=>za y.cells 2 λ c_2=>za y.cells 3 λ c_3=>za y.cells 4 λ c_4=>zc (zg m (D.agg [c,c_1,c_2,c_3,c_4])) λ b=>bif Sp.right b then zb (decide ((1:Int)<(↑(T.ds kids).length:Int))) (za (T.ds kids) (1:Int).toNat λ y=>za y.cells 0 λ c=>za y.cells 1 λ c_5=>za y.cells 2 λ c_6=>za y.cells 3 λ c_7=>za y.cells 4 λ c_8=>zc (Sp.toC (D.agg [c,c_5,c_6,c_7,c_8])) λ b=>some (Out.ret (V.d (D.bool (Sp.form b))),[])) else some (Out.ret (V.d (D.bool false)),[])) else some (Out.ret (V.d (D.bool false)),[]) else some (Out.ret (V.d (D.bool false)),[]) else bif decide (k=(10:Int)) then LP cx (KQ m) n 59 0 22 n [(1,V.ptr 1 0),(3,V.d (D.int .i64 (↑(List.map D.str nms).length:Int))),(4,V.d (D.int .i64 (↑(T.ds kids).length:Int))),(5,V.d (D.int .i64 (0:Int)))] [(1,Ob.val 5 (V.d (D.agg [D.int .i64 k,D.str nm,D.sl 5 (T.ds kids),D.sl 1 (List.map D.str nms),D.int .i64 pl])))] (AK cx (KQ m) n 59 0 22 (EK cx 59 0)) else some (Out.ret (V.d (D.bool false)),[]) else bif decide (k=(9:Int)) then bif decide ((↑(List.map D.str nms).length:Int)=(0:Int)) then bif decide ((↑(T.ds kids).length:Int)=(2:Int)) then zb (decide ((0:Int)<(↑(T.ds kids).length:Int))) (za (T.ds kids) (0:Int).toNat λ y=>za y.cells 0 λ c=>za y.cells 1 λ c_1=>za y.cells 2 λ c_2=>za y.cells 3 λ c_3=>za y.cells 4 λ c_4=>zc (zg m (D.agg [c,c_1,c_2,c_3,c_4])) λ b=>bif Sp.right b then zb (decide ((1:Int)<(↑(T.ds kids).length:Int))) (za (T.ds kids) (1:Int).toNat λ y=>za y.cells 0 λ c=>za y.cells 1 λ c_5=>za y.cells 2 λ c_6=>za y.cells 3 λ c_7=>za y.cells 4 λ c_8=>zc (zg m (D.agg [c,c_5,c_6,c_7,c_8])) λ b=>some (Out.ret (V.d (D.bool (Sp.right b))),[])) else some (Out.ret (V.d (D.bool false)),[])) else some (Out.ret (V.d (D.bool false)),[]) else some (Out.ret (V.d (D.bool false)),[]) else bif decide (k=(7:Int)) then bif decide ((↑(List.map D.str nms).length:Int)=(0:Int)) then bif decide ((↑(T.ds kids).length:Int)=(2:Int)) then zb (decide ((0:Int)<(↑(T.ds kids).length:Int))) (za (T.ds kids) (0:Int).toNat λ y=>za y.cells 0 λ c=>za y.cells 1 λ c_1=>za y.cells 2 λ c_2=>za y.cells 3 λ c_3=>za y.cells 4 λ c_4=>zc (zg m (D.agg [c,c_1,c_2,c_3,c_4])) λ b=>bif Sp.right b then zb (decide ((1:Int)<(↑(T.ds kids).length:Int))) (za (T.ds kids) (1:Int).toNat λ y=>za y.cells 0 λ c=>za y.cells 1 λ c_5=>za y.cells 2 λ c_6=>za y.cells 3 λ c_7=>za y.cells 4 λ c_8=>zc (Sp.toC (D.agg [c,c_5,c_6,c_7,c_8])) λ b=>some (Out.ret (V.d (D.bool (Sp.form b))),[])) else some (Out.ret (V.d (D.bool false)),[])) else some (Out.ret (V.d (D.bool false)),[]) else some (Out.ret (V.d (D.bool false)),[]) else bif decide (k=(10:Int)) then LP cx (KQ m) n 59 0 22 n [(1,V.ptr 1 0),(3,V.d (D.int .i64 (↑(List.map D.str nms).length:Int))),(4,V.d (D.int .i64 (↑(T.ds kids).length:Int))),(5,V.d (D.int .i64 (0:Int)))] [(1,Ob.val 5 (V.d (D.agg [D.int .i64 k,D.str nm,D.sl 5 (T.ds kids),D.sl 1 (List.map D.str nms),D.int .i64 pl])))] (AK cx (KQ m) n 59 0 22 (EK cx 59 0)) else some (Out.ret (V.d (D.bool false)),[]) else bif decide (k=(5:Int)) then bif decide ((↑(List.map D.str nms).length:Int)<(2:Int)) then bif decide ((↑(T.ds kids).length:Int)=(2:Int)) then zb (decide ((0:Int)<(↑(T.ds kids).length:Int))) (za (T.ds kids) (0:Int).toNat λ y=>za y.cells 0 λ c=>za y.cells 1 λ c_1=>za y.cells 2 λ c_2=>za y.cells 3 λ c_3=>za y.cells 4 λ c_4=>zc (zg m (D.agg [c,c_1,c_2,c_3,c_4])) λ b=>bif Sp.right b then zb (decide ((1:Int)<(↑(T.ds kids).length:Int))) (za (T.ds kids) (1:Int).toNat λ y=>za y.cells 0 λ c=>za y.cells 1 λ c_5=>za y.cells 2 λ c_6=>za y.cells 3 λ c_7=>za y.cells 4 λ c_8=>zc (zg m (D.agg [c,c_5,c_6,c_7,c_8])) λ b=>some (Out.ret (V.d (D.bool (Sp.right b))),[])) else some (Out.ret (V.d (D.bool false)),[])) else some (Out.ret (V.d (D.bool false)),[]) else some (Out.ret (V.d (D.bool false)),[]) else bif decide (k=(6:Int)) then bif decide (k=(6:Int)) then bif decide ((↑(List.map D.str nms).length:Int)=(0:Int)) then bif decide ((↑(T.ds kids).length:Int)=(2:Int)) then zb (decide ((0:Int)<(↑(T.ds kids).length:Int))) (za (T.ds kids) (0:Int).toNat λ y=>za y.cells 0 λ c=>za y.cells 1 λ c_1=>za y.cells 2 λ c_2=>za y.cells 3 λ c_3=>za y.cells 4 λ c_4=>zc (zg m (D.agg [c,c_1,c_2,c_3,c_4])) λ b=>bif Sp.right b then zb (decide ((1:Int)<(↑(T.ds kids).length:Int))) (za (T.ds kids) (1:Int).toNat λ y=>za y.cells 0 λ c=>za y.cells 1 λ c_5=>za y.cells 2 λ c_6=>za y.cells 3 λ c_7=>za y.cells 4 λ c_8=>zc (zg m (D.agg [c,c_5,c_6,c_7,c_8])) λ b=>some (Out.ret (V.d (D.bool (Sp.right b))),[])) else some (Out.ret (V.d (D.bool false)),[])) else some (Out.ret (V.d (D.bool false)),[]) else some (Out.ret (V.d (D.bool false)),[]) else bif decide (k=(7:Int)) then bif decide ((↑(List.map D.str nms).length:Int)=(0:Int)) then bif decide ((↑(T.ds kids).length:Int)=(2:Int)) then zb (decide ((0:Int)<(↑(T.ds kids).length:Int))) (za (T.ds kids) (0:Int).toNat λ y=>za y.cells 0 λ c=>za y.cells 1 λ c_1=>za y.cells 2 λ c_2=>za y.cells 3 λ c_3=>za y.cells 4 λ c_4=>zc (zg m (D.agg [c,c_1,c_2,c_3,c_4])) λ b=>bif Sp.right b then zb (decide ((1:Int)<(↑(T.ds kids).length:Int))) (za (T.ds kids) (1:Int).toNat λ y=>za y.cells 0 λ c=>za y.cells 1 λ c_5=>za y.cells 2 λ c_6=>za y.cells 3 λ c_7=>za y.cells 4 λ c_8=>zc (Sp.toC (D.agg [c,c_5,c_6,c_7,c_8])) λ b=>some (Out.ret (V.d (D.bool (Sp.form b))),[])) else some (Out.ret (V.d (D.bool false)),[])) else some (Out.ret (V.d (D.bool false)),[]) else some (Out.ret (V.d (D.bool false)),[]) else bif decide (k=(10:Int)) then LP cx (KQ m) n 59 0 22 n [(1,V.ptr 1 0),(3,V.d (D.int .i64 (↑(List.map D.str nms).length:Int))),(4,V.d (D.int .i64 (↑(T.ds kids).length:Int))),(5,V.d (D.int .i64 (0:Int)))] [(1,Ob.val 5 (V.d (D.agg [D.int .i64 k,D.str nm,D.sl 5 (T.ds kids),D.sl 1 (List.map D.str nms),D.int .i64 pl])))] (AK cx (KQ m) n 59 0 22 (EK cx 59 0)) else some (Out.ret (V.d (D.bool false)),[]) else bif decide (k=(8:Int)) then bif decide (k=(8:Int)) then bif decide ((↑(List.map D.str nms).length:Int)=(0:Int)) then bif decide ((↑(T.ds kids).length:Int)=(2:Int)) then zb (decide ((0:Int)<(↑(T.ds kids).length:Int))) (za (T.ds kids) (0:Int).toNat λ y=>za y.cells 0 λ c=>za y.cells 1 λ c_1=>za y.cells 2 λ c_2=>za y.cells 3 λ c_3=>za y.cells 4 λ c_4=>zc (zg m (D.agg [c,c_1,c_2,c_3,c_4])) λ b=>bif Sp.right b then zb (decide ((1:Int)<(↑(T.ds kids).length:Int))) (za (T.ds kids) (1:Int).toNat λ y=>za y.cells 0 λ c=>za y.cells 1 λ c_5=>za y.cells 2 λ c_6=>za y.cells 3 λ c_7=>za y.cells 4 λ c_8=>zc (zg m (D.agg [c,c_5,c_6,c_7,c_8])) λ b=>some (Out.ret (V.d (D.bool (Sp.right b))),[])) else some (Out.ret (V.d (D.bool false)),[])) else some (Out.ret (V.d (D.bool false)),[]) else some (Out.ret (V.d (D.bool false)),[]) else bif decide (k=(7:Int)) then bif decide ((↑(List.map D.str nms).length:Int)=(0:Int)) then bif decide ((↑(T.ds kids).length:Int)=(2:Int)) then zb (decide ((0:Int)<(↑(T.ds kids).length:Int))) (za (T.ds kids) (0:Int).toNat λ y=>za y.cells 0 λ c=>za y.cells 1 λ c_1=>za y.cells 2 λ c_2=>za y.cells 3 λ c_3=>za y.cells 4 λ c_4=>zc (zg m (D.agg [c,c_1,c_2,c_3,c_4])) λ b=>bif Sp.right b then zb (decide ((1:Int)<(↑(T.ds kids).length:Int))) (za (T.ds kids) (1:Int).toNat λ y=>za y.cells 0 λ c=>za y.cells 1 λ c_5=>za y.cells 2 λ c_6=>za y.cells 3 λ c_7=>za y.cells 4 λ c_8=>zc (Sp.toC (D.agg [c,c_5,c_6,c_7,c_8])) λ b=>some (Out.ret (V.d (D.bool (Sp.form b))),[])) else some (Out.ret (V.d (D.bool false)),[])) else some (Out.ret (V.d (D.bool false)),[]) else some (Out.ret (V.d (D.bool false)),[]) else bif decide (k=(10:Int)) then LP cx (KQ m) n 59 0 22 n [(1,V.ptr 1 0),(3,V.d (D.int .i64 (↑(List.map D.str nms).length:Int))),(4,V.d (D.int .i64 (↑(T.ds kids).length:Int))),(5,V.d (D.int .i64 (0:Int)))] [(1,Ob.val 5 (V.d (D.agg [D.int .i64 k,D.str nm,D.sl 5 (T.ds kids),D.sl 1 (List.map D.str nms),D.int .i64 pl])))] (AK cx (KQ m) n 59 0 22 (EK cx 59 0)) else some (Out.ret (V.d (D.bool false)),[]) else bif decide (k=(9:Int)) then bif decide ((↑(List.map D.str nms).length:Int)=(0:Int)) then bif decide ((↑(T.ds kids).length:Int)=(2:Int)) then zb (decide ((0:Int)<(↑(T.ds kids).length:Int))) (za (T.ds kids) (0:Int).toNat λ y=>za y.cells 0 λ c=>za y.cells 1 λ c_1=>za y.cells 2 λ c_2=>za y.cells 3 λ c_3=>za y.cells 4 λ c_4=>zc (zg m (D.agg [c,c_1,c_2,c_3,c_4])) λ b=>bif Sp.right b then zb (decide ((1:Int)<(↑(T.ds kids).length:Int))) (za (T.ds kids) (1:Int).toNat λ y=>za y.cells 0 λ c=>za y.cells 1 λ c_5=>za y.cells 2 λ c_6=>za y.cells 3 λ c_7=>za y.cells 4 λ c_8=>zc (zg m (D.agg [c,c_5,c_6,c_7,c_8])) λ b=>some (Out.ret (V.d (D.bool (Sp.right b))),[])) else some (Out.ret (V.d (D.bool false)),[])) else some (Out.ret (V.d (D.bool false)),[]) else some (Out.ret (V.d (D.bool false)),[]) else bif decide (k=(7:Int)) then bif decide ((↑(List.map D.str nms).length:Int)=(0:Int)) then bif decide ((↑(T.ds kids).length:Int)=(2:Int)) then zb (decide ((0:Int)<(↑(T.ds kids).length:Int))) (za (T.ds kids) (0:Int).toNat λ y=>za y.cells 0 λ c=>za y.cells 1 λ c_1=>za y.cells 2 λ c_2=>za y.cells 3 λ c_3=>za y.cells 4 λ c_4=>zc (zg m (D.agg [c,c_1,c_2,c_3,c_4])) λ b=>bif Sp.right b then zb (decide ((1:Int)<(↑(T.ds kids).length:Int))) (za (T.ds kids) (1:Int).toNat λ y=>za y.cells 0 λ c=>za y.cells 1 λ c_5=>za y.cells 2 λ c_6=>za y.cells 3 λ c_7=>za y.cells 4 λ c_8=>zc (Sp.toC (D.agg [c,c_5,c_6,c_7,c_8])) λ b=>some (Out.ret (V.d (D.bool (Sp.form b))),[])) else some (Out.ret (V.d (D.bool false)),[])) else some (Out.ret (V.d (D.bool false)),[]) else some (Out.ret (V.d (D.bool false)),[]) else bif decide (k=(10:Int)) then LP cx (KQ m) n 59 0 22 n [(1,V.ptr 1 0),(3,V.d (D.int .i64 (↑(List.map D.str nms).length:Int))),(4,V.d (D.int .i64 (↑(T.ds kids).length:Int))),(5,V.d (D.int .i64 (0:Int)))] [(1,Ob.val 5 (V.d (D.agg [D.int .i64 k,D.str nm,D.sl 5 (T.ds kids),D.sl 1 (List.map D.str nms),D.int .i64 pl])))] (AK cx (KQ m) n 59 0 22 (EK cx 59 0)) else some (Out.ret (V.d (D.bool false)),[]) else bif decide (k=(3:Int)) then bif decide ((0:Int)<(↑(List.map D.str nms).length:Int)) then bif decide ((↑(T.ds kids).length:Int)=(1:Int)) then zb (decide ((0:Int)<(↑(T.ds kids).length:Int))) (za (T.ds kids) (0:Int).toNat λ y=>za y.cells 0 λ c=>za y.cells 1 λ c_1=>za y.cells 2 λ c_2=>za y.cells 3 λ c_3=>za y.cells 4 λ c_4=>zc (zg m (D.agg [c,c_1,c_2,c_3,c_4])) λ b=>some (Out.ret (V.d (D.bool (Sp.right b))),[])) else some (Out.ret (V.d (D.bool false)),[]) else some (Out.ret (V.d (D.bool false)),[]) else bif decide (k=(4:Int)) then bif decide (k=(4:Int)) then bif decide ((↑(List.map D.str nms).length:Int)<(2:Int)) then bif decide ((↑(T.ds kids).length:Int)=(2:Int)) then zb (decide ((0:Int)<(↑(T.ds kids).length:Int))) (za (T.ds kids) (0:Int).toNat λ y=>za y.cells 0 λ c=>za y.cells 1 λ c_1=>za y.cells 2 λ c_2=>za y.cells 3 λ c_3=>za y.cells 4 λ c_4=>zc (zg m (D.agg [c,c_1,c_2,c_3,c_4])) λ b=>bif Sp.right b then zb (decide ((1:Int)<(↑(T.ds kids).length:Int))) (za (T.ds kids) (1:Int).toNat λ y=>za y.cells 0 λ c=>za y.cells 1 λ c_5=>za y.cells 2 λ c_6=>za y.cells 3 λ c_7=>za y.cells 4 λ c_8=>zc (zg m (D.agg [c,c_5,c_6,c_7,c_8])) λ b=>some (Out.ret (V.d (D.bool (Sp.right b))),[])) else some (Out.ret (V.d (D.bool false)),[])) else some (Out.ret (V.d (D.bool false)),[]) else some (Out.ret (V.d (D.bool false)),[]) else bif decide (k=(6:Int)) then bif decide (k=(6:Int)) then bif decide ((↑(List.map D.str nms).length:Int)=(0:Int)) then bif decide ((↑(T.ds kids).length:Int)=(2:Int)) then zb (decide ((0:Int)<(↑(T.ds kids).length:Int))) (za (T.ds kids) (0:Int).toNat λ y=>za y.cells 0 λ c=>za y.cells 1 λ c_1=>za y.cells 2 λ c_2=>za y.cells 3 λ c_3=>za y.cells 4 λ c_4=>zc (zg m (D.agg [c,c_1,c_2,c_3,c_4])) λ b=>bif Sp.right b then zb (decide ((1:Int)<(↑(T.ds kids).length:Int))) (za (T.ds kids) (1:Int).toNat λ y=>za y.cells 0 λ c=>za y.cells 1 λ c_5=>za y.cells 2 λ c_6=>za y.cells 3 λ c_7=>za y.cells 4 λ c_8=>zc (zg m (D.agg [c,c_5,c_6,c_7,c_8])) λ b=>some (Out.ret (V.d (D.bool (Sp.right b))),[])) else some (Out.ret (V.d (D.bool false)),[])) else some (Out.ret (V.d (D.bool false)),[]) else some (Out.ret (V.d (D.bool false)),[]) else bif decide (k=(7:Int)) then bif decide ((↑(List.map D.str nms).length:Int)=(0:Int)) then bif decide ((↑(T.ds kids).length:Int)=(2:Int)) then zb (decide ((0:Int)<(↑(T.ds kids).length:Int))) (za (T.ds kids) (0:Int).toNat λ y=>za y.cells 0 λ c=>za y.cells 1 λ c_1=>za y.cells 2 λ c_2=>za y.cells 3 λ c_3=>za y.cells 4 λ c_4=>zc (zg m (D.agg [c,c_1,c_2,c_3,c_4])) λ b=>bif Sp.right b then zb (decide ((1:Int)<(↑(T.ds kids).length:Int))) (za (T.ds kids) (1:Int).toNat λ y=>za y.cells 0 λ c=>za y.cells 1 λ c_5=>za y.cells 2 λ c_6=>za y.cells 3 λ c_7=>za y.cells 4 λ c_8=>zc (Sp.toC (D.agg [c,c_5,c_6,c_7,c_8])) λ b=>some (Out.ret (V.d (D.bool (Sp.form b))),[])) else some (Out.ret (V.d (D.bool false)),[])) else some (Out.ret (V.d (D.bool false)),[]) else some (Out.ret (V.d (D.bool false)),[]) else bif decide (k=(10:Int)) then LP cx (KQ m) n 59 0 22 n [(1,V.ptr 1 0),(3,V.d (D.int .i64 (↑(List.map D.str nms).length:Int))),(4,V.d (D.int .i64 (↑(T.ds kids).length:Int))),(5,V.d (D.int .i64 (0:Int)))] [(1,Ob.val 5 (V.d (D.agg [D.int .i64 k,D.str nm,D.sl 5 (T.ds kids),D.sl 1 (List.map D.str nms),D.int .i64 pl])))] (AK cx (KQ m) n 59 0 22 (EK cx 59 0)) else some (Out.ret (V.d (D.bool false)),[]) else bif decide (k=(8:Int)) then bif decide (k=(8:Int)) then bif decide ((↑(List.map D.str nms).length:Int)=(0:Int)) then bif decide ((↑(T.ds kids).length:Int)=(2:Int)) then zb (decide ((0:Int)<(↑(T.ds kids).length:Int))) (za (T.ds kids) (0:Int).toNat λ y=>za y.cells 0 λ c=>za y.cells 1 λ c_1=>za y.cells 2 λ c_2=>za y.cells 3 λ c_3=>za y.cells 4 λ c_4=>zc (zg m (D.agg [c,c_1,c_2,c_3,c_4])) λ b=>bif Sp.right b then zb (decide ((1:Int)<(↑(T.ds kids).length:Int))) (za (T.ds kids) (1:Int).toNat λ y=>za y.cells 0 λ c=>za y.cells 1 λ c_5=>za y.cells 2 λ c_6=>za y.cells 3 λ c_7=>za y.cells 4 λ c_8=>zc (zg m (D.agg [c,c_5,c_6,c_7,c_8])) λ b=>some (Out.ret (V.d (D.bool (Sp.right b))),[])) else some (Out.ret (V.d (D.bool false)),[])) else some (Out.ret (V.d (D.bool false)),[]) else some (Out.ret (V.d (D.bool false)),[]) else bif decide (k=(7:Int)) then bif decide ((↑(List.map D.str nms).length:Int)=(0:Int)) then bif decide ((↑(T.ds kids).length:Int)=(2:Int)) then zb (decide ((0:Int)<(↑(T.ds kids).length:Int))) (za (T.ds kids) (0:Int).toNat λ y=>za y.cells 0 λ c=>za y.cells 1 λ c_1=>za y.cells 2 λ c_2=>za y.cells 3 λ c_3=>za y.cells 4 λ c_4=>zc (zg m (D.agg [c,c_1,c_2,c_3,c_4])) λ b=>bif Sp.right b then zb (decide ((1:Int)<(↑(T.ds kids).length:Int))) (za (T.ds kids) (1:Int).toNat λ y=>za y.cells 0 λ c=>za y.cells 1 λ c_5=>za y.cells 2 λ c_6=>za y.cells 3 λ c_7=>za y.cells 4 λ c_8=>zc (Sp.toC (D.agg [c,c_5,c_6,c_7,c_8])) λ b=>some (Out.ret (V.d (D.bool (Sp.form b))),[])) else some (Out.ret (V.d (D.bool false)),[])) else some (Out.ret (V.d (D.bool false)),[]) else some (Out.ret (V.d (D.bool false)),[]) else bif decide (k=(10:Int)) then LP cx (KQ m) n 59 0 22 n [(1,V.ptr 1 0),(3,V.d (D.int .i64 (↑(List.map D.str nms).length:Int))),(4,V.d (D.int .i64 (↑(T.ds kids).length:Int))),(5,V.d (D.int .i64 (0:Int)))] [(1,Ob.val 5 (V.d (D.agg [D.int .i64 k,D.str nm,D.sl 5 (T.ds kids),D.sl 1 (List.map D.str nms),D.int .i64 pl])))] (AK cx (KQ m) n 59 0 22 (EK cx 59 0)) else some (Out.ret (V.d (D.bool false)),[]) else bif decide (k=(9:Int)) then bif decide ((↑(List.map D.str nms).length:Int)=(0:Int)) then bif decide ((↑(T.ds kids).length:Int)=(2:Int)) then zb (decide ((0:Int)<(↑(T.ds kids).length:Int))) (za (T.ds kids) (0:Int).toNat λ y=>za y.cells 0 λ c=>za y.cells 1 λ c_1=>za y.cells 2 λ c_2=>za y.cells 3 λ c_3=>za y.cells 4 λ c_4=>zc (zg m (D.agg [c,c_1,c_2,c_3,c_4])) λ b=>bif Sp.right b then zb (decide ((1:Int)<(↑(T.ds kids).length:Int))) (za (T.ds kids) (1:Int).toNat λ y=>za y.cells 0 λ c=>za y.cells 1 λ c_5=>za y.cells 2 λ c_6=>za y.cells 3 λ c_7=>za y.cells 4 λ c_8=>zc (zg m (D.agg [c,c_5,c_6,c_7,c_8])) λ b=>some (Out.ret (V.d (D.bool (Sp.right b))),[])) else some (Out.ret (V.d (D.bool false)),[])) else some (Out.ret (V.d (D.bool false)),[]) else some (Out.ret (V.d (D.bool false)),[]) else bif decide (k=(7:Int)) then bif decide ((↑(List.map D.str nms).length:Int)=(0:Int)) then bif decide ((↑(T.ds kids).length:Int)=(2:Int)) then zb (decide ((0:Int)<(↑(T.ds kids).length:Int))) (za (T.ds kids) (0:Int).toNat λ y=>za y.cells 0 λ c=>za y.cells 1 λ c_1=>za y.cells 2 λ c_2=>za y.cells 3 λ c_3=>za y.cells 4 λ c_4=>zc (zg m (D.agg [c,c_1,c_2,c_3,c_4])) λ b=>bif Sp.right b then zb (decide ((1:Int)<(↑(T.ds kids).length:Int))) (za (T.ds kids) (1:Int).toNat λ y=>za y.cells 0 λ c=>za y.cells 1 λ c_5=>za y.cells 2 λ c_6=>za y.cells 3 λ c_7=>za y.cells 4 λ c_8=>zc (Sp.toC (D.agg [c,c_5,c_6,c_7,c_8])) λ b=>some (Out.ret (V.d (D.bool (Sp.form b))),[])) else some (Out.ret (V.d (D.bool false)),[])) else some (Out.ret (V.d (D.bool false)),[]) else some (Out.ret (V.d (D.bool false)),[]) else bif decide (k=(10:Int)) then LP cx (KQ m) n 59 0 22 n [(1,V.ptr 1 0),(3,V.d (D.int .i64 (↑(List.map D.str nms).length:Int))),(4,V.d (D.int .i64 (↑(T.ds kids).length:Int))),(5,V.d (D.int .i64 (0:Int)))] [(1,Ob.val 5 (V.d (D.agg [D.int .i64 k,D.str nm,D.sl 5 (T.ds kids),D.sl 1 (List.map D.str nms),D.int .i64 pl])))] (AK cx (KQ m) n 59 0 22 (EK cx 59 0)) else some (Out.ret (V.d (D.bool false)),[]) else bif decide (k=(5:Int)) then bif decide ((↑(List.map D.str nms).length:Int)<(2:Int)) then bif decide ((↑(T.ds kids).length:Int)=(2:Int)) then zb (decide ((0:Int)<(↑(T.ds kids).length:Int))) (za (T.ds kids) (0:Int).toNat λ y=>za y.cells 0 λ c=>za y.cells 1 λ c_1=>za y.cells 2 λ c_2=>za y.cells 3 λ c_3=>za y.cells 4 λ c_4=>zc (zg m (D.agg [c,c_1,c_2,c_3,c_4])) λ b=>bif Sp.right b then zb (decide ((1:Int)<(↑(T.ds kids).length:Int))) (za (T.ds kids) (1:Int).toNat λ y=>za y.cells 0 λ c=>za y.cells 1 λ c_5=>za y.cells 2 λ c_6=>za y.cells 3 λ c_7=>za y.cells 4 λ c_8=>zc (zg m (D.agg [c,c_5,c_6,c_7,c_8])) λ b=>some (Out.ret (V.d (D.bool (Sp.right b))),[])) else some (Out.ret (V.d (D.bool false)),[])) else some (Out.ret (V.d (D.bool false)),[]) else some (Out.ret (V.d (D.bool false)),[]) else bif decide (k=(6:Int)) then bif decide (k=(6:Int)) then bif decide ((↑(List.map D.str nms).length:Int)=(0:Int)) then bif decide ((↑(T.ds kids).length:Int)=(2:Int)) then zb (decide ((0:Int)<(↑(T.ds kids).length:Int))) (za (T.ds kids) (0:Int).toNat λ y=>za y.cells 0 λ c=>za y.cells 1 λ c_1=>za y.cells 2 λ c_2=>za y.cells 3 λ c_3=>za y.cells 4 λ c_4=>zc (zg m (D.agg [c,c_1,c_2,c_3,c_4])) λ b=>bif Sp.right b then zb (decide ((1:Int)<(↑(T.ds kids).length:Int))) (za (T.ds kids) (1:Int).toNat λ y=>za y.cells 0 λ c=>za y.cells 1 λ c_5=>za y.cells 2 λ c_6=>za y.cells 3 λ c_7=>za y.cells 4 λ c_8=>zc (zg m (D.agg [c,c_5,c_6,c_7,c_8])) λ b=>some (Out.ret (V.d (D.bool (Sp.right b))),[])) else some (Out.ret (V.d (D.bool false)),[])) else some (Out.ret (V.d (D.bool false)),[]) else some (Out.ret (V.d (D.bool false)),[]) else bif decide (k=(7:Int)) then bif decide ((↑(List.map D.str nms).length:Int)=(0:Int)) then bif decide ((↑(T.ds kids).length:Int)=(2:Int)) then zb (decide ((0:Int)<(↑(T.ds kids).length:Int))) (za (T.ds kids) (0:Int).toNat λ y=>za y.cells 0 λ c=>za y.cells 1 λ c_1=>za y.cells 2 λ c_2=>za y.cells 3 λ c_3=>za y.cells 4 λ c_4=>zc (zg m (D.agg [c,c_1,c_2,c_3,c_4])) λ b=>bif Sp.right b then zb (decide ((1:Int)<(↑(T.ds kids).length:Int))) (za (T.ds kids) (1:Int).toNat λ y=>za y.cells 0 λ c=>za y.cells 1 λ c_5=>za y.cells 2 λ c_6=>za y.cells 3 λ c_7=>za y.cells 4 λ c_8=>zc (Sp.toC (D.agg [c,c_5,c_6,c_7,c_8])) λ b=>some (Out.ret (V.d (D.bool (Sp.form b))),[])) else some (Out.ret (V.d (D.bool false)),[])) else some (Out.ret (V.d (D.bool false)),[]) else some (Out.ret (V.d (D.bool false)),[]) else bif decide (k=(10:Int)) then LP cx (KQ m) n 59 0 22 n [(1,V.ptr 1 0),(3,V.d (D.int .i64 (↑(List.map D.str nms).length:Int))),(4,V.d (D.int .i64 (↑(T.ds kids).length:Int))),(5,V.d (D.int .i64 (0:Int)))] [(1,Ob.val 5 (V.d (D.agg [D.int .i64 k,D.str nm,D.sl 5 (T.ds kids),D.sl 1 (List.map D.str nms),D.int .i64 pl])))] (AK cx (KQ m) n 59 0 22 (EK cx 59 0)) else some (Out.ret (V.d (D.bool false)),[]) else bif decide (k=(8:Int)) then bif decide (k=(8:Int)) then bif decide ((↑(List.map D.str nms).length:Int)=(0:Int)) then bif decide ((↑(T.ds kids).length:Int)=(2:Int)) then zb (decide ((0:Int)<(↑(T.ds kids).length:Int))) (za (T.ds kids) (0:Int).toNat λ y=>za y.cells 0 λ c=>za y.cells 1 λ c_1=>za y.cells 2 λ c_2=>za y.cells 3 λ c_3=>za y.cells 4 λ c_4=>zc (zg m (D.agg [c,c_1,c_2,c_3,c_4])) λ b=>bif Sp.right b then zb (decide ((1:Int)<(↑(T.ds kids).length:Int))) (za (T.ds kids) (1:Int).toNat λ y=>za y.cells 0 λ c=>za y.cells 1 λ c_5=>za y.cells 2 λ c_6=>za y.cells 3 λ c_7=>za y.cells 4 λ c_8=>zc (zg m (D.agg [c,c_5,c_6,c_7,c_8])) λ b=>some (Out.ret (V.d (D.bool (Sp.right b))),[])) else some (Out.ret (V.d (D.bool false)),[])) else some (Out.ret (V.d (D.bool false)),[]) else some (Out.ret (V.d (D.bool false)),[]) else bif decide (k=(7:Int)) then bif decide ((↑(List.map D.str nms).length:Int)=(0:Int)) then bif decide ((↑(T.ds kids).length:Int)=(2:Int)) then zb (decide ((0:Int)<(↑(T.ds kids).length:Int))) (za (T.ds kids) (0:Int).toNat λ y=>za y.cells 0 λ c=>za y.cells 1 λ c_1=>za y.cells 2 λ c_2=>za y.cells 3 λ c_3=>za y.cells 4 λ c_4=>zc (zg m (D.agg [c,c_1,c_2,c_3,c_4])) λ b=>bif Sp.right b then zb (decide ((1:Int)<(↑(T.ds kids).length:Int))) (za (T.ds kids) (1:Int).toNat λ y=>za y.cells 0 λ c=>za y.cells 1 λ c_5=>za y.cells 2 λ c_6=>za y.cells 3 λ c_7=>za y.cells 4 λ c_8=>zc (Sp.toC (D.agg [c,c_5,c_6,c_7,c_8])) λ b=>some (Out.ret (V.d (D.bool (Sp.form b))),[])) else some (Out.ret (V.d (D.bool false)),[])) else some (Out.ret (V.d (D.bool false)),[]) else some (Out.ret (V.d (D.bool false)),[]) else bif decide (k=(10:Int)) then LP cx (KQ m) n 59 0 22 n [(1,V.ptr 1 0),(3,V.d (D.int .i64 (↑(List.map D.str nms).length:Int))),(4,V.d (D.int .i64 (↑(T.ds kids).length:Int))),(5,V.d (D.int .i64 (0:Int)))] [(1,Ob.val 5 (V.d (D.agg [D.int .i64 k,D.str nm,D.sl 5 (T.ds kids),D.sl 1 (List.map D.str nms),D.int .i64 pl])))] (AK cx (KQ m) n 59 0 22 (EK cx 59 0)) else some (Out.ret (V.d (D.bool false)),[]) else bif decide (k=(9:Int)) then bif decide ((↑(List.map D.str nms).length:Int)=(0:Int)) then bif decide ((↑(T.ds kids).length:Int)=(2:Int)) then zb (decide ((0:Int)<(↑(T.ds kids).length:Int))) (za (T.ds kids) (0:Int).toNat λ y=>za y.cells 0 λ c=>za y.cells 1 λ c_1=>za y.cells 2 λ c_2=>za y.cells 3 λ c_3=>za y.cells 4 λ c_4=>zc (zg m (D.agg [c,c_1,c_2,c_3,c_4])) λ b=>bif Sp.right b then zb (decide ((1:Int)<(↑(T.ds kids).length:Int))) (za (T.ds kids) (1:Int).toNat λ y=>za y.cells 0 λ c=>za y.cells 1 λ c_5=>za y.cells 2 λ c_6=>za y.cells 3 λ c_7=>za y.cells 4 λ c_8=>zc (zg m (D.agg [c,c_5,c_6,c_7,c_8])) λ b=>some (Out.ret (V.d (D.bool (Sp.right b))),[])) else some (Out.ret (V.d (D.bool false)),[])) else some (Out.ret (V.d (D.bool false)),[]) else some (Out.ret (V.d (D.bool false)),[]) else bif decide (k=(7:Int)) then bif decide ((↑(List.map D.str nms).length:Int)=(0:Int)) then bif decide ((↑(T.ds kids).length:Int)=(2:Int)) then zb (decide ((0:Int)<(↑(T.ds kids).length:Int))) (za (T.ds kids) (0:Int).toNat λ y=>za y.cells 0 λ c=>za y.cells 1 λ c_1=>za y.cells 2 λ c_2=>za y.cells 3 λ c_3=>za y.cells 4 λ c_4=>zc (zg m (D.agg [c,c_1,c_2,c_3,c_4])) λ b=>bif Sp.right b then zb (decide ((1:Int)<(↑(T.ds kids).length:Int))) (za (T.ds kids) (1:Int).toNat λ y=>za y.cells 0 λ c=>za y.cells 1 λ c_5=>za y.cells 2 λ c_6=>za y.cells 3 λ c_7=>za y.cells 4 λ c_8=>zc (Sp.toC (D.agg [c,c_5,c_6,c_7,c_8])) λ b=>some (Out.ret (V.d (D.bool (Sp.form b))),[])) else some (Out.ret (V.d (D.bool false)),[])) else some (Out.ret (V.d (D.bool false)),[]) else some (Out.ret (V.d (D.bool false)),[]) else bif decide (k=(10:Int)) then LP cx (KQ m) n 59 0 22 n [(1,V.ptr 1 0),(3,V.d (D.int .i64 (↑(List.map D.str nms).length:Int))),(4,V.d (D.int .i64 (↑(T.ds kids).length:Int))),(5,V.d (D.int .i64 (0:Int)))] [(1,Ob.val 5 (V.d (D.agg [D.int .i64 k,D.str nm,D.sl 5 (T.ds kids),D.sl 1 (List.map D.str nms),D.int .i64 pl])))] (AK cx (KQ m) n 59 0 22 (EK cx 59 0)) else some (Out.ret (V.d (D.bool false)),[]):=by kernel_rfl
theorem l42(n m r:Nat)(k a:Int)(nm:List UInt8)(kids:List T)(nms:List (List UInt8))(pl i:Int):LP cx (KQ m) n 59 0 22 (r+1) [(1,V.ptr 1 0),(3,V.d (D.int .i64 a)),(4,V.d (D.int .i64 (kids.length:Int))),(5,V.d (D.int .i64 i))] [(1,Ob.val 5 (V.d (D.agg [D.int .i64 k,D.str nm,D.sl 5 (T.ds kids),D.sl 1 (List.map D.str nms),D.int .i64 pl])))] (AK cx (KQ m) n 59 0 22 (EK cx 59 0))=bif decide (i<(↑kids.length:Int)) then zb (decide (0≤i)&&decide (i<(↑(T.ds kids).length:Int))) (za (T.ds kids) i.toNat λ y=>za y.cells 0 λ c=>za y.cells 1 λ c_1=>za y.cells 2 λ c_2=>za y.cells 3 λ c_3=>za y.cells 4 λ c_4=>match c with
 | D.int k' n_1=>bif decide (k'=IntKind.i64) then bif !decide (n_1=(11:Int)) then some (Out.ret (V.d (D.bool false)),[]) else match c_1 with
  | D.str s=>bif !decide (s=[]) then some (Out.ret (V.d (D.bool false)),[]) else match c_3 with
   | D.sl s l=>bif s.beq (cx.P.cellsOf 9)||l.isEmpty then bif decide ((0:Int)<(↑l.length:Int)) then some (Out.ret (V.d (D.bool false)),[]) else match c_2 with
    | D.sl s l=>bif s.beq (cx.P.cellsOf 26)||l.isEmpty then bif decide ((↑l.length:Int)<(1:Int)) then some (Out.ret (V.d (D.bool false)),[]) else match c_2 with
     | D.sl s l=>bif s.beq (cx.P.cellsOf 26)||l.isEmpty then bif decide ((2:Int)<(↑l.length:Int)) then some (Out.ret (V.d (D.bool false)),[]) else match c_2 with
      | D.sl s l=>bif s.beq (cx.P.cellsOf 26)||l.isEmpty then zb (decide ((0:Int)<(↑l.length:Int))) (za l (0:Int).toNat λ y=>za y.cells 0 λ c=>za y.cells 1 λ c_5=>za y.cells 2 λ c_6=>za y.cells 3 λ c_7=>za y.cells 4 λ c_8=>zc (Sp.toC (D.agg [c,c_5,c_6,c_7,c_8])) λ b=>bif !qp b then some (Out.ret (V.d (D.bool false)),[]) else match c_2 with
       | D.sl s l=>bif s.beq (cx.P.cellsOf 26)||l.isEmpty then bif decide ((↑l.length:Int)=(2:Int)) then match c_2 with
        | D.sl s l=>bif s.beq (cx.P.cellsOf 26)||l.isEmpty then zb (decide ((1:Int)<(↑l.length:Int))) (za l (1:Int).toNat λ y=>za y.cells 0 λ c=>za y.cells 1 λ c_9=>za y.cells 2 λ c_10=>za y.cells 3 λ c_11=>za y.cells 4 λ c_12=>zc (zg m (D.agg [c,c_9,c_10,c_11,c_12])) λ b=>bif !Sp.right b then some (Out.ret (V.d (D.bool false)),[]) else LP cx (KQ m) n 59 0 22 r [(1,V.ptr 1 0),(3,V.d (D.int .i64 a)),(4,V.d (D.int .i64 (↑kids.length:Int))),(5,V.d (D.int .i64 (IntKind.i64.wrap (i+Int.ofNat 1))))] [(1,Ob.val 5 (V.d (D.agg [D.int .i64 k,D.str nm,D.sl 5 (T.ds kids),D.sl 1 (List.map D.str nms),D.int .i64 pl])))] (AK cx (KQ m) n 59 0 22 (EK cx 59 0))) else none
        | x=>none else LP cx (KQ m) n 59 0 22 r [(1,V.ptr 1 0),(3,V.d (D.int .i64 a)),(4,V.d (D.int .i64 (↑kids.length:Int))),(5,V.d (D.int .i64 (IntKind.i64.wrap (i+(1:Int)))))] [(1,Ob.val 5 (V.d (D.agg [D.int .i64 k,D.str nm,D.sl 5 (T.ds kids),D.sl 1 (List.map D.str nms),D.int .i64 pl])))] (AK cx (KQ m) n 59 0 22 (EK cx 59 0)) else none
       | x=>none) else none
      | x=>none else none
     | x=>none else none
    | x=>none else none
   | x=>none
  | x=>none else none
 | x=>none) else some (Out.ret (V.d (D.bool (decide (a=(0:Int))))),[]):=by kernel_rfl
theorem z7r:∀ (m:Nat) (t:T),t.depth≤m→t.ok=true→zh cx 95 [.d t.d] []=some (.ret (mkB (Sp.form t)),[])
 | 0,.mk ..,h,_=>by simp [T.depth] at h
 | m+1,.mk k nm kids nms pl,hd,ho=>by
  have hK:knows cx (zt 95 vp (zg m) (λ t=>mkB (Sp.form t)) K1).S (zh cx):=zj zgc λ a q b _ h hb=>by
   obtain rfl:=xy h;obtain ⟨rfl,h1,h2⟩:=y5 hb;exact z7r m b h1 h2
  obtain ⟨h1,h2,h3,h4,h5⟩:=wu ho;have hkd:=vo hd;refine zk hK (N:=0) ?_;refine (g74 0 m k nm kids nms pl).trans ?_;have hT:∀ t∈kids,zg m t.d=some t:=λ t h=>zad hkd h5 h;simp only [zc,zo,pf,ql h1,zb,cond_true,zz,yb,xo,wz,vc,vb,va,wj,zot,zl4,ztl,zkz,zmz];clear hK ho hd;have hk:k=1∨k=17∨k=16∨k=15∨k=14∨(k ≠ 1∧k ≠ 17∧k ≠ 16∧k ≠ 15∧k ≠ 14):=by omega
  rcases hk with rfl | rfl | rfl | rfl | rfl | ⟨q1,q2,q3,q4,q5⟩ <;> rcases kids with _ | ⟨a,_ | ⟨b,_ | ⟨c,l⟩⟩⟩ <;> rcases nms with _ | ⟨x,nms⟩ <;> simp [Sp.form,mkB,Sp.bit,hT,zbp,zg8,Bool.and_assoc, *]
theorem zw0:Nat.beq 1 (cx.P.cellsOf 9)=true:=by kernel_rfl
theorem zfv:Nat.beq 5 (cx.P.cellsOf 26)=true:=by kernel_rfl
theorem ybm(t:T)(ho:t.ok=true):zh cx 97 [.d t.d] []=some (.ret (mkB (qp t)),[]):=by
 obtain ⟨k,nm,kids,nms,pl⟩:=t;obtain ⟨h1,h2,h3,h4,h5⟩:=wu ho;refine zk zgc (N:=kids.length+1) ?_;refine (g76 (kids.length+1) k nm kids nms pl).trans ?_
 have h:=vr (λ r i=>LP cx K1 (kids.length+1) 97 0 4 r [(1,V.ptr 1 0),(3,V.d (D.int .i64 i))] [(1,Ob.val 5 (V.d (D.agg [D.int .i64 k,D.str nm,D.sl 5 (T.ds kids),D.sl 1 (List.map D.str nms),D.int .i64 pl])))] (AK cx K1 (kids.length+1) 97 0 4 (EK cx 97 0)))
  kids (λ t=>!qq t) (λ j=>some (Out.ret (V.d (D.bool false)),[])) (some (Out.ret (V.d (D.bool true)),[])) (yh h2)
  (λ r j x hj hx=>by
   rw [l76,zo,z6 hj,yy,zz,pm,hx];obtain ⟨q1,q2,q3,q4,q5⟩:yd x.nm=true∧yd x.kids=true∧yd x.nms=true∧x.nms.all yd=true∧T.oks x.kids=true:=by
    have:=wn h5 (po hx);cases x; exact wu this
   generalize LP cx K1 (kids.length+1) 97 0 4 r _ _ _=Z;obtain ⟨k',nm',kids',nms',pl'⟩:=x;simp only [zkr,zac,zgs] at q1 q2 q3 q4 q5;simp only [cond_true,zb,zc,Bool.and_self,yb,xo,wz,vc,vb,va,zl8,zkr,zac,zgs,z7k,decide_true,zw0,zfv,Bool.true_or,zo,pf,zkz,zl4,zot,xx,ql q1];have hk:k'=13∨k' ≠ 13:=by omega
   rcases hk with rfl | hk <;> rcases kids' with _ | ⟨a,kids'⟩ <;> rcases nms' with _ | ⟨y,_ | ⟨z,nms'⟩⟩ <;> simp [qq,Sp.bit,xo,D.cells, *]
   cases Sp.named nm' <;> cases decide (y=[48]) <;> cases decide (y=[49]) <;> rfl) (λ r=>by rw [l76,zo,yj,cond_false]) (k:=kids.length+1) (by omega)
 rw [h,pf,zkz];have e:kids.all qq = !(kids.any λ s=>!qq s):=by rw [List.not_any_eq_all_not]; simp
 simp only [mkB,qp,e,←zbc kids 0];cases ym (λ t=>!qq t) kids 0 <;> rcases nms with _ | ⟨x,nms⟩ <;> simp [zbp]
theorem z5t:knows cx K8.S (zh cx):=by
 have h75:=zj (f:=96) (dec:=vp) (sp:=zgb) (mk:=λ l=>mkB (l.all Sp.named)) zgc λ a q b hd h hb=>by
  obtain rfl:=xy h;obtain ⟨rfl,h1,h2⟩:=zkq hb;exact ybn b h1 h2
 have h76:=zj (f:=97) (dec:=vp) (sp:=Sp.toC) (mk:=λ t=>mkB (qp t)) h75 λ a q b hd h hb=>by
  obtain rfl:=xy h;obtain ⟨rfl,h1⟩:=xz hb;exact ybm b h1
 exact zj h76 λ a q b hd h hb=>by
  obtain rfl:=xy h;obtain ⟨rfl,h1⟩:=xz hb;exact z7r b.depth b (Nat.le_refl _) h1
abbrev L42 (m n r:Nat) (k a:Int) (nm:List UInt8) (kids:List T) (nms:List (List UInt8)) (pl i:Int):Option R1:=
 LP cx (KQ m) n 59 0 22 r [(1,V.ptr 1 0),(3,V.d (D.int .i64 a)),(4,V.d (D.int .i64 (kids.length:Int))),(5,V.d (D.int .i64 i))] [(1,Ob.val 5 (V.d (D.agg [D.int .i64 k,D.str nm,D.sl 5 (T.ds kids),D.sl 1 (List.map D.str nms),D.int .i64 pl])))] (AK cx (KQ m) n 59 0 22 (EK cx 59 0))
theorem z80{m:Nat}{k:Int}{nm:List UInt8}{kids:List T}{nms:List (List UInt8)}{pl:Int}(h2:yd kids=true)(h5:T.oks kids=true)(hkd:T.depths kids≤m)(a:Int)(N:Nat)(hN:kids.length<N) :
  L42 m N N k a nm kids nms pl 0=some (.ret (mkB (decide (a=0)&&kids.all Sp.elem)),[]):=by
 have h:=vr (λ r i=>L42 m N r k a nm kids nms pl i)
  kids (λ t=>!Sp.elem t) (λ j=>some (Out.ret (V.d (D.bool false)),[])) (some (Out.ret (V.d (D.bool (decide (a=0)))),[])) (yh h2)
  (λ r j x hj hx=>by
   simp only [L42];rw [l42,zo,z6 hj,yy,zz,pm,hx];have hxm:=po hx;obtain ⟨q1,q2,q3,q4,q5⟩:yd x.nm=true∧yd x.kids=true∧yd x.nms=true∧x.nms.all yd=true∧T.oks x.kids=true:=by
    have:=wn h5 hxm;cases x; exact wu this
   have hdx:T.depths x.kids≤m:=by
    have:=zf8 hxm;cases x; simp only [T.depth] at this; simp only [T.kids]; omega
   have hT:∀ t∈x.kids,zg m t.d=some t:=λ t h=>zad hdx q5 h;have hC:∀ t∈x.kids,Sp.toC t.d=some t:=λ t h=>zdf q5 h;generalize LP cx (KQ m) N 59 0 22 r _ _ _=Z;obtain ⟨k',nm',kids',nms',pl'⟩:=x;simp only [zkr,zac,zgs] at q1 q2 q3 q4 q5 hT hC hdx;simp only [cond_true,zb,zc,Bool.and_self,yb,xo,wz,vc,vb,va,zl8,zkr,zac,zgs,z7k,decide_true,zw0,zfv,Bool.true_or,zo,pf,zkz,zmz,zl4,ztl,zot,zz,wj];have hk:k'=11∨k' ≠ 11:=by omega
   rcases hk with rfl | hk <;> rcases kids' with _ | ⟨b,_ | ⟨c,_ | ⟨d,l⟩⟩⟩ <;> rcases nms' with _ | ⟨y,nms'⟩ <;> simp [Sp.elem,hT,hC, *]
   ·cases decide (nm'=[]) <;> cases qp b <;> rfl
   ·cases decide (nm'=[]) <;> cases qp b <;> cases Sp.right c <;> rfl
   ·rw [pb (p:=(l.length:Int)+1+1+1<1) (by omega),pa (p:=(2:Int)<(l.length:Int)+1+1+1) (by omega)]
    cases decide (nm'=[]) <;> rfl) (λ r=>by rw [L42,l42,yj,cond_false]) (k:=N) hN
 rw [h];have e:kids.all Sp.elem = !(kids.any λ s=>!Sp.elem s):=by rw [List.not_any_eq_all_not]; simp
 simp only [mkB,e,←zbc kids 0];cases ym (λ t=>!Sp.elem t) kids 0 <;> simp
theorem z7u:∀ (m:Nat) (t:T),t.depth≤m→t.ok=true→zh cx 59 [.d t.d] []=some (.ret (mkB (Sp.right t)),[])
 | 0,.mk ..,h,_=>by simp [T.depth] at h
 | m+1,.mk k nm kids nms pl,hd,ho=>by
  have hQ:knows cx (KQ m).S (zh cx):=zj z5t λ a q b _ h hb=>by
   obtain rfl:=xy h;obtain ⟨rfl,h1,h2⟩:=y5 hb;exact z7u m b h1 h2
  obtain ⟨h1,h2,h3,h4,h5⟩:=wu ho;have hkd:=vo hd;refine zk hQ (N:=kids.length+1) ?_;refine (g42 (kids.length+1) m k nm kids nms pl).trans ?_;have hC:Sp.toC (D.agg [D.int .i64 k,D.str nm,D.sl 5 (T.ds kids),D.sl 1 (List.map D.str nms),D.int .i64 pl])=some (.mk k nm kids nms pl):=zhl ho;have hT:∀ t∈kids,zg m t.d=some t:=λ t h=>zad hkd h5 h;have hTC:∀ t∈kids,Sp.toC t.d=some t:=λ t h=>zdf h5 h;have hL:=z80 (k:=k) (nm:=nm) (nms:=nms) (pl:=pl) h2 h5 hkd (nms.length:Int) (kids.length+1) (by omega)
  simp only [L42] at hL;simp only [hC,zu4 h3 h4,zc,zo,pf,ql h1,zb,cond_true,zz,yb,xo,wz,vc,vb,va,wj,zot,zl4,ztl,zkz,zmz,decide_true,Bool.and_true,hL];clear hL hC hQ ho hd;have hk:k=1∨k=2∨k=3∨k=4∨k=5∨k=6∨k=7∨k=8∨k=9∨k=10∨(k ≠ 1∧k ≠ 2∧k ≠ 3∧k ≠ 4∧k ≠ 5∧k ≠ 6∧k ≠ 7∧k ≠ 8∧k ≠ 9∧k ≠ 10):=by omega
  rcases hk with rfl | rfl | rfl | rfl | rfl | rfl | rfl | rfl | rfl | rfl | ⟨q1,q2,q3,q4,q5,q6,q7,q8,q9,q10⟩
  all_goals simp only [*,Int.reduceEq,decide_true,decide_false,cond_true,cond_false]
  all_goals rcases kids with _ | ⟨a,_ | ⟨b,_ | ⟨c,l⟩⟩⟩
  all_goals rcases nms with _ | ⟨x,_ | ⟨y,nms⟩⟩
  all_goals simp [Sp.right,Sp.form,mkB,hT,hTC,zbp,zg8,zmg,Bool.and_assoc,List.not_any_eq_all_not,zf6]
  all_goals first | (simp [*]; done) | (rw [pb (p:=((nms.length:Int)+1+1<2)) (by omega),pb (p:=nms.length+1+1<2) (by omega)]; simp)
def adV:Bool→V | true=>.ptr 0 0 | false=>.d .nilptr
def psS(u:Bool)(L:List D):St:=[(0,.val 187695107 (.agg [adV u,.sl 6291457 L 1,.d (.bool false)])),(1,.tok L.length)]
def Sp.app(L:List D)(s:List UInt8):List D:=L++s.map λ b=>.int .u8 b.toNat
def Sp.room(L:List D)(s:List UInt8):Bool:=decide (L.length+s.length≤65536)
def Sp.fit(n:Nat)(L:List D):Bool:=decide (n=L.length)
theorem ye(L:List D):Sp.fit L.length L=true:=pa rfl
theorem xp(L:List D)(s t:List UInt8):Sp.app (Sp.app L s) t=Sp.app L (s++t):=by simp [Sp.app]
theorem x9(L:List D)(s:List UInt8):(Sp.app L s).length=L.length+s.length:=by simp [Sp.app]
theorem zfw{L:List D}{s t:List UInt8}(h:Sp.room L (s++t)=true):Sp.room L s=true∧Sp.room (Sp.app L s) t=true:=by
 simp only [Sp.room,decide_eq_true_eq,pe,x9] at h ⊢;omega
def z1g:List D→Option (List UInt8)
 | []=>some []
 | .str s::r=>(match z1g r with | some t=>some (s++t) | none=>none)
 | _::_=>none
def psD:St→Option (List D×Nat)
 | [(0,.val 187695107 (.agg [.ptr 0 0,.sl 6291457 L 1,.d (.bool false)])),(1,.tok n)]=>some (L,n)
 | [(0,.val 187695107 (.agg [.d .nilptr,.sl 6291457 L 1,.d (.bool false)])),(1,.tok n)]=>some (L,n)
 | _=>none
theorem zdj{σ:St}{L:List D}{n:Nat}(h:psD σ=some (L,n))(hn:Sp.fit n L=true):∃ u,σ=psS u L:=by
 simp only [Sp.fit,decide_eq_true_eq] at hn;subst hn;unfold psD at h;split at h
 ·cases h; exact ⟨true,rfl⟩
 ·cases h; exact ⟨false,rfl⟩
 ·cases h
def prK{α:Type}(f:Nat)(dec:List V→Option α)(sp:α→Option (List UInt8))(S:CK R1):CK R1:=
 more f (λ a σ=>match dec a,psD σ with | some q,some p=>some (q,p) | _,_=>none)
  (λ K q=>match q with | (x,L,n)=>zc (sp x) λ s=>zb (Sp.fit n L) (zb (Sp.room L s) (K (.ret (.tup [])) (psS true (Sp.app L s)))))
  (λ K q=>by
   obtain ⟨x,L,n⟩:=q;simp only;rw [vx];congr 1;funext s;simp only [zb,wt];rfl) S
theorem zaq{α:Type}{f:Nat}{dec:List V→Option α}{sp:α→Option (List UInt8)}{S:CK R1}(hS:knows cx S.S (zh cx))
  (hf:∀ a q s u L,dec a=some q→sp q=some s→Sp.room L s=true→zh cx f a (psS u L)=some (.ret (.tup []),psS true (Sp.app L s))):knows cx (prK f dec sp S).S (zh cx):=
 we hS λ a σ q r hd h=>by
  obtain ⟨q,L,n⟩:=q;simp only at hd h;split at hd
  ·rename_i q' p hq hp;cases hd;obtain ⟨s,hs,h⟩:=zd h;obtain ⟨h1,h⟩:=ze h;obtain ⟨h2,h⟩:=ze h;cases h;obtain ⟨u,rfl⟩:=zdj hp h1;exact hf a q s u L hq hs h2
  ·cases hd
theorem g66(n:Nat)(S:CK R1)(L:List D):zl cx S n 158 [.ptr 0 0] (psS true L)=some (Out.ret (V.d (D.int .i64 (↑L.length:Int))),[(0,Ob.val 187695107 (V.agg [V.ptr 0 0,V.sl 6291457 L 1,V.d (D.bool false)])),(1,Ob.tok L.length)]):=by kernel_rfl
theorem g89(n:Nat)(S:CK R1)(L:List D):zl cx S n 191 [.ptr 0 0] (psS true L)=some (Out.ret (V.tup []),[(0,Ob.val 187695107 (V.agg [V.ptr 0 0,V.sl 6291457 L 1,V.d (D.bool false)])),(1,Ob.tok L.length)]):=by kernel_rfl
theorem yfe(n:Nat)(S:CK R1)(L:List D):zl cx S n 191 [.ptr 0 0] (psS false L)=some (Out.ret (V.tup []),[(0,Ob.val 187695107 (V.agg [V.ptr 0 0,V.sl 6291457 L 1,V.d (D.bool false)])),(1,Ob.tok L.length)]):=by kernel_rfl
theorem yfh(n:Nat)(S:CK R1)(L:List D):zl cx S n 158 [.ptr 0 0] (psS false L)=some (.ret (.d (.int .i64 L.length)),psS false L):=by kernel_rfl
def zx3:List V→Option Unit | [.ptr 0 0]=>some () | _=>none
theorem zi0{a:List V}{x}(h:zx3 a=some x):a=[.ptr 0 0]:=by
 unfold zx3 at h;split at h
 ·rfl
 ·cases h
def z4n:List V→Option (List UInt8) | [.ptr 0 0,.d (.str s)]=>some s | _=>none
theorem zx2{a:List V}{s}(h:z4n a=some s):a=[.ptr 0 0,.d (.str s)]:=by
 unfold z4n at h;split at h
 ·cases h; rfl
 ·cases h
def K89:CK R1:=more 191 (λ a σ=>match zx3 a,psD σ with | some _,some p=>some p | _,_=>none) (λ K q=>match q with | (L,n)=>zb (Sp.fit n L) (K (.ret (.tup [])) (psS true L)))
  (λ K q=>by obtain ⟨L,n⟩:=q; simp only [zb,wt]; rfl) (CK.plain zn)
theorem z10:knows cx K89.S (zh cx):=we zm λ a σ q r hd h=>by
 obtain ⟨L,n⟩:=q;simp only at hd h;split at hd
 ·rename_i p ha hp;cases hd;obtain ⟨h1,h⟩:=ze h;cases h;obtain rfl:=zi0 ha;obtain ⟨u,rfl⟩:=zdj hp h1;refine zk zm (N:=0) ?_;cases u
  ·exact yfe 0 _ L
  ·exact g89 0 _ L
 ·cases hd
theorem g67(n:Nat)(L:List D)(s:List UInt8):zl cx K89 n 159 [.ptr 0 0,.d (.str s)] (psS true L)=zb (Sp.fit L.length L) (zb (decide (L.length=L.length)&&decide (L.length+(List.map (λ b=>D.int IntKind.u8 (↑b.toNat:Int)) s).length≤4294967296)) (some (Out.ret (V.tup [V.d (D.int .i64 (↑s.length:Int)),V.d D.nilIface]),[(0,Ob.val 187695107 (V.agg [V.ptr 0 0,V.sl 6291457 (L++List.map (λ b=>D.int IntKind.u8 (↑b.toNat:Int)) s) 1,V.d (D.bool false)])),(1,Ob.tok (L.length+(List.map (λ b=>D.int IntKind.u8 (↑b.toNat:Int)) s).length))]))):=by kernel_rfl
theorem yfg(n:Nat)(L:List D)(s:List UInt8):zl cx K89 n 159 [.ptr 0 0,.d (.str s)] (psS false L)=zb (Sp.fit L.length L) (zb (decide (L.length=L.length)&&decide (L.length+(List.map (λ b=>D.int IntKind.u8 (↑b.toNat:Int)) s).length≤4294967296)) (some (Out.ret (V.tup [V.d (D.int .i64 (↑s.length:Int)),V.d D.nilIface]),[(0,Ob.val 187695107 (V.agg [V.ptr 0 0,V.sl 6291457 (L++List.map (λ b=>D.int IntKind.u8 (↑b.toNat:Int)) s) 1,V.d (D.bool false)])),(1,Ob.tok (L.length+(List.map (λ b=>D.int IntKind.u8 (↑b.toNat:Int)) s).length))]))):=by kernel_rfl
def K67:CK R1:=more 159 (λ a σ=>match z4n a,psD σ with | some s,some p=>some (s,p) | _,_=>none)
  (λ K q=>match q with | (s,L,n)=>zb (Sp.fit n L) (zb (Sp.room L s) (K (.ret (.tup [.d (.int .i64 s.length),.d .nilIface])) (psS true (Sp.app L s)))))
  (λ K q=>by obtain ⟨s,L,n⟩:=q; simp only [zb,wt]; rfl)
 (more 158 (λ a σ=>match zx3 a,psD σ with | some _,some p=>some (p,σ) | _,_=>none) (λ K q=>match q with | ((L,n),σ)=>zb (Sp.fit n L) (K (.ret (.d (.int .i64 L.length))) σ))
  (λ K q=>by obtain ⟨⟨L,n⟩,σ⟩:=q; simp only [zb,wt]; rfl) (CK.plain zn))
theorem ybr(u:Bool)(L:List D)(s:List UInt8)(h:Sp.room L s=true):zh cx 159 [.ptr 0 0,.d (.str s)] (psS u L)=some (.ret (.tup [.d (.int .i64 s.length),.d .nilIface]),psS true (Sp.app L s)):=by
 have h1:decide (L.length+(List.map (λ b:UInt8=>D.int IntKind.u8 (b.toNat:Int)) s).length≤4294967296)=true:=pa (by simp only [Sp.room,decide_eq_true_eq] at h; rw [pf]; omega)
 have e:(Sp.app L s).length=L.length+(List.map (λ b:UInt8=>D.int IntKind.u8 (b.toNat:Int)) s).length:=by simp [Sp.app]
 refine zk z10 (N:=0) ?_;cases u
 ·rw [yfg,h1];simp only [ye,zb,cond_true,decide_true,Bool.and_self];rw [psS,e]; rfl
 ·rw [g67,h1];simp only [ye,zb,cond_true,decide_true,Bool.and_self];rw [psS,e]; rfl
theorem z16:knows cx K67.S (zh cx):=by
 have h66:knows cx (more 158 (λ a σ=>match zx3 a,psD σ with | some _,some p=>some (p,σ) | _,_=>none) (λ K q=>match q with | ((L,n),σ)=>zb (Sp.fit n L) (K (.ret (.d (.int .i64 L.length))) σ))
  (λ K q=>by obtain ⟨⟨L,n⟩,σ⟩:=q; simp only [zb,wt]; rfl) (CK.plain zn)).S (zh cx):=we zm λ a σ q r hd h=>by
  obtain ⟨⟨L,n⟩,τ⟩:=q;simp only at hd h;split at hd
  ·rename_i p ha hp;cases hd;obtain ⟨h1,h⟩:=ze h;cases h;obtain rfl:=zi0 ha;obtain ⟨u,rfl⟩:=zdj hp h1;refine zk zm (N:=0) ?_;cases u
   ·exact yfh 0 _ _
   ·exact g66 0 _ _
  ·cases hd
 exact we h66 λ a σ q r hd h=>by
  obtain ⟨s,L,n⟩:=q;simp only at hd h;split at hd
  ·rename_i s' p ha hp;cases hd;obtain ⟨h1,h⟩:=ze h;obtain ⟨h2,h⟩:=ze h;cases h;obtain rfl:=zx2 ha;obtain ⟨u,rfl⟩:=zdj hp h1;exact ybr u L s h2
  ·cases hd
theorem g38(n:Nat)(L:List D)(l:List D):zl cx K67 n 127 [.ptr 0 0,.d (.sl 1 l)] (psS true L)=LP cx K67 n 127 2 1 n [(0,V.ptr 0 0),(6,V.d (D.sl 1 l)),(7,V.d (D.int .i64 (↑l.length:Int))),(8,V.d (D.int .i64 (0:Int)))] [(0,Ob.val 187695107 (V.agg [V.ptr 0 0,V.sl 6291457 L 1,V.d (D.bool false)])),(1,Ob.tok L.length)] (AK cx K67 n 127 2 1 (EK cx 127 2)):=by kernel_rfl
theorem yfm(n:Nat)(L:List D)(l:List D):zl cx K67 n 127 [.ptr 0 0,.d (.sl 1 l)] (psS false L)=LP cx K67 n 127 2 1 n [(0,V.ptr 0 0),(6,V.d (D.sl 1 l)),(7,V.d (D.int .i64 (↑l.length:Int))),(8,V.d (D.int .i64 (0:Int)))] [(0,Ob.val 187695107 (V.agg [V.d D.nilptr,V.sl 6291457 L 1,V.d (D.bool false)])),(1,Ob.tok L.length)] (AK cx K67 n 127 2 1 (EK cx 127 2)):=by kernel_rfl
theorem l38(n k:Nat)(L:List D)(l:List (List UInt8))(i:Int):LP cx K67 n 127 2 1 (k+1) [(0,.ptr 0 0),(6,.d (.sl 1 (l.map .str))),(7,.d (.int .i64 (l.length:Int))),(8,.d (.int .i64 i))] (psS true L) (AK cx K67 n 127 2 1 (EK cx 127 2))=bif decide (i<(↑l.length:Int)) then zb (decide (0≤i)&&decide (i<(↑(List.map D.str l).length:Int))) (za (List.map D.str l) i.toNat λ y=>za y.cells 0 λ c=>match c with
 | D.str s=>zb (Sp.fit L.length L) (bif decide ((65536:Int)<IntKind.i64.wrap ((↑L.length:Int)+(↑s.length:Int))) then some (Out.ret (V.tup []),[(0,Ob.val 187695107 (V.agg [V.ptr 0 0,V.sl 6291457 L 1,V.d (D.bool true)])),(1,Ob.tok L.length)]) else zb (Sp.fit L.length L) (zb (Sp.room L s) (LP cx K67 n 127 2 1 k [(0,V.ptr 0 0),(6,V.d (D.sl 1 (List.map D.str l))),(7,V.d (D.int .i64 (↑l.length:Int))),(8,V.d (D.int .i64 (IntKind.i64.wrap (i+(1:Int)))))] [(0,Ob.val 187695107 (V.agg [V.ptr 0 0,V.sl 6291457 (Sp.app L s) 1,V.d (D.bool false)])),(1,Ob.tok (Sp.app L s).length)] (AK cx K67 n 127 2 1 (EK cx 127 2)))))
 | x=>none) else some (Out.ret (V.tup []),[(0,Ob.val 187695107 (V.agg [V.ptr 0 0,V.sl 6291457 L 1,V.d (D.bool false)])),(1,Ob.tok L.length)]):=by kernel_rfl
theorem ycc(n k:Nat)(L:List D)(l:List (List UInt8))(i:Int):LP cx K67 n 127 2 1 (k+1) [(0,.ptr 0 0),(6,.d (.sl 1 (l.map .str))),(7,.d (.int .i64 (l.length:Int))),(8,.d (.int .i64 i))] (psS false L) (AK cx K67 n 127 2 1 (EK cx 127 2))=bif decide (i<(↑l.length:Int)) then zb (decide (0≤i)&&decide (i<(↑(List.map D.str l).length:Int))) (za (List.map D.str l) i.toNat λ y=>za y.cells 0 λ c=>match c with
 | D.str s=>zb (Sp.fit L.length L) (bif decide ((65536:Int)<IntKind.i64.wrap ((↑L.length:Int)+(↑s.length:Int))) then some (Out.ret (V.tup []),[(0,Ob.val 187695107 (V.agg [V.d D.nilptr,V.sl 6291457 L 1,V.d (D.bool true)])),(1,Ob.tok L.length)]) else zb (Sp.fit L.length L) (zb (Sp.room L s) (LP cx K67 n 127 2 1 k [(0,V.ptr 0 0),(6,V.d (D.sl 1 (List.map D.str l))),(7,V.d (D.int .i64 (↑l.length:Int))),(8,V.d (D.int .i64 (IntKind.i64.wrap (i+(1:Int)))))] [(0,Ob.val 187695107 (V.agg [V.ptr 0 0,V.sl 6291457 (Sp.app L s) 1,V.d (D.bool false)])),(1,Ob.tok (Sp.app L s).length)] (AK cx K67 n 127 2 1 (EK cx 127 2)))))
 | x=>none) else some (Out.ret (V.tup []),[(0,Ob.val 187695107 (V.agg [V.d D.nilptr,V.sl 6291457 L 1,V.d (D.bool false)])),(1,Ob.tok L.length)]):=by kernel_rfl
theorem zns(L:List D):Sp.app L []=L:=by simp [Sp.app]
theorem zuw{L:List D}{s:List UInt8}(h:Sp.room L s=true):decide ((65536:Int)<IntKind.i64.wrap ((L.length:Int)+(s.length:Int)))=false:=by
 simp only [Sp.room,decide_eq_true_eq] at h;rw [IntWalk.i64_in _ (by omega)]
 exact pb (by omega)
abbrev L38 (n k:Nat) (u:Bool) (L:List D) (l:List (List UInt8)) (i:Int):Option R1:=
 LP cx K67 n 127 2 1 k [(0,.ptr 0 0),(6,.d (.sl 1 (l.map .str))),(7,.d (.int .i64 (l.length:Int))),(8,.d (.int .i64 i))] (psS u L) (AK cx K67 n 127 2 1 (EK cx 127 2))
theorem z3m(n:Nat)(l:List (List UInt8))(hl:l.length<4294967296):∀ (r:List (List UInt8)) (j k:Nat) (u:Bool) (L:List D),l.drop j=r→j≤l.length→r.length<k→Sp.room L r.flatten=true →
  L38 n k u L l j=some (.ret (.tup []),psS (u||!r.isEmpty) (Sp.app L r.flatten))
 | [],j,k,u,L,hd,hj,hk,hr=>by
  obtain ⟨k,rfl⟩:∃ i,k=i+1:=⟨k - 1,by omega⟩
  have:l.length≤j:=by simpa using hd
  obtain rfl:j=l.length:=by omega
  simp only [L38,List.flatten_nil,zns];cases u
  ·rw [ycc,yj]; rfl
  ·rw [l38,yj]; rfl
 | s::r,j,k,u,L,hd,hj,hk,hr=>by
  obtain ⟨k,rfl⟩:∃ i,k=i+1:=⟨k - 1,by omega⟩
  obtain ⟨h1,h2,h3⟩:=zbu hd;rw [List.flatten_cons] at hr;obtain ⟨hr1,hr2⟩:=zfw hr;have ih:=z3m n l hl r (j+1) k true (Sp.app L s) h3 h1 (by simp at hk; omega) hr2
  simp only [L38,Bool.true_or] at ih;have e:psS true (Sp.app (Sp.app L s) r.flatten)=psS (u||!(s::r).isEmpty) (Sp.app L (s::r).flatten):=by
   rw [xp,List.flatten_cons]; cases u <;> rfl
  rw [←e];simp only [L38];cases u
  ·rw [ycc,pf,z6 h1,yy,xx,pm,h2,xq h1 hl];simp only [cond_true,zb,zc,Bool.and_self,D.cells,xo,ye,zuw hr1,cond_false,hr1];exact ih
  ·rw [l38,pf,z6 h1,yy,xx,pm,h2,xq h1 hl];simp only [cond_true,zb,zc,Bool.and_self,D.cells,xo,ye,zuw hr1,cond_false,hr1];exact ih
theorem z7x(u:Bool)(L:List D)(l:List (List UInt8))(hl:l.length<4294967296)(hne:l ≠ [])(hr:Sp.room L l.flatten=true) :
  zh cx 127 [.ptr 0 0,.d (.sl 1 (l.map .str))] (psS u L)=some (.ret (.tup []),psS true (Sp.app L l.flatten)):=by
 have h:=z3m (l.length+1) l hl l 0 (l.length+1) u L rfl (Nat.zero_le _) (by omega) hr
 simp only [L38] at h;have e:(u||!l.isEmpty)=true:=by cases l; exact absurd rfl hne; cases u <;> rfl
 rw [e] at h;refine zk z16 (N:=l.length+1) ?_;cases u
 ·rw [yfm,pf]; exact h
 ·rw [g38,pf]; exact h
theorem zmh:∀ {l:List D} {s:List UInt8},z1g l=some s→∃ m:List (List UInt8),l=m.map .str∧s=m.flatten
 | [],s,h=>by cases h; exact ⟨[],rfl,rfl⟩
 | x::r,s,h=>by
  unfold z1g at h;split at h
  ·rename_i he; cases he
  ·rename_i t q he;cases he;split at h
   ·rename_i u hu;cases h;obtain ⟨m,rfl,rfl⟩:=zmh hu;exact ⟨t::m,rfl,rfl⟩
   ·cases h
  ·cases h
def zpj:List V→Option (List D) | [.ptr 0 0,.d (.sl 1 (a::l))]=>bif Nat.ble l.length 100 then some (a::l) else none | _=>none
theorem zna{a:List V}{l}(h:zpj a=some l):a=[.ptr 0 0,.d (.sl 1 l)]∧l ≠ []∧l.length<4294967296:=by
 unfold zpj at h;split at h
 ·rename_i x r;cases hc:Nat.ble r.length 100 <;> rw [hc] at h
  ·cases h
  ·cases h;have:=pq hc;exact ⟨rfl,by simp,by simp; omega⟩
 ·cases h
def K38:CK R1:=prK 127 zpj z1g (CK.plain zn)
theorem z2a:knows cx K38.S (zh cx):=zaq zm λ a q s u L h hs hr=>by
 obtain ⟨rfl,h1,h2⟩:=zna h;obtain ⟨m,rfl,rfl⟩:=zmh hs;exact z7x u L m (by simpa using h2) (by intro e; rw [e] at h1; exact h1 rfl) hr
def zu(l:List (List UInt8))(sep:List UInt8):List UInt8:=Lib.join l sep
def z4o:List V→Option (D×List UInt8) | [.d x,.d (.str s)]=>some (x,s) | _=>none
def zcq(q:D×List UInt8):Option (List (List UInt8)×List UInt8):=match zgb q.1 with | some l=>bif decide ((Lib.join l q.2).length≤140737488355328) then some (l,q.2) else none | none=>none
theorem ybh(l:List (List UInt8))(sep:List UInt8)(h1:yd l=true)(h2:(Lib.join l sep).length≤140737488355328):zh cx 192 [.d (.sl 1 (l.map .str)),.d (.str sep)] []=some (.ret (.d (.str (zu l sep))),[]):=by
 refine zh4 (n:=1) ?_;have e:cx.nat 192 [.d (.sl 1 (l.map .str)),.d (.str sep)] []=some (.ret (.d (.str (Lib.join l sep))),[]):=by
  have e0:cx.nat 192 [.d (.sl 1 (l.map .str)),.d (.str sep)] []=zku [.d (.sl 1 (l.map .str)),.d (.str sep)] []:=by kernel_rfl
  rw [e0];simp only [zku,z0d,zc];rw [pa h2,pa (by have:=yh h1; omega)]
  rfl
 show zbh cx (vg cx 0) 0 192 _ []=_;unfold zbh;rw [e];rfl
def K90:CK R1:=zt 192 z4o zcq (λ q=>mkS (zu q.1 q.2)) K38
theorem z1z:knows cx K90.S (zh cx):=zj z2a λ a q b hd h hb=>by
 obtain ⟨x,s⟩:=q;unfold z4o at h;split at h
 ·cases h;unfold zcq at hb;split at hb
  ·rename_i l hl;simp only at hl hb;cases hc:decide ((Lib.join l s).length≤140737488355328) <;> rw [hc] at hb
   ·cases hb
   ·cases hb;obtain ⟨rfl,h1,h2⟩:=zkq hl;exact ybh l s h1 (pc hc)
  ·cases hb
 ·cases h
def zw(b:Bool)(s:List UInt8):List UInt8:=bif b then [40]++s++[41] else s
def yp(k:Int):Int:=bif decide (k=2)||decide (k=3)||decide (k=4)||decide (k=5) then 0 else bif decide (k=6)||decide (k=7) then 1 else 2
def xa(k:Int):Int:=bif decide (k=14) then 0 else bif decide (k=15) then 1 else 2
def Sp.at(l:List (List UInt8))(i:Nat):List UInt8:=l.getD i []
mutual
def xc:T→List UInt8
 | .mk k nm kids _ _=>bif decide (k=16) then [126]++Sp.at (zdb kids 2) 0 else bif decide (k=15) then Sp.at (zdb kids 1) 0++[32,47,92,32]++Sp.at (zdb kids 2) 1
   else bif decide (k=14) then Sp.at (zdb kids 0) 0++[32,92,47,32]++Sp.at (zdb kids 1) 1 else nm
def zdb:List T→Int→List (List UInt8)
 | [],_=>[]
 | t::l,a=>zw (decide (xa t.k<a)) (xc t)::zdb l a
end
def wx(t:T)(a:Int):List UInt8:=zw (decide (xa t.k<a)) (xc t)
def qh(t:T):List UInt8:=[40]++t.nm++[61]++Sp.at t.nms 0++[41]
def zey(t:T):List UInt8:=(bif t.kids.isEmpty then [49] else [])++(t.kids.map qh).flatten
def w7(l:List T):Bool:=match l with | .mk k _ (.mk k' _ _ _ _::_) _ _::_=>decide (k=9)&&decide (k'=1) | _=>false
mutual
def Sp.bare:T→List UInt8
 | .mk k nm kids nms _=>bif decide (k=1) then nm
  else bif decide (k=2) then [92]++zu nms [32]++[46,32]++Sp.at (Sp.texts kids 0) 0
  else bif decide (k=3) then [60]++zu nms [32]++[62,32]++Sp.at (Sp.texts kids 0) 0
  else bif decide (k=4) then (bif decide (nms.length=1) then [40]++Sp.at nms 0++[32,58,32]++Sp.at (Sp.texts kids 0) 0++[41] else zw (w7 kids) (Sp.at (Sp.texts kids 1) 0))++[32,45,62,32]++Sp.at (Sp.texts kids 0) 1
  else bif decide (k=5) then (bif decide (nms.length=1) then [40]++Sp.at nms 0++[32,58,32]++Sp.at (Sp.texts kids 0) 0++[41] else zw (w7 kids) (Sp.at (Sp.texts kids 1) 0))++[32,42,32]++Sp.at (Sp.texts kids 0) 1
  else bif decide (k=6) then Sp.at (Sp.texts kids 1) 0++[32]++Sp.at (Sp.texts kids 2) 1
  else bif decide (k=7) then Sp.at (Sp.texts kids 1) 0++[32,64,32]++(match kids with | _::b::_=>wx b 2 | _=>[])
  else bif decide (k=8) then [40]++Sp.at (Sp.texts kids 0) 0++[44,32]++Sp.at (Sp.texts kids 0) 1++[41]
  else bif decide (k=9) then [40]++Sp.at (Sp.texts kids 0) 0++[32,58,32]++Sp.at (Sp.texts kids 0) 1++[41]
  else [91]++zaw true kids++[93]
def Sp.texts:List T→Int→List (List UInt8)
 | [],_=>[]
 | t::l,a=>zw (decide (yp t.k<a)) (Sp.bare t)::Sp.texts l a
def qi:T→List UInt8
 | .mk _ _ kids _ _=>(match kids with | f::_=>zey f | _=>[])++(bif decide (kids.length=2) then [32,45,62,32]++Sp.at (Sp.texts kids 0) 1 else [])
def zaw:Bool→List T→List UInt8
 | _,[]=>[]
 | b,e::l=>(bif b then [] else [44,32])++qi e++zaw false l
end
def Sp.text(t:T)(a:Int):List UInt8:=zw (decide (yp t.k<a)) (Sp.bare t)
theorem yv:∀ (l:List T) (a:Int) (i:Nat) (t:T),l[i]?=some t→Sp.at (Sp.texts l a) i=Sp.text t a
 | [],_,_,_,h=>by simp at h
 | u::l,a,0,t,h=>by simp at h; subst h; rfl
 | u::l,a,i+1,t,h=>by rw [Sp.texts]; exact yv l a i t (by simpa using h)
theorem zeq:∀ (l:List T) (a:Int) (i:Nat) (t:T),l[i]?=some t→Sp.at (zdb l a) i=wx t a
 | [],_,_,_,h=>by simp at h
 | u::l,a,0,t,h=>by simp at h; subst h; rfl
 | u::l,a,i+1,t,h=>by rw [zdb]; exact zeq l a i t (by simpa using h)
def zm9:List V→Option (D×Int) | [.ptr 0 0,.d x,.d (.int .i64 a)]=>some (x,a) | _=>none
theorem zg4{a:List V}{x:D}{n:Int}(h:zm9 a=some (x,n)):a=[.ptr 0 0,.d x,.d (.int .i64 n)]:=by
 unfold zm9 at h;split at h
 ·cases h; rfl
 ·cases h
def zsl:List V→Option D | [.ptr 0 0,.d x]=>some x | _=>none
theorem zpi{a:List V}{x:D}(h:zsl a=some x):a=[.ptr 0 0,.d x]:=by
 unfold zsl at h;split at h
 ·cases h; rfl
 ·cases h
def zwa:List V→Option (D×List UInt8) | [.ptr 0 0,.d x,.d (.str s)]=>some (x,s) | _=>none
theorem zph{a:List V}{x:D}{s}(h:zwa a=some (x,s)):a=[.ptr 0 0,.d x,.d (.str s)]:=by
 unfold zwa at h;split at h
 ·cases h; rfl
 ·cases h
def z2v(m:Nat):D×Int→Option (List UInt8) | (x,a)=>zc (zg m x) λ t=>zb (Sp.right t) (some (Sp.text t a))
def yeu(m:Nat):D×Int→Option (List UInt8) | (x,a)=>zc (zg m x) λ t=>zb (Sp.form t) (some (wx t a))
def zs8(u:Bool)(L:List D)(x:D):St:=[(0,.val 1 (.ptr 1 0)),(1,.val 187695107 (.agg [bif u then .ptr 1 0 else .d .nilptr,.sl 6291457 L 2,.d (.bool false)])),(2,.tok L.length),(3,.val 5 (.d x))]
def zfx(u:Bool)(L:List D)(x:D):St:=[(0,.val 5 (.d x)),(1,.val 1 (.ptr 2 0)),(2,.val 187695107 (.agg [bif u then .ptr 2 0 else .d .nilptr,.sl 6291457 L 3,.d (.bool false)])),(3,.tok L.length)]
def psB(u:Bool)(L:List D)(x:D):St:=psS u L++[(2,.val 1 (.ptr 0 0)),(3,.val 5 (.d x))]
def psF(u:Bool)(L:List D)(x:D):St:=psS u L++[(2,.val 5 (.d x)),(3,.val 1 (.ptr 0 0))]
def zmv:St→Option (D×List D×Nat)
 | [(0,.val 1 (.ptr 1 0)),(1,.val 187695107 (.agg [.ptr 1 0,.sl 6291457 L 2,.d (.bool false)])),(2,.tok n),(3,.val 5 (.d x))]=>some (x,L,n)
 | [(0,.val 1 (.ptr 1 0)),(1,.val 187695107 (.agg [.d .nilptr,.sl 6291457 L 2,.d (.bool false)])),(2,.tok n),(3,.val 5 (.d x))]=>some (x,L,n)
 | _=>none
def zn8:St→Option (D×List D×Nat)
 | [(0,.val 5 (.d x)),(1,.val 1 (.ptr 2 0)),(2,.val 187695107 (.agg [.ptr 2 0,.sl 6291457 L 3,.d (.bool false)])),(3,.tok n)]=>some (x,L,n)
 | [(0,.val 5 (.d x)),(1,.val 1 (.ptr 2 0)),(2,.val 187695107 (.agg [.d .nilptr,.sl 6291457 L 3,.d (.bool false)])),(3,.tok n)]=>some (x,L,n)
 | _=>none
def z57:St→Option (D×List D×Nat)
 | [a,b,(2,.val 1 (.ptr 0 0)),(3,.val 5 (.d x))]=>(match psD [a,b] with | some (L,n)=>some (x,L,n) | none=>none)
 | _=>none
def z8u:St→Option (D×List D×Nat)
 | [a,b,(2,.val 5 (.d x)),(3,.val 1 (.ptr 0 0))]=>(match psD [a,b] with | some (L,n)=>some (x,L,n) | none=>none)
 | _=>none
theorem zn7{σ:St}{x:D}{L:List D}{n:Nat}(h:zmv σ=some (x,L,n))(hn:Sp.fit n L=true):∃ u,σ=zs8 u L x:=by
 simp only [Sp.fit,decide_eq_true_eq] at hn;subst hn;unfold zmv at h;split at h
 ·cases h; exact ⟨true,rfl⟩
 ·cases h; exact ⟨false,rfl⟩
 ·cases h
theorem zux{σ:St}{x:D}{L:List D}{n:Nat}(h:zn8 σ=some (x,L,n))(hn:Sp.fit n L=true):∃ u,σ=zfx u L x:=by
 simp only [Sp.fit,decide_eq_true_eq] at hn;subst hn;unfold zn8 at h;split at h
 ·cases h; exact ⟨true,rfl⟩
 ·cases h; exact ⟨false,rfl⟩
 ·cases h
theorem zre{σ:St}{x:D}{L:List D}{n:Nat}(h:z57 σ=some (x,L,n))(hn:Sp.fit n L=true):∃ u,σ=psB u L x:=by
 unfold z57 at h;split at h
 ·split at h
  ·rename_i hp;cases h;obtain ⟨u,hu⟩:=zdj hp hn;refine ⟨u,?_⟩;unfold psB;rw [←hu];rfl
  ·cases h
 ·cases h
theorem z0l{σ:St}{x:D}{L:List D}{n:Nat}(h:z8u σ=some (x,L,n))(hn:Sp.fit n L=true):∃ u,σ=psF u L x:=by
 unfold z8u at h;split at h
 ·split at h
  ·rename_i hp;cases h;obtain ⟨u,hu⟩:=zdj hp hn;refine ⟨u,?_⟩;unfold psF;rw [←hu];rfl
  ·cases h
 ·cases h
def clK(f:Nat)(dec:List V→Option Bool)(pd:St→Option (D×List D×Nat))(ps:Bool→List D→D→St)(sp:Bool→D→Option (List UInt8))(S:CK R1):CK R1:=
 more f (λ a σ=>match dec a,pd σ with | some b,some p=>some (b,p) | _,_=>none)
  (λ K q=>match q with | (b,x,L,n)=>zc (sp b x) λ s=>zb (Sp.fit n L) (zb (Sp.room L s) (K (.ret (.tup [])) (ps true (Sp.app L s) x))))
  (λ K q=>by
   obtain ⟨b,x,L,n⟩:=q;simp only;rw [vx];congr 1;funext s;simp only [zb,wt];rfl) S
theorem zeg{f:Nat}{dec:List V→Option Bool}{pd:St→Option (D×List D×Nat)}{ps:Bool→List D→D→St}{sp:Bool→D→Option (List UInt8)}{S:CK R1}(hS:knows cx S.S (zh cx))
  (hp:∀ {σ x L n},pd σ=some (x,L,n)→Sp.fit n L=true→∃ u,σ=ps u L x)
  (hf:∀ a b x s u L,dec a=some b→sp b x=some s→Sp.room L s=true→zh cx f a (ps u L x)=some (.ret (.tup []),ps true (Sp.app L s) x)):knows cx (clK f dec pd ps sp S).S (zh cx):=
 we hS λ a σ q r hd h=>by
  obtain ⟨b,x,L,n⟩:=q;simp only at hd h;split at hd
  ·rename_i b' p hb hpd;cases hd;obtain ⟨s,hs,h⟩:=zd h;obtain ⟨h1,h⟩:=ze h;obtain ⟨h2,h⟩:=ze h;cases h;obtain ⟨u,rfl⟩:=hp hpd h1;exact hf a b x s u L hb hs h2
  ·cases hd
def znc:List V→Option Bool | [.ptr 0 0,.ptr 3 0]=>some true | _=>none
def zpn:List V→Option Bool | [.ptr 0 0,.ptr 1 0]=>some true | _=>none
def zwe(g:Nat):List V→Option Bool | [.ptr 0 0,.d (.bool b),.func f [.ptr 2 0,.ptr 3 0]]=>bif Nat.beq f g then some b else none | _=>none
theorem zpl{a:List V}{b}(h:znc a=some b):a=[.ptr 0 0,.ptr 3 0]:=by
 unfold znc at h;split at h
 ·rfl
 ·cases h
theorem zwh{a:List V}{b}(h:zpn a=some b):a=[.ptr 0 0,.ptr 1 0]:=by
 unfold zpn at h;split at h
 ·rfl
 ·cases h
theorem zjw{g:Nat}{a:List V}{b}(h:zwe g a=some b):a=[.ptr 0 0,.d (.bool b),.func g [.ptr 2 0,.ptr 3 0]]:=by
 unfold zwe at h;split at h
 ·rename_i b' f;cases hc:Nat.beq f g <;> rw [hc] at h
  ·cases h
  ·obtain rfl:=pg hc;cases h; rfl
 ·cases h
def z4p:List V→Option Int | [.d (.int .i64 a)]=>some a | _=>none
def K91:CK R1:=zt 161 vp Sp.toC (λ t=>mkI (yp t.k)) (zt 217 z4p some (λ k=>mkI (xa k)) K90)
def zd8(t:T):Bool:=Sp.right t&&(decide (t.k=4)||decide (t.k=5))
def zd7(t:T):Bool:=Sp.right t&&(decide (t.k=8)||decide (t.k=9))
def zbx(t:T):Bool:=Sp.right t&&decide (t.k=10)
def ze0:T→List UInt8→List UInt8 | .mk _ _ kids nms _,s=>(bif decide (nms.length=1) then [40]++Sp.at nms 0++[32,58,32]++Sp.at (Sp.texts kids 0) 0++[41] else zw (w7 kids) (Sp.at (Sp.texts kids 1) 0))++s++Sp.at (Sp.texts kids 0) 1
def zew:T→List UInt8→List UInt8 | .mk _ _ kids _ _,s=>[40]++Sp.at (Sp.texts kids 0) 0++s++Sp.at (Sp.texts kids 0) 1++[41]
def zdc:T→List UInt8 | .mk _ _ kids _ _=>[91]++zaw true kids++[93]
def yev(m:Nat):D×List UInt8→Option (List UInt8) | (x,s)=>zc (zg m x) λ t=>zb (zd8 t) (some (ze0 t s))
def ya4(m:Nat):D×List UInt8→Option (List UInt8) | (x,s)=>zc (zg m x) λ t=>zb (zd7 t) (some (zew t s))
def ya3(m:Nat)(x:D):Option (List UInt8):=zc (zg m x) λ t=>zb (zbx t) (some (zdc t))
def z0f(m:Nat)(x:D):Option (List UInt8):=zc (zg m x) λ t=>zb (Sp.right t) (some (Sp.bare t))
def z7e:D×Int→Option (List UInt8) | (x,a)=>zc (Sp.toC x) λ t=>zb (Sp.form t) (some (wx t a))
def zy1(m:Nat)(x:D):Option (List UInt8):=zc (zg m x) λ t=>zb (Sp.form t) (some (xc t))
def KT(m:Nat):CK R1:=prK 128 zm9 (z2v m) K91
def KM(m:Nat):CK R1:=prK 194 zm9 (yeu m) K91
def yei(m:Nat):CK R1:=clK 160 (zwe 218) z8u psF (λ b x=>zc (zy1 m x) λ s=>some (zw b s)) K91
def yej(m:Nat):CK R1:=clK 160 (zwe 216) z57 psB (λ b x=>zc (z2v m (x,1)) λ s=>some (zw b s)) (KT m)
def K70(m:Nat):CK R1:=clK 160 (zwe 162) z57 psB (λ b x=>zc (z0f m x) λ s=>some (zw b s)) K91
def K71(m:Nat):CK R1:=prK 193 zwa (yev (m+1)) (prK 195 zwa (ya4 (m+1)) (prK 196 zsl (ya3 (m+1)) (prK 194 zm9 z7e (KT m))))
theorem g69(n:Nat)(k:Int)(nm:List UInt8)(kids:List T)(nms:List (List UInt8))(pl:Int):zl cx (CK.plain zn) n 161 [.d (.agg [.int .i64 k,.str nm,.sl 5 (T.ds kids),.sl 1 (nms.map .str),.int .i64 pl])] []=bif decide (k=(2:Int)) then bif decide (k=(2:Int)) then some (Out.ret (V.d (D.int .i64 (0:Int))),[]) else bif decide (k=(6:Int)) then bif decide (k=(6:Int)) then some (Out.ret (V.d (D.int .i64 (1:Int))),[]) else some (Out.ret (V.d (D.int .i64 (2:Int))),[]) else bif decide (k=(7:Int)) then some (Out.ret (V.d (D.int .i64 (1:Int))),[]) else some (Out.ret (V.d (D.int .i64 (2:Int))),[]) else bif decide (k=(3:Int)) then bif decide (k=(3:Int)) then some (Out.ret (V.d (D.int .i64 (0:Int))),[]) else bif decide (k=(6:Int)) then bif decide (k=(6:Int)) then some (Out.ret (V.d (D.int .i64 (1:Int))),[]) else some (Out.ret (V.d (D.int .i64 (2:Int))),[]) else bif decide (k=(7:Int)) then some (Out.ret (V.d (D.int .i64 (1:Int))),[]) else some (Out.ret (V.d (D.int .i64 (2:Int))),[]) else bif decide (k=(4:Int)) then bif decide (k=(4:Int)) then some (Out.ret (V.d (D.int .i64 (0:Int))),[]) else bif decide (k=(6:Int)) then bif decide (k=(6:Int)) then some (Out.ret (V.d (D.int .i64 (1:Int))),[]) else some (Out.ret (V.d (D.int .i64 (2:Int))),[]) else bif decide (k=(7:Int)) then some (Out.ret (V.d (D.int .i64 (1:Int))),[]) else some (Out.ret (V.d (D.int .i64 (2:Int))),[]) else bif decide (k=(5:Int)) then some (Out.ret (V.d (D.int .i64 (0:Int))),[]) else bif decide (k=(6:Int)) then bif decide (k=(6:Int)) then some (Out.ret (V.d (D.int .i64 (1:Int))),[]) else some (Out.ret (V.d (D.int .i64 (2:Int))),[]) else bif decide (k=(7:Int)) then some (Out.ret (V.d (D.int .i64 (1:Int))),[]) else some (Out.ret (V.d (D.int .i64 (2:Int))),[]):=by kernel_rfl
theorem yfn(n:Nat)(k:Int):zl cx (CK.plain zn) n 217 [.d (.int .i64 k)] []=bif decide (k=(14:Int)) then some (Out.ret (V.d (D.int .i64 (0:Int))),[]) else bif decide (k=(15:Int)) then some (Out.ret (V.d (D.int .i64 (1:Int))),[]) else some (Out.ret (V.d (D.int .i64 (2:Int))),[]):=by kernel_rfl
theorem ydb(n m:Nat)(L:List D)(u:Bool)(k:Int)(nm:List UInt8)(kids:List T)(nms:List (List UInt8))(pl:Int):zl cx (KM m) n 218 [.ptr 0 0,.ptr 1 0] (zfx u L (.agg [.int .i64 k,.str nm,.sl 5 (T.ds kids),.sl 1 (nms.map .str),.int .i64 pl]))=bif decide (k=(16:Int)) then zb (Sp.fit L.length L) (zb (Sp.room L [126]) (zb (decide ((0:Int)<(↑(T.ds kids).length:Int))) (za (T.ds kids) (0:Int).toNat λ y=>za y.cells 0 λ c=>za y.cells 1 λ c_1=>za y.cells 2 λ c_2=>za y.cells 3 λ c_3=>za y.cells 4 λ c_4=>zc (zc (zg m (D.agg [c,c_1,c_2,c_3,c_4])) λ t=>zb (Sp.form t) (some (wx t (2:Int)))) λ s=>zb (Sp.fit (Sp.app L [126]).length (Sp.app L [126])) (zb (Sp.room (Sp.app L [126]) s) (some (Out.ret (V.tup []),[(0,Ob.val 5 (V.d (D.agg [D.int .i64 k,D.str nm,D.sl 5 (T.ds kids),D.sl 1 (List.map D.str nms),D.int .i64 pl]))),(1,Ob.val 1 (V.ptr 2 0)),(2,Ob.val 187695107 (V.agg [V.ptr 2 0,V.sl 6291457 (Sp.app (Sp.app L [126]) s) 3,V.d (D.bool false)])),(3,Ob.tok (Sp.app (Sp.app L [126]) s).length)])))))) else bif decide (k=(15:Int)) then zb (decide ((0:Int)<(↑(T.ds kids).length:Int))) (za (T.ds kids) (0:Int).toNat λ y=>za y.cells 0 λ c=>za y.cells 1 λ c_1=>za y.cells 2 λ c_2=>za y.cells 3 λ c_3=>za y.cells 4 λ c_4=>zc (zc (zg m (D.agg [c,c_1,c_2,c_3,c_4])) λ t=>zb (Sp.form t) (some (wx t (1:Int)))) λ s=>zb (Sp.fit L.length L) (zb (Sp.room L s) (zb (Sp.fit (Sp.app L s).length (Sp.app L s)) (zb (Sp.room (Sp.app L s) [32,47,92,32]) (zb (decide ((1:Int)<(↑(T.ds kids).length:Int))) (za (T.ds kids) (1:Int).toNat λ y=>za y.cells 0 λ c=>za y.cells 1 λ c_5=>za y.cells 2 λ c_6=>za y.cells 3 λ c_7=>za y.cells 4 λ c_8=>zc (zc (zg m (D.agg [c,c_5,c_6,c_7,c_8])) λ t=>zb (Sp.form t) (some (wx t (2:Int)))) λ s_1=>zb (Sp.fit (Sp.app (Sp.app L s) [32,47,92,32]).length (Sp.app (Sp.app L s) [32,47,92,32])) (zb (Sp.room (Sp.app (Sp.app L s) [32,47,92,32]) s_1) (some (Out.ret (V.tup []),[(0,Ob.val 5 (V.d (D.agg [D.int .i64 k,D.str nm,D.sl 5 (T.ds kids),D.sl 1 (List.map D.str nms),D.int .i64 pl]))),(1,Ob.val 1 (V.ptr 2 0)),(2,Ob.val 187695107 (V.agg [V.ptr 2 0,V.sl 6291457 (Sp.app (Sp.app (Sp.app L s) [32,47,92,32]) s_1) 3,V.d (D.bool false)])),(3,Ob.tok (Sp.app (Sp.app (Sp.app L s) [32,47,92,32]) s_1).length)]))))))))) else bif decide (k=(14:Int)) then zb (decide ((0:Int)<(↑(T.ds kids).length:Int))) (za (T.ds kids) (0:Int).toNat λ y=>za y.cells 0 λ c=>za y.cells 1 λ c_1=>za y.cells 2 λ c_2=>za y.cells 3 λ c_3=>za y.cells 4 λ c_4=>zc (zc (zg m (D.agg [c,c_1,c_2,c_3,c_4])) λ t=>zb (Sp.form t) (some (wx t (0:Int)))) λ s=>zb (Sp.fit L.length L) (zb (Sp.room L s) (zb (Sp.fit (Sp.app L s).length (Sp.app L s)) (zb (Sp.room (Sp.app L s) [32,92,47,32]) (zb (decide ((1:Int)<(↑(T.ds kids).length:Int))) (za (T.ds kids) (1:Int).toNat λ y=>za y.cells 0 λ c=>za y.cells 1 λ c_5=>za y.cells 2 λ c_6=>za y.cells 3 λ c_7=>za y.cells 4 λ c_8=>zc (zc (zg m (D.agg [c,c_5,c_6,c_7,c_8])) λ t=>zb (Sp.form t) (some (wx t (1:Int)))) λ s_1=>zb (Sp.fit (Sp.app (Sp.app L s) [32,92,47,32]).length (Sp.app (Sp.app L s) [32,92,47,32])) (zb (Sp.room (Sp.app (Sp.app L s) [32,92,47,32]) s_1) (some (Out.ret (V.tup []),[(0,Ob.val 5 (V.d (D.agg [D.int .i64 k,D.str nm,D.sl 5 (T.ds kids),D.sl 1 (List.map D.str nms),D.int .i64 pl]))),(1,Ob.val 1 (V.ptr 2 0)),(2,Ob.val 187695107 (V.agg [V.ptr 2 0,V.sl 6291457 (Sp.app (Sp.app (Sp.app L s) [32,92,47,32]) s_1) 3,V.d (D.bool false)])),(3,Ob.tok (Sp.app (Sp.app (Sp.app L s) [32,92,47,32]) s_1).length)]))))))))) else zb (Sp.fit L.length L) (zb (Sp.room L (nm++[])) (some (Out.ret (V.tup []),[(0,Ob.val 5 (V.d (D.agg [D.int .i64 k,D.str nm,D.sl 5 (T.ds kids),D.sl 1 (List.map D.str nms),D.int .i64 pl]))),(1,Ob.val 1 (V.ptr 2 0)),(2,Ob.val 187695107 (V.agg [V.ptr 2 0,V.sl 6291457 (Sp.app L (nm++[])) 3,V.d (D.bool false)])),(3,Ob.tok (Sp.app L (nm++[])).length)]))):=by cases u <;> kernel_rfl
theorem yff(n m:Nat)(L:List D)(u:Bool)(k:Int)(nm:List UInt8)(kids:List T)(nms:List (List UInt8))(pl:Int):zl cx (prK 163 zsl (z0f m) K91) n 162 [.ptr 0 0,.ptr 3 0] (zs8 u L (.agg [.int .i64 k,.str nm,.sl 5 (T.ds kids),.sl 1 (nms.map .str),.int .i64 pl]))=zc (zc (zg m (D.agg [D.int .i64 k,D.str nm,D.sl 5 (T.ds kids),D.sl 1 (List.map D.str nms),D.int .i64 pl])) λ t=>zb (Sp.right t) (some (Sp.bare t))) λ s=>zb (Sp.fit L.length L) (zb (Sp.room L s) (some (Out.ret (V.tup []),[(0,Ob.val 1 (V.ptr 1 0)),(1,Ob.val 187695107 (V.agg [V.ptr 1 0,V.sl 6291457 (Sp.app L s) 2,V.d (D.bool false)])),(2,Ob.tok (Sp.app L s).length),(3,Ob.val 5 (V.d (D.agg [D.int .i64 k,D.str nm,D.sl 5 (T.ds kids),D.sl 1 (List.map D.str nms),D.int .i64 pl])))]))):=by cases u <;> kernel_rfl
theorem ydc(n m:Nat)(L:List D)(u:Bool)(k:Int)(nm:List UInt8)(kids:List T)(nms:List (List UInt8))(pl:Int):zl cx (KT m) n 216 [.ptr 0 0,.ptr 3 0] (zs8 u L (.agg [.int .i64 k,.str nm,.sl 5 (T.ds kids),.sl 1 (nms.map .str),.int .i64 pl]))=zc (zc (zg m (D.agg [D.int .i64 k,D.str nm,D.sl 5 (T.ds kids),D.sl 1 (List.map D.str nms),D.int .i64 pl])) λ t=>zb (Sp.right t) (some (Sp.text t (1:Int)))) λ s=>zb (Sp.fit L.length L) (zb (Sp.room L s) (some (Out.ret (V.tup []),[(0,Ob.val 1 (V.ptr 1 0)),(1,Ob.val 187695107 (V.agg [V.ptr 1 0,V.sl 6291457 (Sp.app L s) 2,V.d (D.bool false)])),(2,Ob.tok (Sp.app L s).length),(3,Ob.val 5 (V.d (D.agg [D.int .i64 k,D.str nm,D.sl 5 (T.ds kids),D.sl 1 (List.map D.str nms),D.int .i64 pl])))]))):=by cases u <;> kernel_rfl
theorem yfb(n m:Nat)(L:List D)(u:Bool)(k:Int)(nm:List UInt8)(kids:List T)(nms:List (List UInt8))(pl:Int)(s:List UInt8):zl cx (KT m) n 195 [.ptr 0 0,.d (.agg [.int .i64 k,.str nm,.sl 5 (T.ds kids),.sl 1 (nms.map .str),.int .i64 pl]),.d (.str s)] (psS u L)=zb (Sp.fit L.length L) (zb (Sp.room L [40]) (zb (decide ((0:Int)<(↑(T.ds kids).length:Int))) (za (T.ds kids) (0:Int).toNat λ y=>za y.cells 0 λ c=>za y.cells 1 λ c_1=>za y.cells 2 λ c_2=>za y.cells 3 λ c_3=>za y.cells 4 λ c_4=>zc (zc (zg m (D.agg [c,c_1,c_2,c_3,c_4])) λ t=>zb (Sp.right t) (some (Sp.text t (0:Int)))) λ s_1=>zb (Sp.fit (Sp.app L [40]).length (Sp.app L [40])) (zb (Sp.room (Sp.app L [40]) s_1) (zb (Sp.fit (Sp.app (Sp.app L [40]) s_1).length (Sp.app (Sp.app L [40]) s_1)) (zb (Sp.room (Sp.app (Sp.app L [40]) s_1) (s++[])) (zb (decide ((1:Int)<(↑(T.ds kids).length:Int))) (za (T.ds kids) (1:Int).toNat λ y=>za y.cells 0 λ c=>za y.cells 1 λ c_5=>za y.cells 2 λ c_6=>za y.cells 3 λ c_7=>za y.cells 4 λ c_8=>zc (zc (zg m (D.agg [c,c_5,c_6,c_7,c_8])) λ t=>zb (Sp.right t) (some (Sp.text t (0:Int)))) λ s_2=>zb (Sp.fit (Sp.app (Sp.app (Sp.app L [40]) s_1) (s++[])).length (Sp.app (Sp.app (Sp.app L [40]) s_1) (s++[]))) (zb (Sp.room (Sp.app (Sp.app (Sp.app L [40]) s_1) (s++[])) s_2) (zb (Sp.fit (Sp.app (Sp.app (Sp.app (Sp.app L [40]) s_1) (s++[])) s_2).length (Sp.app (Sp.app (Sp.app (Sp.app L [40]) s_1) (s++[])) s_2)) (zb (Sp.room (Sp.app (Sp.app (Sp.app (Sp.app L [40]) s_1) (s++[])) s_2) [41]) (some (Out.ret (V.tup []),[(0,Ob.val 187695107 (V.agg [V.ptr 0 0,V.sl 6291457 (Sp.app (Sp.app (Sp.app (Sp.app (Sp.app L [40]) s_1) (s++[])) s_2) [41]) 1,V.d (D.bool false)])),(1,Ob.tok (Sp.app (Sp.app (Sp.app (Sp.app (Sp.app L [40]) s_1) (s++[])) s_2) [41]).length)]))))))))))))):=by cases u <;> kernel_rfl
theorem yc1(n m:Nat)(L:List D)(u:Bool)(k:Int)(nm:List UInt8)(kids:List T)(nms:List (List UInt8))(pl:Int)(b:Bool):zl cx (clK 162 znc zmv zs8 (λ _ x=>z0f m x) K91) n 160 [.ptr 0 0,.d (.bool b),.func 162 [.ptr 2 0,.ptr 3 0]] (psB u L (.agg [.int .i64 k,.str nm,.sl 5 (T.ds kids),.sl 1 (nms.map .str),.int .i64 pl]))=bif b then zb (Sp.fit L.length L) (zb (Sp.room L [40]) (zc (zc (zg m (D.agg [D.int .i64 k,D.str nm,D.sl 5 (T.ds kids),D.sl 1 (List.map D.str nms),D.int .i64 pl])) λ t=>zb (Sp.right t) (some (Sp.bare t))) λ s=>zb (Sp.fit (Sp.app L [40]).length (Sp.app L [40])) (zb (Sp.room (Sp.app L [40]) s) (bif b then zb (Sp.fit (Sp.app (Sp.app L [40]) s).length (Sp.app (Sp.app L [40]) s)) (zb (Sp.room (Sp.app (Sp.app L [40]) s) [41]) (some (Out.ret (V.tup []),[(0,Ob.val 187695107 (V.agg [V.ptr 0 0,V.sl 6291457 (Sp.app (Sp.app (Sp.app L [40]) s) [41]) 1,V.d (D.bool false)])),(1,Ob.tok (Sp.app (Sp.app (Sp.app L [40]) s) [41]).length),(2,Ob.val 1 (V.ptr 0 0)),(3,Ob.val 5 (V.d (D.agg [D.int .i64 k,D.str nm,D.sl 5 (T.ds kids),D.sl 1 (List.map D.str nms),D.int .i64 pl])))]))) else some (Out.ret (V.tup []),[(0,Ob.val 187695107 (V.agg [V.ptr 0 0,V.sl 6291457 (Sp.app (Sp.app L [40]) s) 1,V.d (D.bool false)])),(1,Ob.tok (Sp.app (Sp.app L [40]) s).length),(2,Ob.val 1 (V.ptr 0 0)),(3,Ob.val 5 (V.d (D.agg [D.int .i64 k,D.str nm,D.sl 5 (T.ds kids),D.sl 1 (List.map D.str nms),D.int .i64 pl])))]))))) else zc (zc (zg m (D.agg [D.int .i64 k,D.str nm,D.sl 5 (T.ds kids),D.sl 1 (List.map D.str nms),D.int .i64 pl])) λ t=>zb (Sp.right t) (some (Sp.bare t))) λ s=>zb (Sp.fit L.length L) (zb (Sp.room L s) (bif b then zb (Sp.fit (Sp.app L s).length (Sp.app L s)) (zb (Sp.room (Sp.app L s) [41]) (some (Out.ret (V.tup []),[(0,Ob.val 187695107 (V.agg [V.ptr 0 0,V.sl 6291457 (Sp.app (Sp.app L s) [41]) 1,V.d (D.bool false)])),(1,Ob.tok (Sp.app (Sp.app L s) [41]).length),(2,Ob.val 1 (V.ptr 0 0)),(3,Ob.val 5 (V.d (D.agg [D.int .i64 k,D.str nm,D.sl 5 (T.ds kids),D.sl 1 (List.map D.str nms),D.int .i64 pl])))]))) else some (Out.ret (V.tup []),[(0,Ob.val 187695107 (V.agg [V.ptr 0 0,V.sl 6291457 (Sp.app L s) 1,V.d (D.bool false)])),(1,Ob.tok (Sp.app L s).length),(2,Ob.val 1 (V.ptr 0 0)),(3,Ob.val 5 (V.d (D.agg [D.int .i64 k,D.str nm,D.sl 5 (T.ds kids),D.sl 1 (List.map D.str nms),D.int .i64 pl])))]))):=by cases u <;> kernel_rfl
theorem yc0(n m:Nat)(L:List D)(u:Bool)(k:Int)(nm:List UInt8)(kids:List T)(nms:List (List UInt8))(pl:Int)(b:Bool):zl cx (clK 216 znc zmv zs8 (λ _ x=>z2v m (x,1)) K91) n 160 [.ptr 0 0,.d (.bool b),.func 216 [.ptr 2 0,.ptr 3 0]] (psB u L (.agg [.int .i64 k,.str nm,.sl 5 (T.ds kids),.sl 1 (nms.map .str),.int .i64 pl]))=bif b then zb (Sp.fit L.length L) (zb (Sp.room L [40]) (zc (zc (zg m (D.agg [D.int .i64 k,D.str nm,D.sl 5 (T.ds kids),D.sl 1 (List.map D.str nms),D.int .i64 pl])) λ t=>zb (Sp.right t) (some (Sp.text t 1))) λ s=>zb (Sp.fit (Sp.app L [40]).length (Sp.app L [40])) (zb (Sp.room (Sp.app L [40]) s) (bif b then zb (Sp.fit (Sp.app (Sp.app L [40]) s).length (Sp.app (Sp.app L [40]) s)) (zb (Sp.room (Sp.app (Sp.app L [40]) s) [41]) (some (Out.ret (V.tup []),[(0,Ob.val 187695107 (V.agg [V.ptr 0 0,V.sl 6291457 (Sp.app (Sp.app (Sp.app L [40]) s) [41]) 1,V.d (D.bool false)])),(1,Ob.tok (Sp.app (Sp.app (Sp.app L [40]) s) [41]).length),(2,Ob.val 1 (V.ptr 0 0)),(3,Ob.val 5 (V.d (D.agg [D.int .i64 k,D.str nm,D.sl 5 (T.ds kids),D.sl 1 (List.map D.str nms),D.int .i64 pl])))]))) else some (Out.ret (V.tup []),[(0,Ob.val 187695107 (V.agg [V.ptr 0 0,V.sl 6291457 (Sp.app (Sp.app L [40]) s) 1,V.d (D.bool false)])),(1,Ob.tok (Sp.app (Sp.app L [40]) s).length),(2,Ob.val 1 (V.ptr 0 0)),(3,Ob.val 5 (V.d (D.agg [D.int .i64 k,D.str nm,D.sl 5 (T.ds kids),D.sl 1 (List.map D.str nms),D.int .i64 pl])))]))))) else zc (zc (zg m (D.agg [D.int .i64 k,D.str nm,D.sl 5 (T.ds kids),D.sl 1 (List.map D.str nms),D.int .i64 pl])) λ t=>zb (Sp.right t) (some (Sp.text t 1))) λ s=>zb (Sp.fit L.length L) (zb (Sp.room L s) (bif b then zb (Sp.fit (Sp.app L s).length (Sp.app L s)) (zb (Sp.room (Sp.app L s) [41]) (some (Out.ret (V.tup []),[(0,Ob.val 187695107 (V.agg [V.ptr 0 0,V.sl 6291457 (Sp.app (Sp.app L s) [41]) 1,V.d (D.bool false)])),(1,Ob.tok (Sp.app (Sp.app L s) [41]).length),(2,Ob.val 1 (V.ptr 0 0)),(3,Ob.val 5 (V.d (D.agg [D.int .i64 k,D.str nm,D.sl 5 (T.ds kids),D.sl 1 (List.map D.str nms),D.int .i64 pl])))]))) else some (Out.ret (V.tup []),[(0,Ob.val 187695107 (V.agg [V.ptr 0 0,V.sl 6291457 (Sp.app L s) 1,V.d (D.bool false)])),(1,Ob.tok (Sp.app L s).length),(2,Ob.val 1 (V.ptr 0 0)),(3,Ob.val 5 (V.d (D.agg [D.int .i64 k,D.str nm,D.sl 5 (T.ds kids),D.sl 1 (List.map D.str nms),D.int .i64 pl])))]))):=by cases u <;> kernel_rfl
theorem ycz(n m:Nat)(L:List D)(u:Bool)(k:Int)(nm:List UInt8)(kids:List T)(nms:List (List UInt8))(pl:Int)(b:Bool):zl cx (clK 218 zpn zn8 zfx (λ _ x=>zy1 m x) K91) n 160 [.ptr 0 0,.d (.bool b),.func 218 [.ptr 2 0,.ptr 3 0]] (psF u L (.agg [.int .i64 k,.str nm,.sl 5 (T.ds kids),.sl 1 (nms.map .str),.int .i64 pl]))=bif b then zb (Sp.fit L.length L) (zb (Sp.room L [40]) (zc (zc (zg m (D.agg [D.int .i64 k,D.str nm,D.sl 5 (T.ds kids),D.sl 1 (List.map D.str nms),D.int .i64 pl])) λ t=>zb (Sp.form t) (some (xc t))) λ s=>zb (Sp.fit (Sp.app L [40]).length (Sp.app L [40])) (zb (Sp.room (Sp.app L [40]) s) (bif b then zb (Sp.fit (Sp.app (Sp.app L [40]) s).length (Sp.app (Sp.app L [40]) s)) (zb (Sp.room (Sp.app (Sp.app L [40]) s) [41]) (some (Out.ret (V.tup []),[(0,Ob.val 187695107 (V.agg [V.ptr 0 0,V.sl 6291457 (Sp.app (Sp.app (Sp.app L [40]) s) [41]) 1,V.d (D.bool false)])),(1,Ob.tok (Sp.app (Sp.app (Sp.app L [40]) s) [41]).length),(2,Ob.val 5 (V.d (D.agg [D.int .i64 k,D.str nm,D.sl 5 (T.ds kids),D.sl 1 (List.map D.str nms),D.int .i64 pl]))),(3,Ob.val 1 (V.ptr 0 0))]))) else some (Out.ret (V.tup []),[(0,Ob.val 187695107 (V.agg [V.ptr 0 0,V.sl 6291457 (Sp.app (Sp.app L [40]) s) 1,V.d (D.bool false)])),(1,Ob.tok (Sp.app (Sp.app L [40]) s).length),(2,Ob.val 5 (V.d (D.agg [D.int .i64 k,D.str nm,D.sl 5 (T.ds kids),D.sl 1 (List.map D.str nms),D.int .i64 pl]))),(3,Ob.val 1 (V.ptr 0 0))]))))) else zc (zc (zg m (D.agg [D.int .i64 k,D.str nm,D.sl 5 (T.ds kids),D.sl 1 (List.map D.str nms),D.int .i64 pl])) λ t=>zb (Sp.form t) (some (xc t))) λ s=>zb (Sp.fit L.length L) (zb (Sp.room L s) (bif b then zb (Sp.fit (Sp.app L s).length (Sp.app L s)) (zb (Sp.room (Sp.app L s) [41]) (some (Out.ret (V.tup []),[(0,Ob.val 187695107 (V.agg [V.ptr 0 0,V.sl 6291457 (Sp.app (Sp.app L s) [41]) 1,V.d (D.bool false)])),(1,Ob.tok (Sp.app (Sp.app L s) [41]).length),(2,Ob.val 5 (V.d (D.agg [D.int .i64 k,D.str nm,D.sl 5 (T.ds kids),D.sl 1 (List.map D.str nms),D.int .i64 pl]))),(3,Ob.val 1 (V.ptr 0 0))]))) else some (Out.ret (V.tup []),[(0,Ob.val 187695107 (V.agg [V.ptr 0 0,V.sl 6291457 (Sp.app L s) 1,V.d (D.bool false)])),(1,Ob.tok (Sp.app L s).length),(2,Ob.val 5 (V.d (D.agg [D.int .i64 k,D.str nm,D.sl 5 (T.ds kids),D.sl 1 (List.map D.str nms),D.int .i64 pl]))),(3,Ob.val 1 (V.ptr 0 0))]))):=by cases u <;> kernel_rfl
theorem yfc(n m:Nat)(L:List D)(u:Bool)(k:Int)(nm:List UInt8)(kids:List T)(nms:List (List UInt8))(pl a:Int):zl cx (yei m) n 194 [.ptr 0 0,.d (.agg [.int .i64 k,.str nm,.sl 5 (T.ds kids),.sl 1 (nms.map .str),.int .i64 pl]),.d (.int .i64 a)] (psS u L)=zc (zc (zc (zg m (D.agg [D.int .i64 k,D.str nm,D.sl 5 (T.ds kids),D.sl 1 (List.map D.str nms),D.int .i64 pl])) λ t=>zb (Sp.form t) (some (xc t))) λ s=>some (zw (decide (xa k<a)) s)) λ s=>zb (Sp.fit L.length L) (zb (Sp.room L s) (some (Out.ret (V.tup []),[(0,Ob.val 187695107 (V.agg [V.ptr 0 0,V.sl 6291457 (Sp.app L s) 1,V.d (D.bool false)])),(1,Ob.tok (Sp.app L s).length)]))):=by cases u <;> kernel_rfl
theorem yfl(n m:Nat)(L:List D)(u:Bool)(k:Int)(nm:List UInt8)(kids:List T)(nms:List (List UInt8))(pl a:Int):zl cx (K70 m) n 128 [.ptr 0 0,.d (.agg [.int .i64 k,.str nm,.sl 5 (T.ds kids),.sl 1 (nms.map .str),.int .i64 pl]),.d (.int .i64 a)] (psS u L)=zc (Sp.toC (D.agg [D.int .i64 k,D.str nm,D.sl 5 (T.ds kids),D.sl 1 (List.map D.str nms),D.int .i64 pl])) λ b=>zc (zc (zc (zg m (D.agg [D.int .i64 k,D.str nm,D.sl 5 (T.ds kids),D.sl 1 (List.map D.str nms),D.int .i64 pl])) λ t=>zb (Sp.right t) (some (Sp.bare t))) λ s=>some (zw (decide (yp b.k<a)) s)) λ s=>zb (Sp.fit L.length L) (zb (Sp.room L s) (some (Out.ret (V.tup []),[(0,Ob.val 187695107 (V.agg [V.ptr 0 0,V.sl 6291457 (Sp.app L s) 1,V.d (D.bool false)])),(1,Ob.tok (Sp.app L s).length)]))):=by cases u <;> kernel_rfl
theorem yfd(n m:Nat)(L:List D)(u:Bool)(k:Int)(nm:List UInt8)(kids:List T)(nms:List (List UInt8))(pl:Int)(s:List UInt8):zl cx (yej m) n 193 [.ptr 0 0,.d (.agg [.int .i64 k,.str nm,.sl 5 (T.ds kids),.sl 1 (nms.map .str),.int .i64 pl]),.d (.str s)] (psS u L)=zb (decide ((0:Int)<(↑(T.ds kids).length:Int))) (za (T.ds kids) (0:Int).toNat λ y=>za y.cells 0 λ c=>za y.cells 1 λ c_1=>za y.cells 2 λ c_2=>za y.cells 3 λ c_3=>za y.cells 4 λ c_4=>bif decide ((↑(List.map D.str nms).length:Int)=(1:Int)) then zb (decide ((0:Int)<(↑(List.map D.str nms).length:Int))) (za (List.map D.str nms) (0:Int).toNat λ y=>za y.cells 0 λ c_5=>match c_5 with
 | D.str s_1=>zb (Sp.fit L.length L) (zb (Sp.room L (40::(s_1++([32,58,32]++[])))) (zc (zc (zg m (D.agg [c,c_1,c_2,c_3,c_4])) λ t=>zb (Sp.right t) (some (Sp.text t (0:Int)))) λ s_2=>zb (Sp.fit (Sp.app L (40::(s_1++([32,58,32]++[])))).length (Sp.app L (40::(s_1++([32,58,32]++[]))))) (zb (Sp.room (Sp.app L (40::(s_1++([32,58,32]++[])))) s_2) (zb (Sp.fit (Sp.app (Sp.app L (40::(s_1++([32,58,32]++[])))) s_2).length (Sp.app (Sp.app L (40::(s_1++([32,58,32]++[])))) s_2)) (zb (Sp.room (Sp.app (Sp.app L (40::(s_1++([32,58,32]++[])))) s_2) [41]) (zb (Sp.fit (Sp.app (Sp.app (Sp.app L (40::(s_1++([32,58,32]++[])))) s_2) [41]).length (Sp.app (Sp.app (Sp.app L (40::(s_1++([32,58,32]++[])))) s_2) [41])) (zb (Sp.room (Sp.app (Sp.app (Sp.app L (40::(s_1++([32,58,32]++[])))) s_2) [41]) (s++[])) (zb (decide ((1:Int)<(↑(T.ds kids).length:Int))) (za (T.ds kids) (1:Int).toNat λ y=>za y.cells 0 λ c=>za y.cells 1 λ c_6=>za y.cells 2 λ c_7=>za y.cells 3 λ c_8=>za y.cells 4 λ c_9=>zc (zc (zg m (D.agg [c,c_6,c_7,c_8,c_9])) λ t=>zb (Sp.right t) (some (Sp.text t (0:Int)))) λ s_3=>zb (Sp.fit (Sp.app (Sp.app (Sp.app (Sp.app L (40::(s_1++([32,58,32]++[])))) s_2) [41]) (s++[])).length (Sp.app (Sp.app (Sp.app (Sp.app L (40::(s_1++([32,58,32]++[])))) s_2) [41]) (s++[]))) (zb (Sp.room (Sp.app (Sp.app (Sp.app (Sp.app L (40::(s_1++([32,58,32]++[])))) s_2) [41]) (s++[])) s_3) (some (Out.ret (V.tup []),[(0,Ob.val 187695107 (V.agg [V.ptr 0 0,V.sl 6291457 (Sp.app (Sp.app (Sp.app (Sp.app (Sp.app L (40::(s_1++([32,58,32]++[])))) s_2) [41]) (s++[])) s_3) 1,V.d (D.bool false)])),(1,Ob.tok (Sp.app (Sp.app (Sp.app (Sp.app (Sp.app L (40::(s_1++([32,58,32]++[])))) s_2) [41]) (s++[])) s_3).length)]))))))))))))
 | x=>none) else match c with
 | D.int k' n=>bif decide (k'=IntKind.i64) then bif decide (n=(9:Int)) then match c_2 with
  | D.sl s_1 l=>bif s_1.beq (cx.P.cellsOf 26)||l.isEmpty then zb (decide ((0:Int)<(↑l.length:Int))) (za l (0:Int).toNat λ y=>za y.cells 0 λ c_5=>match c_5 with
   | D.int k' n=>bif decide (k'=IntKind.i64) then zc (zc (zc (zg m (D.agg [c,c_1,c_2,c_3,c_4])) λ t=>zb (Sp.right t) (some (Sp.text t 1))) λ s=>some (zw (decide (n=(1:Int))) s)) λ s_2=>zb (Sp.fit L.length L) (zb (Sp.room L s_2) (zb (Sp.fit (Sp.app L s_2).length (Sp.app L s_2)) (zb (Sp.room (Sp.app L s_2) (s++[])) (zb (decide ((1:Int)<(↑(T.ds kids).length:Int))) (za (T.ds kids) (1:Int).toNat λ y=>za y.cells 0 λ c=>za y.cells 1 λ c_6=>za y.cells 2 λ c_7=>za y.cells 3 λ c_8=>za y.cells 4 λ c_9=>zc (zc (zg m (D.agg [c,c_6,c_7,c_8,c_9])) λ t=>zb (Sp.right t) (some (Sp.text t (0:Int)))) λ s_3=>zb (Sp.fit (Sp.app (Sp.app L s_2) (s++[])).length (Sp.app (Sp.app L s_2) (s++[]))) (zb (Sp.room (Sp.app (Sp.app L s_2) (s++[])) s_3) (some (Out.ret (V.tup []),[(0,Ob.val 187695107 (V.agg [V.ptr 0 0,V.sl 6291457 (Sp.app (Sp.app (Sp.app L s_2) (s++[])) s_3) 1,V.d (D.bool false)])),(1,Ob.tok (Sp.app (Sp.app (Sp.app L s_2) (s++[])) s_3).length)])))))))) else none
   | x=>none) else none
  | x=>none else zc (zc (zc (zg m (D.agg [c,c_1,c_2,c_3,c_4])) λ t=>zb (Sp.right t) (some (Sp.text t 1))) λ s=>some s) λ s_1=>zb (Sp.fit L.length L) (zb (Sp.room L s_1) (zb (Sp.fit (Sp.app L s_1).length (Sp.app L s_1)) (zb (Sp.room (Sp.app L s_1) (s++[])) (zb (decide ((1:Int)<(↑(T.ds kids).length:Int))) (za (T.ds kids) (1:Int).toNat λ y=>za y.cells 0 λ c=>za y.cells 1 λ c_5=>za y.cells 2 λ c_6=>za y.cells 3 λ c_7=>za y.cells 4 λ c_8=>zc (zc (zg m (D.agg [c,c_5,c_6,c_7,c_8])) λ t=>zb (Sp.right t) (some (Sp.text t (0:Int)))) λ s_2=>zb (Sp.fit (Sp.app (Sp.app L s_1) (s++[])).length (Sp.app (Sp.app L s_1) (s++[]))) (zb (Sp.room (Sp.app (Sp.app L s_1) (s++[])) s_2) (some (Out.ret (V.tup []),[(0,Ob.val 187695107 (V.agg [V.ptr 0 0,V.sl 6291457 (Sp.app (Sp.app (Sp.app L s_1) (s++[])) s_2) 1,V.d (D.bool false)])),(1,Ob.tok (Sp.app (Sp.app (Sp.app L s_1) (s++[])) s_2).length)])))))))) else none
 | x=>none):=by cases u <;> kernel_rfl
theorem z95(n m:Nat)(L:List D)(u:Bool)(nm:List UInt8)(kids:List T)(nms:List (List UInt8))(pl:Int):zl cx (K71 m) n 163 [.ptr 0 0,.d (.agg [.int .i64 1,.str nm,.sl 5 (T.ds kids),.sl 1 (nms.map .str),.int .i64 pl])] (psS u L)=zb (Sp.fit L.length L) (zb (Sp.room L (nm++[])) (some (Out.ret (V.tup []),[(0,Ob.val 187695107 (V.agg [V.ptr 0 0,V.sl 6291457 (Sp.app L (nm++[])) 1,V.d (D.bool false)])),(1,Ob.tok (Sp.app L (nm++[])).length)]))):=by cases u <;> kernel_rfl
theorem z94(n m:Nat)(L:List D)(u:Bool)(nm:List UInt8)(kids:List T)(nms:List (List UInt8))(pl:Int):zl cx (K71 m) n 163 [.ptr 0 0,.d (.agg [.int .i64 2,.str nm,.sl 5 (T.ds kids),.sl 1 (nms.map .str),.int .i64 pl])] (psS u L)=zc (zcq (D.sl 1 (List.map D.str nms),[32])) λ b=>zb (Sp.fit L.length L) (zb (Sp.room L (92::(zu b.fst b.snd++([46,32]++[])))) (zb (decide ((0:Int)<(↑(T.ds kids).length:Int))) (za (T.ds kids) (0:Int).toNat λ y=>za y.cells 0 λ c=>za y.cells 1 λ c_1=>za y.cells 2 λ c_2=>za y.cells 3 λ c_3=>za y.cells 4 λ c_4=>zc (zc (zg m (D.agg [c,c_1,c_2,c_3,c_4])) λ t=>zb (Sp.right t) (some (Sp.text t (0:Int)))) λ s=>zb (Sp.fit (Sp.app L (92::(zu b.fst b.snd++([46,32]++[])))).length (Sp.app L (92::(zu b.fst b.snd++([46,32]++[]))))) (zb (Sp.room (Sp.app L (92::(zu b.fst b.snd++([46,32]++[])))) s) (some (Out.ret (V.tup []),[(0,Ob.val 187695107 (V.agg [V.ptr 0 0,V.sl 6291457 (Sp.app (Sp.app L (92::(zu b.fst b.snd++([46,32]++[])))) s) 1,V.d (D.bool false)])),(1,Ob.tok (Sp.app (Sp.app L (92::(zu b.fst b.snd++([46,32]++[])))) s).length)])))))):=by cases u <;> kernel_rfl
theorem z93(n m:Nat)(L:List D)(u:Bool)(nm:List UInt8)(kids:List T)(nms:List (List UInt8))(pl:Int):zl cx (K71 m) n 163 [.ptr 0 0,.d (.agg [.int .i64 3,.str nm,.sl 5 (T.ds kids),.sl 1 (nms.map .str),.int .i64 pl])] (psS u L)=zc (zcq (D.sl 1 (List.map D.str nms),[32])) λ b=>zb (Sp.fit L.length L) (zb (Sp.room L (60::(zu b.fst b.snd++([62,32]++[])))) (zb (decide ((0:Int)<(↑(T.ds kids).length:Int))) (za (T.ds kids) (0:Int).toNat λ y=>za y.cells 0 λ c=>za y.cells 1 λ c_1=>za y.cells 2 λ c_2=>za y.cells 3 λ c_3=>za y.cells 4 λ c_4=>zc (zc (zg m (D.agg [c,c_1,c_2,c_3,c_4])) λ t=>zb (Sp.right t) (some (Sp.text t (0:Int)))) λ s=>zb (Sp.fit (Sp.app L (60::(zu b.fst b.snd++([62,32]++[])))).length (Sp.app L (60::(zu b.fst b.snd++([62,32]++[]))))) (zb (Sp.room (Sp.app L (60::(zu b.fst b.snd++([62,32]++[])))) s) (some (Out.ret (V.tup []),[(0,Ob.val 187695107 (V.agg [V.ptr 0 0,V.sl 6291457 (Sp.app (Sp.app L (60::(zu b.fst b.snd++([62,32]++[])))) s) 1,V.d (D.bool false)])),(1,Ob.tok (Sp.app (Sp.app L (60::(zu b.fst b.snd++([62,32]++[])))) s).length)])))))):=by cases u <;> kernel_rfl
theorem z92(n m:Nat)(L:List D)(u:Bool)(nm:List UInt8)(kids:List T)(nms:List (List UInt8))(pl:Int):zl cx (K71 m) n 163 [.ptr 0 0,.d (.agg [.int .i64 4,.str nm,.sl 5 (T.ds kids),.sl 1 (nms.map .str),.int .i64 pl])] (psS u L)=zc (zc (zg (m+1) (D.agg [D.int .i64 (4:Int),D.str nm,D.sl 5 (T.ds kids),D.sl 1 (List.map D.str nms),D.int .i64 pl])) λ t=>zb (zd8 t) (some (ze0 t [32,45,62,32]))) λ s=>zb (Sp.fit L.length L) (zb (Sp.room L s) (some (Out.ret (V.tup []),[(0,Ob.val 187695107 (V.agg [V.ptr 0 0,V.sl 6291457 (Sp.app L s) 1,V.d (D.bool false)])),(1,Ob.tok (Sp.app L s).length)]))):=by cases u <;> kernel_rfl
theorem z91(n m:Nat)(L:List D)(u:Bool)(nm:List UInt8)(kids:List T)(nms:List (List UInt8))(pl:Int):zl cx (K71 m) n 163 [.ptr 0 0,.d (.agg [.int .i64 5,.str nm,.sl 5 (T.ds kids),.sl 1 (nms.map .str),.int .i64 pl])] (psS u L)=zc (zc (zg (m+1) (D.agg [D.int .i64 (5:Int),D.str nm,D.sl 5 (T.ds kids),D.sl 1 (List.map D.str nms),D.int .i64 pl])) λ t=>zb (zd8 t) (some (ze0 t [32,42,32]))) λ s=>zb (Sp.fit L.length L) (zb (Sp.room L s) (some (Out.ret (V.tup []),[(0,Ob.val 187695107 (V.agg [V.ptr 0 0,V.sl 6291457 (Sp.app L s) 1,V.d (D.bool false)])),(1,Ob.tok (Sp.app L s).length)]))):=by cases u <;> kernel_rfl
theorem z90(n m:Nat)(L:List D)(u:Bool)(nm:List UInt8)(kids:List T)(nms:List (List UInt8))(pl:Int):zl cx (K71 m) n 163 [.ptr 0 0,.d (.agg [.int .i64 6,.str nm,.sl 5 (T.ds kids),.sl 1 (nms.map .str),.int .i64 pl])] (psS u L)=zb (decide ((0:Int)<(↑(T.ds kids).length:Int))) (za (T.ds kids) (0:Int).toNat λ y=>za y.cells 0 λ c=>za y.cells 1 λ c_1=>za y.cells 2 λ c_2=>za y.cells 3 λ c_3=>za y.cells 4 λ c_4=>zc (zc (zg m (D.agg [c,c_1,c_2,c_3,c_4])) λ t=>zb (Sp.right t) (some (Sp.text t (1:Int)))) λ s=>zb (Sp.fit L.length L) (zb (Sp.room L s) (zb (Sp.fit (Sp.app L s).length (Sp.app L s)) (zb (Sp.room (Sp.app L s) [32]) (zb (decide ((1:Int)<(↑(T.ds kids).length:Int))) (za (T.ds kids) (1:Int).toNat λ y=>za y.cells 0 λ c=>za y.cells 1 λ c_5=>za y.cells 2 λ c_6=>za y.cells 3 λ c_7=>za y.cells 4 λ c_8=>zc (zc (zg m (D.agg [c,c_5,c_6,c_7,c_8])) λ t=>zb (Sp.right t) (some (Sp.text t (2:Int)))) λ s_1=>zb (Sp.fit (Sp.app (Sp.app L s) [32]).length (Sp.app (Sp.app L s) [32])) (zb (Sp.room (Sp.app (Sp.app L s) [32]) s_1) (some (Out.ret (V.tup []),[(0,Ob.val 187695107 (V.agg [V.ptr 0 0,V.sl 6291457 (Sp.app (Sp.app (Sp.app L s) [32]) s_1) 1,V.d (D.bool false)])),(1,Ob.tok (Sp.app (Sp.app (Sp.app L s) [32]) s_1).length)]))))))))):=by cases u <;> kernel_rfl
theorem z9z(n m:Nat)(L:List D)(u:Bool)(nm:List UInt8)(kids:List T)(nms:List (List UInt8))(pl:Int):zl cx (K71 m) n 163 [.ptr 0 0,.d (.agg [.int .i64 7,.str nm,.sl 5 (T.ds kids),.sl 1 (nms.map .str),.int .i64 pl])] (psS u L)=zb (decide ((0:Int)<(↑(T.ds kids).length:Int))) (za (T.ds kids) (0:Int).toNat λ y=>za y.cells 0 λ c=>za y.cells 1 λ c_1=>za y.cells 2 λ c_2=>za y.cells 3 λ c_3=>za y.cells 4 λ c_4=>zc (zc (zg m (D.agg [c,c_1,c_2,c_3,c_4])) λ t=>zb (Sp.right t) (some (Sp.text t (1:Int)))) λ s=>zb (Sp.fit L.length L) (zb (Sp.room L s) (zb (Sp.fit (Sp.app L s).length (Sp.app L s)) (zb (Sp.room (Sp.app L s) [32,64,32]) (zb (decide ((1:Int)<(↑(T.ds kids).length:Int))) (za (T.ds kids) (1:Int).toNat λ y=>za y.cells 0 λ c=>za y.cells 1 λ c_5=>za y.cells 2 λ c_6=>za y.cells 3 λ c_7=>za y.cells 4 λ c_8=>zc (zc (Sp.toC (D.agg [c,c_5,c_6,c_7,c_8])) λ t=>zb (Sp.form t) (some (wx t (2:Int)))) λ s_1=>zb (Sp.fit (Sp.app (Sp.app L s) [32,64,32]).length (Sp.app (Sp.app L s) [32,64,32])) (zb (Sp.room (Sp.app (Sp.app L s) [32,64,32]) s_1) (some (Out.ret (V.tup []),[(0,Ob.val 187695107 (V.agg [V.ptr 0 0,V.sl 6291457 (Sp.app (Sp.app (Sp.app L s) [32,64,32]) s_1) 1,V.d (D.bool false)])),(1,Ob.tok (Sp.app (Sp.app (Sp.app L s) [32,64,32]) s_1).length)]))))))))):=by cases u <;> kernel_rfl
theorem z9y(n m:Nat)(L:List D)(u:Bool)(nm:List UInt8)(kids:List T)(nms:List (List UInt8))(pl:Int):zl cx (K71 m) n 163 [.ptr 0 0,.d (.agg [.int .i64 8,.str nm,.sl 5 (T.ds kids),.sl 1 (nms.map .str),.int .i64 pl])] (psS u L)=zc (zc (zg (m+1) (D.agg [D.int .i64 (8:Int),D.str nm,D.sl 5 (T.ds kids),D.sl 1 (List.map D.str nms),D.int .i64 pl])) λ t=>zb (zd7 t) (some (zew t [44,32]))) λ s=>zb (Sp.fit L.length L) (zb (Sp.room L s) (some (Out.ret (V.tup []),[(0,Ob.val 187695107 (V.agg [V.ptr 0 0,V.sl 6291457 (Sp.app L s) 1,V.d (D.bool false)])),(1,Ob.tok (Sp.app L s).length)]))):=by cases u <;> kernel_rfl
theorem z9x(n m:Nat)(L:List D)(u:Bool)(nm:List UInt8)(kids:List T)(nms:List (List UInt8))(pl:Int):zl cx (K71 m) n 163 [.ptr 0 0,.d (.agg [.int .i64 9,.str nm,.sl 5 (T.ds kids),.sl 1 (nms.map .str),.int .i64 pl])] (psS u L)=zc (zc (zg (m+1) (D.agg [D.int .i64 (9:Int),D.str nm,D.sl 5 (T.ds kids),D.sl 1 (List.map D.str nms),D.int .i64 pl])) λ t=>zb (zd7 t) (some (zew t [32,58,32]))) λ s=>zb (Sp.fit L.length L) (zb (Sp.room L s) (some (Out.ret (V.tup []),[(0,Ob.val 187695107 (V.agg [V.ptr 0 0,V.sl 6291457 (Sp.app L s) 1,V.d (D.bool false)])),(1,Ob.tok (Sp.app L s).length)]))):=by cases u <;> kernel_rfl
theorem z6q(n m:Nat)(L:List D)(u:Bool)(nm:List UInt8)(kids:List T)(nms:List (List UInt8))(pl:Int):zl cx (K71 m) n 163 [.ptr 0 0,.d (.agg [.int .i64 10,.str nm,.sl 5 (T.ds kids),.sl 1 (nms.map .str),.int .i64 pl])] (psS u L)=zc (zc (zg (m+1) (D.agg [D.int .i64 (10:Int),D.str nm,D.sl 5 (T.ds kids),D.sl 1 (List.map D.str nms),D.int .i64 pl])) λ t=>zb (zbx t) (some (zdc t))) λ s=>zb (Sp.fit L.length L) (zb (Sp.room L s) (some (Out.ret (V.tup []),[(0,Ob.val 187695107 (V.agg [V.ptr 0 0,V.sl 6291457 (Sp.app L s) 1,V.d (D.bool false)])),(1,Ob.tok (Sp.app L s).length)]))):=by cases u <;> kernel_rfl
theorem wm{L:List D}{s:List UInt8}(h:L.length+s.length≤65536):Sp.room L s=true:=pa h
theorem room_le{L:List D}{s:List UInt8}(h:Sp.room L s=true):L.length+s.length≤65536:=pc h
theorem zcx{k:Int}{nm:List UInt8}{kids:List T}{nms:List (List UInt8)}{pl:Int}(h:Sp.right (.mk k nm kids nms pl)=true)(hk:k=4∨k=5∨k=6∨k=8∨k=9) :
  ∃ a b,kids=[a,b]∧Sp.right a=true∧Sp.right b=true:=by
 rcases kids with _ | ⟨a,_ | ⟨b,_ | ⟨c,l⟩⟩⟩ <;> rcases hk with rfl | rfl | rfl | rfl | rfl <;> simp [Sp.right] at h ⊢
 all_goals exact ⟨a,b,⟨rfl,rfl⟩,h.2.1.2,h.2.2⟩
theorem ybf{m:Nat}(hm:knows cx (KT m).S (zh cx)){u:Bool}{L:List D}{t:T}{s:List UInt8}(hd:t.depth≤m+1)(ho:t.ok=true)(hi:zd7 t=true)(hr:Sp.room L (zew t s)=true) :
  zh cx 195 [.ptr 0 0,.d t.d,.d (.str s)] (psS u L)=some (.ret (.tup []),psS true (Sp.app L (zew t s))):=by
 obtain ⟨k,nm,kids,nms,pl⟩:=t;obtain ⟨h1,h2,h3,h4,h5⟩:=wu ho;have hkd:=vo hd;simp only [zd7,zl8,ph,Bool.or_eq_true] at hi;obtain ⟨a,b,rfl,ha,hb⟩:=zcx hi.1 (by rcases hi.2 with h | h <;> have:=pc h <;> omega)
 have hT:∀ t∈[a,b],zg m t.d=some t:=λ t h=>zad hkd h5 h;have hlen:=room_le hr;simp only [zew,zac,yv [a,b] 0 0 a rfl,yv [a,b] 0 1 b rfl,pe,List.length_cons,List.length_nil] at hlen;refine zk hm (N:=0) ?_;refine (yfb 0 m L u k nm [a,b] nms pl s).trans ?_;simp only [zew,zac,yv [a,b] 0 0 a rfl,yv [a,b] 0 1 b rfl];have e0:decide ((0:Int)<((T.ds [a,b]).length:Int))=true:=by rw [zo]; rfl
 have e1:decide ((1:Int)<((T.ds [a,b]).length:Int))=true:=by rw [zo]; rfl
 have n0:[a,b][(0:Int).toNat]?=some a:=rfl;have n1:[a,b][(1:Int).toNat]?=some b:=rfl;simp only [e0,e1,zz,n0,n1,yb,xo,wz,vc,vb,va,wj,hT a (by simp),hT b (by simp),zc,zb,cond_true,ye,ha,hb]
 simp (disch:=(simp only [x9,pe,List.length_cons,List.length_nil]; omega)) only [wm,cond_true];simp [xp,psS,adV]
theorem ybq(t:T)(h:t.ok=true):zh cx 161 [.d t.d] []=some (.ret (mkI (yp t.k)),[]):=by
 obtain ⟨k,nm,kids,nms,pl⟩:=t;refine zk zm (N:=0) ?_;refine (g69 0 k nm kids nms pl).trans ?_;simp only [zl8,mkI,yp];have hk:k=2∨k=3∨k=4∨k=5∨k=6∨k=7∨(k ≠ 2∧k ≠ 3∧k ≠ 4∧k ≠ 5∧k ≠ 6∧k ≠ 7):=by omega
 rcases hk with rfl | rfl | rfl | rfl | rfl | rfl | ⟨q1,q2,q3,q4,q5,q6⟩ <;> simp [*]
theorem z9c(k:Int):zh cx 217 [.d (.int .i64 k)] []=some (.ret (mkI (xa k)),[]):=by
 refine zk zm (N:=0) ?_;refine (yfn 0 k).trans ?_;simp only [mkI,xa];cases decide (k=14) <;> cases decide (k=15) <;> rfl
theorem zcb:knows cx K91.S (zh cx):=by
 have h107:=zj (f:=217) (dec:=z4p) (sp:=some) (mk:=λ k=>mkI (xa k)) z1z λ a q b hd h hb=>by
  cases hb;unfold z4p at h;split at h
  ·cases h; exact z9c _
  ·cases h
 exact zj h107 λ a q b hd h hb=>by
  obtain rfl:=xy h;obtain ⟨rfl,h1⟩:=xz hb;exact ybq b h1
theorem zsa{k:Int}{nm:List UInt8}{kids:List T}{nms:List (List UInt8)}{pl:Int}(h:Sp.form (.mk k nm kids nms pl)=true) :
  (kids=[]∧(k=1∨k=17))∨(∃ a,kids=[a]∧k=16∧Sp.form a=true)∨(∃ a b,kids=[a,b]∧(k=14∨k=15)∧Sp.form a=true∧Sp.form b=true):=by
 rcases kids with _ | ⟨a,_ | ⟨b,_ | ⟨c,l⟩⟩⟩ <;> simp [Sp.form] at h ⊢
 ·rcases h.2 with h | h <;> simp [h.1]
 ·exact ⟨h.1.1.1,h.2⟩
 ·exact ⟨a,b,⟨rfl,rfl⟩,h.1.1.1.1,h.1.2,h.2⟩
theorem z9b{m:Nat}(hm:knows cx (KM m).S (zh cx)){u:Bool}{L:List D}{t:T}(hd:t.depth≤m+1)(ho:t.ok=true)(hi:Sp.form t=true)(hr:Sp.room L (xc t)=true) :
  zh cx 218 [.ptr 0 0,.ptr 1 0] (zfx u L t.d)=some (.ret (.tup []),zfx true (Sp.app L (xc t)) t.d):=by
 obtain ⟨k,nm,kids,nms,pl⟩:=t;obtain ⟨h1,h2,h3,h4,h5⟩:=wu ho;have hkd:=vo hd;have hT:∀ t∈kids,zg m t.d=some t:=λ t h=>zad hkd h5 h;have hlen:=room_le hr;refine zk hm (N:=0) ?_;refine (ydb 0 m L u k nm kids nms pl).trans ?_;rcases zsa hi with ⟨rfl,hk⟩ | ⟨a,rfl,rfl,ha⟩ | ⟨a,b,rfl,hk,ha,hb⟩
 ·have e:xc (.mk k nm [] nms pl)=nm:=by rcases hk with rfl | rfl <;> simp [xc]
  rw [e] at hlen ⊢;rw [pb (p:=k=16) (by omega),pb (p:=k=15) (by omega),pb (p:=k=14) (by omega)]
  simp only [cond_false,ye,zb,cond_true,List.append_nil];rw [wm hlen];simp [zfx,T.d,T.ds]
 ·have e:xc (.mk 16 nm [a] nms pl)=[126]++wx a 2:=by simp [xc,←zeq [a] 2 0 a rfl]
  rw [e] at hlen ⊢;simp only [pe,List.length_cons,List.length_nil] at hlen;have e0:decide ((0:Int)<((T.ds [a]).length:Int))=true:=by rw [zo]; rfl
  have n0:[a][(0:Int).toNat]?=some a:=rfl;simp only [decide_true,e0,zz,n0,yb,xo,wz,vc,vb,va,wj,hT a (by simp),zc,zb,cond_true,ye,ha]
  simp (disch:=((try simp only [x9,pe,List.length_cons,List.length_nil]); omega)) only [wm,cond_true]
  simp [xp,zfx,T.d]
 ·have e0:decide ((0:Int)<((T.ds [a,b]).length:Int))=true:=by rw [zo]; rfl
  have e1:decide ((1:Int)<((T.ds [a,b]).length:Int))=true:=by rw [zo]; rfl
  have n0:[a,b][(0:Int).toNat]?=some a:=rfl;have n1:[a,b][(1:Int).toNat]?=some b:=rfl;rcases hk with rfl | rfl
  ·have e:xc (.mk 14 nm [a,b] nms pl)=wx a 0++[32,92,47,32]++wx b 1:=by simp [xc,←zeq [a,b] 0 0 a rfl,←zeq [a,b] 1 1 b rfl]
   rw [e] at hlen ⊢;simp only [pe,List.length_cons,List.length_nil] at hlen;simp only [Int.reduceEq,decide_false,cond_false,decide_true,e0,e1,zz,n0,n1,yb,xo,wz,vc,vb,va,wj,hT a (by simp),hT b (by simp),zc,zb,cond_true,ye,ha,hb]
   simp (disch:=((try simp only [x9,pe,List.length_cons,List.length_nil]); omega)) only [wm,cond_true]
   simp [xp,zfx,T.d]
  ·have e:xc (.mk 15 nm [a,b] nms pl)=wx a 1++[32,47,92,32]++wx b 2:=by simp [xc,←zeq [a,b] 1 0 a rfl,←zeq [a,b] 2 1 b rfl]
   rw [e] at hlen ⊢;simp only [pe,List.length_cons,List.length_nil] at hlen;simp only [Int.reduceEq,decide_false,cond_false,decide_true,e0,e1,zz,n0,n1,yb,xo,wz,vc,vb,va,wj,hT a (by simp),hT b (by simp),zc,zb,cond_true,ye,ha,hb]
   simp (disch:=((try simp only [x9,pe,List.length_cons,List.length_nil]); omega)) only [wm,cond_true]
   simp [xp,zfx,T.d]
theorem zhf(b:Bool)(s:List UInt8):(zw b s).length=s.length+bif b then 2 else 0:=by cases b <;> simp [zw]
theorem z84{m:Nat}(hc:knows cx (clK 218 zpn zn8 zfx (λ _ x=>zy1 m x) K91).S (zh cx)){u b:Bool}{L:List D}{t:T}(hd:t.depth≤m)(ho:t.ok=true)(hi:Sp.form t=true)(hr:Sp.room L (zw b (xc t))=true) :
  zh cx 160 [.ptr 0 0,.d (.bool b),.func 218 [.ptr 2 0,.ptr 3 0]] (psF u L t.d)=some (.ret (.tup []),psF true (Sp.app L (zw b (xc t))) t.d):=by
 have hT:=zdu hd ho;have hlen:=room_le hr;rw [zhf] at hlen;refine zk hc (N:=0) ?_;obtain ⟨k,nm,kids,nms,pl⟩:=t;refine (ycz 0 m L u k nm kids nms pl b).trans ?_;simp only [T.d] at hT;cases b
 ·simp only [cond_false] at hlen;simp only [hT,zc,zb,hi,cond_true,cond_false,ye];simp (disch:=((try simp only [x9,pe,List.length_cons,List.length_nil]); omega)) only [wm,cond_true]
  simp [xp,psF,psS,adV,T.d,zw]
 ·simp only [cond_true] at hlen;simp only [hT,zc,zb,hi,cond_true,cond_false,ye];simp (disch:=((try simp only [x9,pe,List.length_cons,List.length_nil]); omega)) only [wm,cond_true]
  simp [xp,psF,psS,adV,T.d,zw]
theorem zyw{m:Nat}(h:∀ {u L t},t.depth≤m→t.ok=true→Sp.form t=true→Sp.room L (xc t)=true→zh cx 218 [.ptr 0 0,.ptr 1 0] (zfx u L t.d)=some (.ret (.tup []),zfx true (Sp.app L (xc t)) t.d)) :
  knows cx (yei m).S (zh cx):=by
 have hc:knows cx (clK 218 zpn zn8 zfx (λ _ x=>zy1 m x) K91).S (zh cx):=zeg zcb zux λ a b x s u L ha hs hr=>by
  obtain rfl:=zwh ha;obtain ⟨t,ht,hs⟩:=zd hs;obtain ⟨hf,hs⟩:=ze hs;cases hs;obtain ⟨rfl,h1,h2⟩:=y5 ht;exact h h1 h2 hf hr
 exact zeg zcb z0l λ a b x s u L ha hs hr=>by
  obtain rfl:=zjw ha;obtain ⟨s',hs',hs⟩:=zd hs;cases hs;obtain ⟨t,ht,hs'⟩:=zd hs';obtain ⟨hf,hs'⟩:=ze hs';cases hs';obtain ⟨rfl,h1,h2⟩:=y5 ht;exact z84 hc h1 h2 hf hr
theorem z7p:∀ (m:Nat) (u:Bool) (L:List D) (t:T) (a:Int),t.depth≤m→t.ok=true→Sp.form t=true→Sp.room L (wx t a)=true →
  zh cx 194 [.ptr 0 0,.d t.d,.d (.int .i64 a)] (psS u L)=some (.ret (.tup []),psS true (Sp.app L (wx t a)))
 | 0,_,_,.mk ..,_,h,_,_,_=>by simp [T.depth] at h
 | m+1,u,L,t,a,hd,ho,hi,hr=>by
  have hm:knows cx (KM m).S (zh cx):=zaq zcb λ a q s u L ha hs hr=>by
   obtain ⟨x,n⟩:=q;obtain rfl:=zg4 ha;obtain ⟨t,ht,hs⟩:=zd hs;obtain ⟨hf,hs⟩:=ze hs;cases hs;obtain ⟨rfl,h1,h2⟩:=y5 ht;exact z7p m u L t n h1 h2 hf hr
  have hK:=zyw (m:=m+1) λ h1 h2 h3 h4=>z9b hm h1 h2 h3 h4;have hT:=zdu hd ho;refine zk hK (N:=0) ?_;obtain ⟨k,nm,kids,nms,pl⟩:=t;refine (yfc 0 (m+1) L u k nm kids nms pl a).trans ?_;simp only [T.d] at hT;have hr:Sp.room L (zw (decide (xa k<a)) (xc (.mk k nm kids nms pl)))=true:=hr;show _=some (Out.ret (V.tup []),psS true (Sp.app L (zw (decide (xa k<a)) (xc (.mk k nm kids nms pl)))));simp only [hT,zc,zb,hi,cond_true,ye,hr];rfl
theorem zam{k:Int}{nm:List UInt8}{kids:List T}{nms:List (List UInt8)}{pl:Int}:(T.mk k nm kids nms pl).d.cells=[.int .i64 k,.str nm,.sl 5 (T.ds kids),.sl 1 (nms.map .str),.int .i64 pl]:=rfl
theorem zca(s:List UInt8):(D.str s).cells=[.str s]:=rfl
theorem zh3(t:T):T.mk t.k t.nm t.kids t.nms t.pl=t:=by cases t; rfl
theorem zih{k:Int}{nm:List UInt8}{kids:List T}{nms:List (List UInt8)}{pl:Int}:D.agg [.int .i64 k,.str nm,.sl 5 (T.ds kids),.sl 1 (nms.map .str),.int .i64 pl]=(T.mk k nm kids nms pl).d:=rfl
theorem zlr{k : Int}{nm : List UInt8}{kids : List T}{nms : List (List UInt8)}{pl : Int}(h : Sp.right (.mk k nm kids nms pl) = true)(hk : k = 4 ∨ k = 5) : nms = [] ∨ ∃ x, nms = [x] := by
  rcases kids with _ | ⟨a, _ | ⟨b, _ | ⟨c, l⟩⟩⟩ <;> rcases hk with rfl | rfl <;> simp [Sp.right] at h
  all_goals (rcases nms with _ | ⟨x, _ | ⟨y, r⟩⟩
             · exact .inl rfl
             · exact .inr ⟨x, rfl⟩
             · have := h.2.1.1.1; simp at this; omega)
theorem z85{m:Nat}(hc:knows cx (clK 216 znc zmv zs8 (λ _ x=>z2v m (x,1)) K91).S (zh cx)){u b:Bool}{L:List D}{t:T}(hd:t.depth≤m)(ho:t.ok=true)(hi:Sp.right t=true)(hr:Sp.room L (zw b (Sp.text t 1))=true) :
  zh cx 160 [.ptr 0 0,.d (.bool b),.func 216 [.ptr 2 0,.ptr 3 0]] (psB u L t.d)=some (.ret (.tup []),psB true (Sp.app L (zw b (Sp.text t 1))) t.d):=by
 have hT:=zdu hd ho;have hlen:=room_le hr;rw [zhf] at hlen;refine zk hc (N:=0) ?_;obtain ⟨k,nm,kids,nms,pl⟩:=t;refine (yc0 0 m L u k nm kids nms pl b).trans ?_;simp only [T.d] at hT;cases b
 ·simp only [cond_false] at hlen;simp only [hT,zc,zb,hi,cond_true,cond_false,ye];simp (disch:=((try simp only [x9,pe,List.length_cons,List.length_nil]); omega)) only [wm,cond_true]
  simp [xp,psB,psS,adV,T.d,zw]
 ·simp only [cond_true] at hlen;simp only [hT,zc,zb,hi,cond_true,cond_false,ye];simp (disch:=((try simp only [x9,pe,List.length_cons,List.length_nil]); omega)) only [wm,cond_true]
  simp [xp,psB,psS,adV,T.d,zw]
theorem zyx{m:Nat}(hm:knows cx (KT m).S (zh cx)):knows cx (yej m).S (zh cx):=by
 have hc:knows cx (clK 216 znc zmv zs8 (λ _ x=>z2v m (x,1)) K91).S (zh cx):=zeg zcb zn7 λ a b x s u L ha hs hr=>by
  obtain rfl:=zpl ha;obtain ⟨t,ht,hs⟩:=zd hs;obtain ⟨hf,hs⟩:=ze hs;cases hs;obtain ⟨rfl,h1,h2⟩:=y5 ht;have hT:=zdu h1 h2;refine zk hm (N:=0) ?_;obtain ⟨k,nm,kids,nms,pl⟩:=t;refine (ydc 0 m L u k nm kids nms pl).trans ?_;simp only [T.d] at hT;simp only [hT,zc,zb,hf,cond_true,ye,hr];rfl
 exact zeg hm zre λ a b x s u L ha hs hr=>by
  obtain rfl:=zjw ha;obtain ⟨s',hs',hs⟩:=zd hs;cases hs;obtain ⟨t,ht,hs'⟩:=zd hs';obtain ⟨hf,hs'⟩:=ze hs';cases hs';obtain ⟨rfl,h1,h2⟩:=y5 ht;exact z85 hc h1 h2 hf hr
theorem ybg{m:Nat}(hm:knows cx (KT m).S (zh cx)){u:Bool}{L:List D}{t:T}{s:List UInt8}(hd:t.depth≤m+1)(ho:t.ok=true)(hi:zd8 t=true)(hr:Sp.room L (ze0 t s)=true) :
  zh cx 193 [.ptr 0 0,.d t.d,.d (.str s)] (psS u L)=some (.ret (.tup []),psS true (Sp.app L (ze0 t s))):=by
 obtain ⟨k,nm,kids,nms,pl⟩:=t;obtain ⟨h1,h2,h3,h4,h5⟩:=wu ho;have hkd:=vo hd;simp only [zd8,zl8,ph,Bool.or_eq_true] at hi;have hk:k=4∨k=5:=by rcases hi.2 with h | h <;> have:=pc h <;> omega
 obtain ⟨a,b,rfl,ha,hb⟩:=zcx hi.1 (by omega)
 have hT:∀ t∈[a,b],zg m t.d=some t:=λ t h=>zad hkd h5 h;have hlen:=room_le hr;simp only [ze0,yv [a,b] 0 0 a rfl,yv [a,b] 1 0 a rfl,yv [a,b] 0 1 b rfl] at hlen;refine zk (zyx hm) (N:=0) ?_;refine (yfd 0 m L u k nm [a,b] nms pl s).trans ?_;simp only [ze0,yv [a,b] 0 0 a rfl,yv [a,b] 1 0 a rfl,yv [a,b] 0 1 b rfl];have e0:decide ((0:Int)<((T.ds [a,b]).length:Int))=true:=by rw [zo]; rfl
 have e1:decide ((1:Int)<((T.ds [a,b]).length:Int))=true:=by rw [zo]; rfl
 have n0:[a,b][(0:Int).toNat]?=some a:=rfl;have n1:[a,b][(1:Int).toNat]?=some b:=rfl;rcases zlr hi.1 hk with rfl | ⟨x,rfl⟩
 ·have hl0:decide ((([]:List (List UInt8)).map D.str).length=(1:Int))=false:=rfl;simp only [List.length_nil,Nat.zero_ne_one,decide_false,cond_false,pe,zhf] at hlen ⊢;by_cases h9:a.k=9
  ·obtain ⟨k',nm',kids',nms',pl'⟩:=a;simp only [zl8] at h9;subst h9;obtain ⟨c,d,rfl,_,_⟩:=zcx ha (by omega)
   have e2:decide ((0:Int)<((T.ds [c,d]).length:Int))=true:=by rw [zo]; rfl
   have n2:[c,d][(0:Int).toNat]?=some c:=rfl;have ea:w7 [.mk 9 nm' [c,d] nms' pl',b]=decide (c.k=1):=by
    obtain ⟨k3,_,_,_,_⟩:=c;simp only [w7,decide_true,Bool.true_and]; rfl
   simp only [hl0,e0,e1,e2,zz,n0,n1,n2,↓zam,yb,xo,wz,vc,vb,va,zih,zh3,hT _ (pn ..),hT b (by simp),zc,zb,cond_true,cond_false,ye,ha,hb,decide_true,zfv,Bool.true_or]
   rw [ea] at hlen ⊢;generalize decide (c.k=1)=q at hlen ⊢;cases q
   ·simp only [cond_false,zw] at hlen ⊢;simp (disch:=((try simp only [x9,pe,List.length_cons,List.length_nil]); omega)) only [wm,cond_true]
    simp [xp,psS,adV]
   ·simp only [cond_true,zw] at hlen ⊢;simp (disch:=((try simp only [x9,pe,List.length_cons,List.length_nil]); omega)) only [wm,cond_true]
    simp [xp,psS,adV]
  ·have ea:w7 [a,b]=false:=by
    obtain ⟨k',nm',kids',nms',pl'⟩:=a;simp only [zl8] at h9;rcases kids' with _ | ⟨⟨_,_,_,_,_⟩,_⟩ <;> simp [w7,h9]
   simp only [hl0,e0,e1,zz,n0,n1,yb,xo,wz,vc,vb,va,wj,hT a (by simp),hT b (by simp),zc,zb,cond_true,cond_false,ye,ha,hb,decide_true]
   rw [ea] at hlen ⊢;rw [pb h9];simp only [decide_true,cond_true,cond_false,zw] at hlen ⊢;simp (disch:=((try simp only [x9,pe,List.length_cons,List.length_nil]); omega)) only [wm,cond_true]
   simp [xp,psS,adV]
 ·simp only [List.length_cons,List.length_nil,Nat.zero_add,decide_true,cond_true,pe] at hlen ⊢;have nx:[x][(0:Int).toNat]?=some x:=rfl;have ex:Sp.at [x] 0=x:=rfl;rw [ex] at hlen ⊢;simp only [e0,e1,zz,n0,n1,yb,xo,wz,vc,vb,va,wj,hT a (by simp),hT b (by simp),zc,zb,cond_true,ye,ha,hb,pf,zl4,zkz,xx,nx,List.length_cons,List.length_nil,Nat.lt_add_one,decide_true,zca]
  simp (disch:=((try simp only [x9,pe,List.length_cons,List.length_nil]); omega)) only [wm,cond_true]
  simp [xp,psS,adV]
theorem yfa(n m:Nat)(L:List D)(u:Bool)(k:Int)(nm:List UInt8)(kids:List T)(nms:List (List UInt8))(pl:Int):zl cx (KT m) n 196 [.ptr 0 0,.d (.agg [.int .i64 k,.str nm,.sl 5 (T.ds kids),.sl 1 (nms.map .str),.int .i64 pl])] (psS u L)=zb (Sp.fit L.length L) (zb (Sp.room L [91]) (LP cx (KT m) n 196 2 3 n [(0,V.ptr 0 0),(12,V.d (D.sl 5 (T.ds kids))),(13,V.d (D.int .i64 (↑(T.ds kids).length:Int))),(14,V.d (D.int .i64 (0:Int)))] [(0,Ob.val 187695107 (V.agg [V.ptr 0 0,V.sl 6291457 (Sp.app L [91]) 1,V.d (D.bool false)])),(1,Ob.tok (Sp.app L [91]).length)] (AK cx (KT m) n 196 2 3 (EK cx 196 2)))):=by cases u <;> kernel_rfl
theorem l94(n m r:Nat)(L:List D)(kids:List T)(i:Int):LP cx (KT m) n 196 2 3 (r+1) [(0,V.ptr 0 0),(12,V.d (D.sl 5 (T.ds kids))),(13,V.d (D.int .i64 (kids.length:Int))),(14,V.d (D.int .i64 i))] (psS true L) (AK cx (KT m) n 196 2 3 (EK cx 196 2))=bif decide (i<(↑kids.length:Int)) then zb (decide (0≤i)&&decide (i<(↑(T.ds kids).length:Int))) (za (T.ds kids) i.toNat λ y=>za y.cells 0 λ c=>za y.cells 1 λ c_1=>za y.cells 2 λ c_2=>za y.cells 3 λ c_3=>za y.cells 4 λ c_4=>bif decide ((0:Int)<i) then zb (Sp.fit L.length L) (zb (Sp.room L [44,32]) (match c_2 with
 | D.sl s l=>bif s.beq (cx.P.cellsOf 26)||l.isEmpty then zb (decide ((0:Int)<(↑l.length:Int))) (za l (0:Int).toNat λ y=>za y.cells 2 λ c_5=>match c_5 with
  | D.sl s l=>bif s.beq (cx.P.cellsOf 26)||l.isEmpty then bif decide ((↑l.length:Int)=(0:Int)) then zb (Sp.fit (Sp.app L [44,32]).length (Sp.app L [44,32])) (zb (Sp.room (Sp.app L [44,32]) [49]) (match c_2 with
   | D.sl s l=>bif s.beq (cx.P.cellsOf 26)||l.isEmpty then zb (decide ((0:Int)<(↑l.length:Int))) (za l (0:Int).toNat λ y=>za y.cells 2 λ c_6=>match c_6 with
    | D.sl s l=>bif s.beq (cx.P.cellsOf 26)||l.isEmpty then LP cx (KT m) n 196 2 10 n [(0,V.ptr 0 0),(5,V.ptr 7 0),(12,V.d (D.sl 5 (T.ds kids))),(13,V.d (D.int .i64 (↑kids.length:Int))),(14,V.d (D.int .i64 i)),(38,V.d (D.sl 5 l)),(39,V.d (D.int .i64 (↑l.length:Int))),(40,V.d (D.int .i64 (0:Int)))] [(0,Ob.val 187695107 (V.agg [V.ptr 0 0,V.sl 6291457 (Sp.app (Sp.app L [44,32]) [49]) 1,V.d (D.bool false)])),(1,Ob.tok (Sp.app (Sp.app L [44,32]) [49]).length),(7,Ob.val 5 (V.d (D.agg [c,c_1,c_2,c_3,c_4])))] (AL cx (KT m) n 196 2 3 10 (inK cx (KT m) n 196 2 3 r (AK cx (KT m) n 196 2 3 (EK cx 196 2)))) else none
    | x=>none) else none
   | x=>none)) else match c_2 with
   | D.sl s l=>bif s.beq (cx.P.cellsOf 26)||l.isEmpty then zb (decide ((0:Int)<(↑l.length:Int))) (za l (0:Int).toNat λ y=>za y.cells 2 λ c_6=>match c_6 with
    | D.sl s l=>bif s.beq (cx.P.cellsOf 26)||l.isEmpty then LP cx (KT m) n 196 2 10 n [(0,V.ptr 0 0),(5,V.ptr 7 0),(12,V.d (D.sl 5 (T.ds kids))),(13,V.d (D.int .i64 (↑kids.length:Int))),(14,V.d (D.int .i64 i)),(38,V.d (D.sl 5 l)),(39,V.d (D.int .i64 (↑l.length:Int))),(40,V.d (D.int .i64 (0:Int)))] [(0,Ob.val 187695107 (V.agg [V.ptr 0 0,V.sl 6291457 (Sp.app L [44,32]) 1,V.d (D.bool false)])),(1,Ob.tok (Sp.app L [44,32]).length),(7,Ob.val 5 (V.d (D.agg [c,c_1,c_2,c_3,c_4])))] (AL cx (KT m) n 196 2 3 10 (inK cx (KT m) n 196 2 3 r (AK cx (KT m) n 196 2 3 (EK cx 196 2)))) else none
    | x=>none) else none
   | x=>none else none
  | x=>none) else none
 | x=>none)) else match c_2 with
 | D.sl s l=>bif s.beq (cx.P.cellsOf 26)||l.isEmpty then zb (decide ((0:Int)<(↑l.length:Int))) (za l (0:Int).toNat λ y=>za y.cells 2 λ c_5=>match c_5 with
  | D.sl s l=>bif s.beq (cx.P.cellsOf 26)||l.isEmpty then bif decide ((↑l.length:Int)=(0:Int)) then zb (Sp.fit L.length L) (zb (Sp.room L [49]) (match c_2 with
   | D.sl s l=>bif s.beq (cx.P.cellsOf 26)||l.isEmpty then zb (decide ((0:Int)<(↑l.length:Int))) (za l (0:Int).toNat λ y=>za y.cells 2 λ c_6=>match c_6 with
    | D.sl s l=>bif s.beq (cx.P.cellsOf 26)||l.isEmpty then LP cx (KT m) n 196 2 10 n [(0,V.ptr 0 0),(5,V.ptr 7 0),(12,V.d (D.sl 5 (T.ds kids))),(13,V.d (D.int .i64 (↑kids.length:Int))),(14,V.d (D.int .i64 i)),(38,V.d (D.sl 5 l)),(39,V.d (D.int .i64 (↑l.length:Int))),(40,V.d (D.int .i64 (0:Int)))] [(0,Ob.val 187695107 (V.agg [V.ptr 0 0,V.sl 6291457 (Sp.app L [49]) 1,V.d (D.bool false)])),(1,Ob.tok (Sp.app L [49]).length),(7,Ob.val 5 (V.d (D.agg [c,c_1,c_2,c_3,c_4])))] (AL cx (KT m) n 196 2 3 10 (inK cx (KT m) n 196 2 3 r (AK cx (KT m) n 196 2 3 (EK cx 196 2)))) else none
    | x=>none) else none
   | x=>none)) else match c_2 with
   | D.sl s l=>bif s.beq (cx.P.cellsOf 26)||l.isEmpty then zb (decide ((0:Int)<(↑l.length:Int))) (za l (0:Int).toNat λ y=>za y.cells 2 λ c_6=>match c_6 with
    | D.sl s l=>bif s.beq (cx.P.cellsOf 26)||l.isEmpty then LP cx (KT m) n 196 2 10 n [(0,V.ptr 0 0),(5,V.ptr 7 0),(12,V.d (D.sl 5 (T.ds kids))),(13,V.d (D.int .i64 (↑kids.length:Int))),(14,V.d (D.int .i64 i)),(38,V.d (D.sl 5 l)),(39,V.d (D.int .i64 (↑l.length:Int))),(40,V.d (D.int .i64 (0:Int)))] [(0,Ob.val 187695107 (V.agg [V.ptr 0 0,V.sl 6291457 L 1,V.d (D.bool false)])),(1,Ob.tok L.length),(7,Ob.val 5 (V.d (D.agg [c,c_1,c_2,c_3,c_4])))] (AL cx (KT m) n 196 2 3 10 (inK cx (KT m) n 196 2 3 r (AK cx (KT m) n 196 2 3 (EK cx 196 2)))) else none
    | x=>none) else none
   | x=>none else none
  | x=>none) else none
 | x=>none) else zb (Sp.fit L.length L) (zb (Sp.room L [93]) (some (Out.ret (V.tup []),[(0,Ob.val 187695107 (V.agg [V.ptr 0 0,V.sl 6291457 (Sp.app L [93]) 1,V.d (D.bool false)])),(1,Ob.tok (Sp.app L [93]).length)]))):=by kernel_rfl
theorem i94(n m r q:Nat)(L:List D)(kids qs kids':List T)(i j k' pl':Int)(nm':List UInt8)(nms':List (List UInt8)):LP cx (KT m) n 196 2 10 (q+1) [(0,V.ptr 0 0),(5,V.ptr 7 0),(12,V.d (D.sl 5 (T.ds kids))),(13,V.d (D.int .i64 (kids.length:Int))),(14,V.d (D.int .i64 i)),(38,V.d (D.sl 5 (T.ds qs))),(39,V.d (D.int .i64 (qs.length:Int))),(40,V.d (D.int .i64 j))] [(0,Ob.val 187695107 (V.agg [V.ptr 0 0,V.sl 6291457 L 1,V.d (D.bool false)])),(1,Ob.tok L.length),(7,Ob.val 5 (V.d (D.agg [D.int .i64 k',D.str nm',D.sl 5 (T.ds kids'),D.sl 1 (nms'.map .str),D.int .i64 pl'])))] (AL cx (KT m) n 196 2 3 10 (inK cx (KT m) n 196 2 3 r (AK cx (KT m) n 196 2 3 (EK cx 196 2))))=bif decide (j<(↑qs.length:Int)) then zb (decide (0≤j)&&decide (j<(↑(T.ds qs).length:Int))) (za (T.ds qs) j.toNat λ y=>za y.cells 0 λ c=>za y.cells 1 λ c=>za y.cells 2 λ c_1=>za y.cells 3 λ c_2=>za y.cells 4 λ c_3=>match c with
 | D.str s=>match c_2 with
  | D.sl s_1 l=>bif s_1.beq (cx.P.cellsOf 9)||l.isEmpty then zb (decide ((0:Int)<(↑l.length:Int))) (za l (0:Int).toNat λ y=>za y.cells 0 λ c=>match c with
   | D.str s_2=>zb (Sp.fit L.length L) (zb (Sp.room L (40::(s++([61]++(s_2++([41]++[])))))) (LP cx (KT m) n 196 2 10 q [(0,V.ptr 0 0),(5,V.ptr 7 0),(12,V.d (D.sl 5 (T.ds kids))),(13,V.d (D.int .i64 (↑kids.length:Int))),(14,V.d (D.int .i64 i)),(38,V.d (D.sl 5 (T.ds qs))),(39,V.d (D.int .i64 (↑qs.length:Int))),(40,V.d (D.int .i64 (IntKind.i64.wrap (j+(1:Int)))))] [(0,Ob.val 187695107 (V.agg [V.ptr 0 0,V.sl 6291457 (Sp.app L (40::(s++([61]++(s_2++([41]++[])))))) 1,V.d (D.bool false)])),(1,Ob.tok (Sp.app L (40::(s++([61]++(s_2++([41]++[])))))).length),(7,Ob.val 5 (V.d (D.agg [D.int .i64 k',D.str nm',D.sl 5 (T.ds kids'),D.sl 1 (List.map D.str nms'),D.int .i64 pl'])))] (AL cx (KT m) n 196 2 3 10 (inK cx (KT m) n 196 2 3 r (AK cx (KT m) n 196 2 3 (EK cx 196 2))))))
   | x=>none) else none
  | x=>none
 | x=>none) else bif decide ((↑(T.ds kids').length:Int)=(2:Int)) then zb (Sp.fit L.length L) (zb (Sp.room L [32,45,62,32]) (zb (decide ((1:Int)<(↑(T.ds kids').length:Int))) (za (T.ds kids') (1:Int).toNat λ y=>za y.cells 0 λ c=>za y.cells 1 λ c_1=>za y.cells 2 λ c_2=>za y.cells 3 λ c_3=>za y.cells 4 λ c_4=>zc (zc (zg m (D.agg [c,c_1,c_2,c_3,c_4])) λ t=>zb (Sp.right t) (some (Sp.text t (0:Int)))) λ s=>zb (Sp.fit (Sp.app L [32,45,62,32]).length (Sp.app L [32,45,62,32])) (zb (Sp.room (Sp.app L [32,45,62,32]) s) (LP cx (KT m) n 196 2 3 r [(0,V.ptr 0 0),(12,V.d (D.sl 5 (T.ds kids))),(13,V.d (D.int .i64 (↑kids.length:Int))),(14,V.d (D.int .i64 (IntKind.i64.wrap (i+(1:Int)))))] [(0,Ob.val 187695107 (V.agg [V.ptr 0 0,V.sl 6291457 (Sp.app (Sp.app L [32,45,62,32]) s) 1,V.d (D.bool false)])),(1,Ob.tok (Sp.app (Sp.app L [32,45,62,32]) s).length)] (AK cx (KT m) n 196 2 3 (EK cx 196 2))))))) else LP cx (KT m) n 196 2 3 r [(0,V.ptr 0 0),(12,V.d (D.sl 5 (T.ds kids))),(13,V.d (D.int .i64 (↑kids.length:Int))),(14,V.d (D.int .i64 (IntKind.i64.wrap (i+(1:Int)))))] [(0,Ob.val 187695107 (V.agg [V.ptr 0 0,V.sl 6291457 L 1,V.d (D.bool false)])),(1,Ob.tok L.length)] (AK cx (KT m) n 196 2 3 (EK cx 196 2)):=by kernel_rfl
abbrev O94 (m n r:Nat) (L:List D) (kids:List T) (i:Int):Option R1:=
 LP cx (KT m) n 196 2 3 r [(0,V.ptr 0 0),(12,V.d (D.sl 5 (T.ds kids))),(13,V.d (D.int .i64 (kids.length:Int))),(14,V.d (D.int .i64 i))] [(0,Ob.val 187695107 (V.agg [V.ptr 0 0,V.sl 6291457 L 1,V.d (D.bool false)])),(1,Ob.tok L.length)] (AK cx (KT m) n 196 2 3 (EK cx 196 2))
abbrev I94 (m n r q:Nat) (L:List D) (kids qs kids':List T) (i j k' pl':Int) (nm':List UInt8) (nms':List (List UInt8)):Option R1:=
 LP cx (KT m) n 196 2 10 q [(0,V.ptr 0 0),(5,V.ptr 7 0),(12,V.d (D.sl 5 (T.ds kids))),(13,V.d (D.int .i64 (kids.length:Int))),(14,V.d (D.int .i64 i)),(38,V.d (D.sl 5 (T.ds qs))),(39,V.d (D.int .i64 (qs.length:Int))),(40,V.d (D.int .i64 j))] [(0,Ob.val 187695107 (V.agg [V.ptr 0 0,V.sl 6291457 L 1,V.d (D.bool false)])),(1,Ob.tok L.length),(7,Ob.val 5 (V.d (D.agg [D.int .i64 k',D.str nm',D.sl 5 (T.ds kids'),D.sl 1 (nms'.map .str),D.int .i64 pl'])))] (AL cx (KT m) n 196 2 3 10 (inK cx (KT m) n 196 2 3 r (AK cx (KT m) n 196 2 3 (EK cx 196 2))))
def qb(kids:List T):List UInt8:=bif decide (kids.length=2) then [32,45,62,32]++Sp.at (Sp.texts kids 0) 1 else []
theorem zzz{t:T}(h:qq t=true):∃ nm x pl,t=.mk 13 nm [] [x] pl∧Sp.named nm=true∧Sp.bit x=true:=by
 obtain ⟨k,nm,kids,nms,pl⟩:=t;rcases kids with _ | ⟨a,kids⟩ <;> rcases nms with _ | ⟨x,_ | ⟨y,nms⟩⟩ <;> simp [qq] at h
 obtain ⟨⟨rfl,h1⟩,h2⟩:=h;exact ⟨nm,x,pl,rfl,h1,h2⟩
theorem zzs{m n r:Nat}{kids qs kids':List T}{i k' pl':Int}{nm':List UInt8}{nms':List (List UInt8)}(hq:∀ t∈qs,qq t=true)(hl:qs.length<4294967296)
  (hk:kids'.length=2→∃ t,kids'[1]?=some t∧zg m t.d=some t∧Sp.right t=true) :
  ∀ (rest:List T) (j q:Nat) (L:List D),qs.drop j=rest→j≤qs.length→rest.length<q→Sp.room L ((rest.map qh).flatten++qb kids')=true →
   I94 m n r q L kids qs kids' i j k' pl' nm' nms'=O94 m n r (Sp.app L ((rest.map qh).flatten++qb kids')) kids (IntKind.i64.wrap (i+1))
 | [],j,q,L,hd,hj,hk',hr=>by
  obtain ⟨q,rfl⟩:∃ i,q=i+1:=⟨q - 1,by omega⟩
  have:qs.length≤j:=by simpa using hd
  obtain rfl:j=qs.length:=by omega
  simp only [List.map_nil,List.flatten_nil,List.nil_append] at hr ⊢;have hlen:=room_le hr;simp only [I94,O94];rw [i94,yj,cond_false,zo,ztl];by_cases h2:kids'.length=2
  ·obtain ⟨t,ht,hT,hrt⟩:=hk h2;have n1:kids'[(1:Int).toNat]?=some t:=ht;have e:qb kids'=[32,45,62,32]++Sp.text t 0:=by
    unfold qb;rw [pa h2,cond_true,yv kids' 0 1 t ht]
   rw [e] at hlen ⊢;have e1:decide ((1:Int)<(kids'.length:Int))=true:=pa (by omega)
   simp only [pe,List.length_cons,List.length_nil] at hlen;rw [pa h2];simp only [cond_true,e1,zz,n1,yb,xo,wz,vc,vb,va,wj,hT,zc,zb,hrt,ye];simp (disch:=((try simp only [x9,pe,List.length_cons,List.length_nil]); omega)) only [wm,cond_true]
   simp [xp]
  ·have e:qb kids'=[]:=by unfold qb; rw [pb h2]; rfl
   rw [pb h2,cond_false,e,zns]
 | t::rest,j,q,L,hd,hj,hk',hr=>by
  obtain ⟨q,rfl⟩:∃ i,q=i+1:=⟨q - 1,by omega⟩
  obtain ⟨h1,h2,h3⟩:=zbu hd;obtain ⟨nm,x,pl,rfl,_,_⟩:=zzz (hq t (po h2));have et:qh (.mk 13 nm [] [x] pl)=40::(nm++([61]++(x++([41]++[])))):=by simp [qh,T.nm,T.nms,Sp.at]
  simp only [List.map_cons,List.flatten_cons,List.append_assoc] at hr ⊢;obtain ⟨hr1,hr2⟩:=zfw hr;have ih:=zzs (n:=n) (r:=r) (kids:=kids) (i:=i) (k':=k') (pl':=pl') (nm':=nm') (nms':=nms') hq hl hk rest (j+1) q (Sp.app L (qh (.mk 13 nm [] [x] pl))) h3 h1 (by simp at hk'; omega) hr2
  rw [xp] at ih;rw [←ih,et];rw [et] at hr1;simp only [I94];have nx:[x][(0:Int).toNat]?=some x:=rfl;have ex:decide ((0:Int)<(([x].map D.str).length:Int))=true:=rfl;rw [i94,z6 h1,zo,z6 h1,yy,zz,pm,h2,xq h1 hl];simp only [cond_true,zb,zc,Bool.and_self,zam,xo,wz,vc,vb,va,zw0,Bool.true_or,ex,xx,nx,zca,ye,hr1]
theorem zv7{t:T}(h:Sp.elem t=true):∃ qs plf r pl,t=.mk 11 [] (.mk 12 [] qs [] plf::r) [] pl∧(∀ q∈qs,qq q=true)∧(r=[]∨∃ u,r=[u]∧Sp.right u=true):=by
 obtain ⟨k,nm,kids,nms,pl⟩:=t;rcases kids with _ | ⟨f,_ | ⟨u,_ | ⟨c,l⟩⟩⟩ <;> simp [Sp.elem] at h
 ·obtain ⟨k',nm',kids',nms',pl'⟩:=f;simp [qp] at h;obtain ⟨⟨⟨rfl,rfl⟩,rfl⟩,⟨⟨rfl,rfl⟩,rfl⟩,h⟩:=h;exact ⟨kids',pl',[],pl,rfl,h,.inl rfl⟩
 ·obtain ⟨k',nm',kids',nms',pl'⟩:=f;simp [qp] at h;obtain ⟨⟨⟨⟨rfl,rfl⟩,rfl⟩,⟨⟨rfl,rfl⟩,rfl⟩,h⟩,hu⟩:=h;exact ⟨kids',pl',[u],pl,rfl,h,.inr ⟨u,rfl,hu⟩⟩
theorem zxx(k:Int)(nm:List UInt8)(f:T)(r:List T)(nms:List (List UInt8))(pl:Int):qi (.mk k nm (f::r) nms pl)=zey f++qb (f::r):=rfl
theorem zy8{m n:Nat}{kids:List T}(hn:4294967296<n)(hl:kids.length<4294967296)(ho:T.oks kids=true)(hd0:T.depths kids≤m)(he:∀ t∈kids,Sp.elem t=true) :
  ∀ (rest:List T) (j r:Nat) (L:List D),kids.drop j=rest→j≤kids.length→rest.length<r→Sp.room L (zaw (decide (j=0)) rest++[93])=true →
   O94 m n r L kids j=some (.ret (.tup []),psS true (Sp.app L (zaw (decide (j=0)) rest++[93])))
 | [],j,r,L,hd,hj,hk',hr=>by
  obtain ⟨r,rfl⟩:∃ i,r=i+1:=⟨r - 1,by omega⟩
  have:kids.length≤j:=by simpa using hd
  obtain rfl:j=kids.length:=by omega
  have e:zaw (decide (kids.length=0)) []++[93]=[93]:=by cases decide (kids.length=0) <;> rfl
  rw [e] at hr ⊢;simp only [O94];refine (l94 n m r L kids kids.length).trans ?_;rw [yj,cond_false];simp only [ye,zb,cond_true,hr];rfl
 | t::rest,j,r,L,hd,hj,hk',hr=>by
  obtain ⟨r,rfl⟩:∃ i,r=i+1:=⟨r - 1,by omega⟩
  obtain ⟨h1,h2,h3⟩:=zbu hd;have htm:=po h2;obtain ⟨qs,plf,r',pl,rfl,hq,hr'⟩:=zv7 (he t htm);obtain ⟨_,o2,_,_,o5⟩:=wu (wn ho htm);have hdx:T.depths (.mk 12 [] qs [] plf::r')≤m:=by
   have:=zf8 htm;simp only [T.depth] at this; omega
  have hql:qs.length<4294967296:=by
   obtain ⟨_,q2,_,_,_⟩:=wu (wn o5 (pn ..));exact yh q2
  have hkt:(T.mk 12 [] qs [] plf::r').length=2→∃ t,(T.mk 12 [] qs [] plf::r')[1]?=some t∧zg m t.d=some t∧Sp.right t=true:=by
   intro h;rcases hr' with rfl | ⟨u,rfl,hu⟩
   ·simp at h
   ·exact ⟨u,rfl,zad hdx o5 (by simp),hu⟩
  have step:∀ s:List UInt8,zaw (decide (j=0)) (.mk 11 [] (.mk 12 [] qs [] plf::r') [] pl::rest)++[93]=(bif decide (j=0) then [] else [44,32])++(bif qs.isEmpty then [49] else [])++((qs.map qh).flatten++qb (.mk 12 [] qs [] plf::r'))++(zaw (decide (j+1=0)) rest++[93]):=by
   intro _;rw [zaw,zxx,zey,zac,pb (p:=j+1=0) (by omega)]
   simp only [List.append_assoc]
  rw [step []] at hr ⊢;generalize hP:(bif decide (j=0) then [] else [44,32]:List UInt8)=P at hr ⊢;generalize hQ:(bif qs.isEmpty then [49] else []:List UInt8)=Q at hr ⊢;obtain ⟨r1,r2⟩:=zfw hr;obtain ⟨r3,r4⟩:=zfw r1;obtain ⟨r5,r6⟩:=zfw r3;have h_in:=zzs (n:=n) (r:=r) (kids:=kids) (i:=(j:Int)) (k':=11) (pl':=pl) (nm':=[]) (nms':=[]) hq hql hkt qs 0 n (Sp.app L (P++Q)) rfl (Nat.zero_le _) (by omega) r4
  have h_out:=zy8 hn hl ho hd0 he rest (j+1) r (Sp.app L (P++Q++((qs.map qh).flatten++qb (.mk 12 [] qs [] plf::r')))) h3 h1 (by simp at hk'; omega) r2
  rw [xp,xq h1 hl] at h_in;have h:=h_in.trans h_out;rw [xp] at h;rw [←h];have f0:(T.mk 12 [] qs [] plf::r')[(0:Int).toNat]?=some (T.mk 12 [] qs [] plf):=rfl;have g0:decide ((0:Int)<((T.ds (T.mk 12 [] qs [] plf::r')).length:Int))=true:=pa (by rw [zo]; simp)
  simp only [O94,I94];refine (l94 n m r L kids j).trans ?_;rw [z6 h1,zo,z6 h1,yy,zz,pm,h2];simp only [cond_true,zb,zc,Bool.and_self,zam,xo,wz,vc,vb,va,zfv,Bool.true_or,zz,f0,g0,ye];rw [zo,zot];rcases j with _ | j
  ·simp only [decide_true,cond_true] at hP;subst hP;rcases qs with _ | ⟨q,qs⟩
   ·simp only [List.isEmpty_nil,cond_true] at hQ;subst hQ;simp only [List.nil_append] at r6 ⊢;rw [zns] at r6;simp [r6]
   ·simp only [List.isEmpty_cons,cond_false] at hQ;subst hQ;simp [zns]
  ·simp only [Nat.succ_ne_zero,decide_false,cond_false] at hP;subst hP;have hj0:decide ((0:Int)<((j+1:Nat):Int))=true:=pa (by omega)
   rw [hj0];rcases qs with _ | ⟨q,qs⟩
   ·simp only [List.isEmpty_nil,cond_true] at hQ;subst hQ;simp [r5,r6,xp]
   ·simp only [List.isEmpty_cons,cond_false] at hQ;subst hQ;simp [r5]
theorem zrb{nm:List UInt8}{kids:List T}{nms:List (List UInt8)}{pl:Int}(h:Sp.right (.mk 10 nm kids nms pl)=true):∀ t∈kids,Sp.elem t=true:=by
 rcases kids with _ | ⟨a,_ | ⟨b,_ | ⟨c,l⟩⟩⟩ <;> simp [Sp.right,zf6] at h ⊢ <;> simp_all
theorem ybe{m:Nat}(hm:knows cx (KT m).S (zh cx)){u:Bool}{L:List D}{t:T}(hd:t.depth≤m+1)(ho:t.ok=true)(hi:zbx t=true)(hr:Sp.room L (zdc t)=true) :
  zh cx 196 [.ptr 0 0,.d t.d] (psS u L)=some (.ret (.tup []),psS true (Sp.app L (zdc t))):=by
 obtain ⟨k,nm,kids,nms,pl⟩:=t;obtain ⟨h1,h2,h3,h4,h5⟩:=wu ho;have hkd:=vo hd;simp only [zbx,ph] at hi;have hk:k=10:=pc hi.2;subst hk;refine zk hm (N:=4294967297) ?_;refine (yfa _ m L u 10 nm kids nms pl).trans ?_;simp only [zdc,List.append_assoc] at hr ⊢;obtain ⟨r1,r2⟩:=zfw hr;have h:=zy8 (m:=m) (n:=4294967297) (kids:=kids) (by omega) (yh h2) h5 hkd (zrb hi.1) kids 0 4294967297 (Sp.app L [91]) rfl (Nat.zero_le _) (by have:=yh h2; omega) r2
 rw [xp] at h;simp only [ye,zb,cond_true,r1,zo];exact h
theorem zy5{k:Int}{nm:List UInt8}{kids:List T}{nms:List (List UInt8)}{pl:Int}(h:Sp.right (.mk k nm kids nms pl)=true) :
  k=1∨((k=2∨k=3)∧∃ a,kids=[a]∧Sp.right a=true)∨(k=4∨k=5)∨(k=6∧∃ a b,kids=[a,b]∧Sp.right a=true∧Sp.right b=true)∨(k=7∧∃ a b,kids=[a,b]∧Sp.right a=true∧Sp.form b=true)∨(k=8∨k=9)∨k=10:=by
 rcases kids with _ | ⟨a,_ | ⟨b,_ | ⟨c,l⟩⟩⟩
 ·simp [Sp.right] at h;rcases h.2 with h | h <;> simp [h.1]
 ·simp [Sp.right] at h;rcases h.2 with h | h
  ·refine .inr (.inl ⟨h.1.1.1,a,rfl,h.2⟩)
  ·simp [h.1.1]
 ·simp [Sp.right] at h;rcases h.2 with ((h | h) | h) | h
  ·rcases h.1.1.1.1 with rfl | rfl <;> simp
  ·rcases h.1.1.1 with (hk | hk) | hk
   ·exact .inr (.inr (.inr (.inl ⟨hk,a,b,rfl,h.1.2,h.2⟩)))
   ·simp [hk]
   ·simp [hk]
  ·exact .inr (.inr (.inr (.inr (.inl ⟨h.1.1.1,a,b,rfl,h.1.2,h.2⟩))))
  ·simp [h.1.1.1]
 ·simp [Sp.right] at h;simp [h]
theorem zte{nms:List (List UInt8)}{sep:List UInt8}(h3:yd nms=true)(h4:nms.all yd=true)(h:(zu nms sep).length≤140737488355328):zcq (D.sl 1 (nms.map D.str),sep)=some (nms,sep):=by
 unfold zcq;simp only [zu4 h3 h4];rw [pa (by unfold zu at h; omega)]
 rfl
theorem z14{m:Nat}(hm:knows cx (KT m).S (zh cx)):knows cx (K71 m).S (zh cx):=by
 have h92:=zaq (f:=194) (dec:=zm9) (sp:=z7e) hm λ a q s u L ha hs hr=>by
  obtain ⟨x,n⟩:=q;obtain rfl:=zg4 ha;obtain ⟨t,ht,hs⟩:=zd hs;obtain ⟨hf,hs⟩:=ze hs;cases hs;obtain ⟨rfl,h2⟩:=xz ht;exact z7p t.depth u L t n (Nat.le_refl _) h2 hf hr
 have h94:=zaq (f:=196) (dec:=zsl) (sp:=ya3 (m+1)) h92 λ a x s u L ha hs hr=>by
  obtain rfl:=zpi ha;obtain ⟨t,ht,hs⟩:=zd hs;obtain ⟨hf,hs⟩:=ze hs;cases hs;obtain ⟨rfl,h1,h2⟩:=y5 ht;exact ybe hm h1 h2 hf hr
 have h93:=zaq (f:=195) (dec:=zwa) (sp:=ya4 (m+1)) h94 λ a q s u L ha hs hr=>by
  obtain ⟨x,g⟩:=q;obtain rfl:=zph ha;obtain ⟨t,ht,hs⟩:=zd hs;obtain ⟨hf,hs⟩:=ze hs;cases hs;obtain ⟨rfl,h1,h2⟩:=y5 ht;exact ybf hm h1 h2 hf hr
 exact zaq h93 λ a q s u L ha hs hr=>by
  obtain ⟨x,g⟩:=q;obtain rfl:=zph ha;obtain ⟨t,ht,hs⟩:=zd hs;obtain ⟨hf,hs⟩:=ze hs;cases hs;obtain ⟨rfl,h1,h2⟩:=y5 ht;exact ybg hm h1 h2 hf hr
theorem ybp{m:Nat}(hm:knows cx (KT m).S (zh cx)){u:Bool}{L:List D}{t:T}(hd:t.depth≤m+1)(ho:t.ok=true)(hi:Sp.right t=true)(hr:Sp.room L (Sp.bare t)=true) :
  zh cx 163 [.ptr 0 0,.d t.d] (psS u L)=some (.ret (.tup []),psS true (Sp.app L (Sp.bare t))):=by
 have hTt:=zdu hd ho;obtain ⟨k,nm,kids,nms,pl⟩:=t;obtain ⟨h1,h2,h3,h4,h5⟩:=wu ho;have hkd:=vo hd;have hT:∀ t∈kids,zg m t.d=some t:=λ t h=>zad hkd h5 h;simp only [T.d] at hTt;refine zk (z14 hm) (N:=0) ?_;rcases zy5 hi with rfl | ⟨hk,a,rfl,ha⟩ | hk | ⟨rfl,a,b,rfl,ha,hb⟩ | ⟨rfl,a,b,rfl,ha,hb⟩ | hk | rfl
 ·refine (z95 0 m L u nm kids nms pl).trans ?_;have e:Sp.bare (.mk 1 nm kids nms pl)=nm:=by simp [Sp.bare]
  rw [e] at hr ⊢;simp only [ye,zb,cond_true,List.append_nil,hr];rfl
 ·have e0:decide ((0:Int)<((T.ds [a]).length:Int))=true:=by rw [zo]; rfl
  have n0:[a][(0:Int).toNat]?=some a:=rfl;rcases hk with rfl | rfl
  ·have e:Sp.bare (.mk 2 nm [a] nms pl)=[92]++zu nms [32]++[46,32]++Sp.text a 0:=by simp [Sp.bare,←yv [a] 0 0 a rfl]
   rw [e] at hr ⊢;have hlen:=room_le hr;simp only [pe,List.length_cons,List.length_nil] at hlen;refine (z94 0 m L u nm [a] nms pl).trans ?_;simp only [zte h3 h4 (sep:=[32]) (by omega),e0,zz,n0,yb,xo,wz,vc,vb,va,wj,hT a (by simp),zc,zb,cond_true,ye,ha]
   simp (disch:=((try simp only [x9,pe,List.length_cons,List.length_nil]); omega)) only [wm,cond_true]
   simp [xp,psS,adV]
  ·have e:Sp.bare (.mk 3 nm [a] nms pl)=[60]++zu nms [32]++[62,32]++Sp.text a 0:=by simp [Sp.bare,←yv [a] 0 0 a rfl]
   rw [e] at hr ⊢;have hlen:=room_le hr;simp only [pe,List.length_cons,List.length_nil] at hlen;refine (z93 0 m L u nm [a] nms pl).trans ?_;simp only [zte h3 h4 (sep:=[32]) (by omega),e0,zz,n0,yb,xo,wz,vc,vb,va,wj,hT a (by simp),zc,zb,cond_true,ye,ha]
   simp (disch:=((try simp only [x9,pe,List.length_cons,List.length_nil]); omega)) only [wm,cond_true]
   simp [xp,psS,adV]
 ·rcases hk with rfl | rfl
  ·have hB:zd8 (.mk 4 nm kids nms pl)=true:=by unfold zd8; rw [hi]; rfl
   have e:Sp.bare (.mk 4 nm kids nms pl)=ze0 (.mk 4 nm kids nms pl) [32,45,62,32]:=by simp [Sp.bare,ze0]
   rw [e] at hr ⊢;refine (z92 0 m L u nm kids nms pl).trans ?_;simp only [hTt,hB,zc,zb,cond_true,ye,hr];rfl
  ·have hB:zd8 (.mk 5 nm kids nms pl)=true:=by unfold zd8; rw [hi]; rfl
   have e:Sp.bare (.mk 5 nm kids nms pl)=ze0 (.mk 5 nm kids nms pl) [32,42,32]:=by simp [Sp.bare,ze0]
   rw [e] at hr ⊢;refine (z91 0 m L u nm kids nms pl).trans ?_;simp only [hTt,hB,zc,zb,cond_true,ye,hr];rfl
 ·have e0:decide ((0:Int)<((T.ds [a,b]).length:Int))=true:=by rw [zo]; rfl
  have e1:decide ((1:Int)<((T.ds [a,b]).length:Int))=true:=by rw [zo]; rfl
  have n0:[a,b][(0:Int).toNat]?=some a:=rfl;have n1:[a,b][(1:Int).toNat]?=some b:=rfl;have e:Sp.bare (.mk 6 nm [a,b] nms pl)=Sp.text a 1++[32]++Sp.text b 2:=by simp [Sp.bare,←yv [a,b] 1 0 a rfl,←yv [a,b] 2 1 b rfl]
  rw [e] at hr ⊢;have hlen:=room_le hr;simp only [pe,List.length_cons,List.length_nil] at hlen;refine (z90 0 m L u nm [a,b] nms pl).trans ?_;simp only [e0,e1,zz,n0,n1,yb,xo,wz,vc,vb,va,wj,hT a (by simp),hT b (by simp),zc,zb,cond_true,ye,ha,hb]
  simp (disch:=((try simp only [x9,pe,List.length_cons,List.length_nil]); omega)) only [wm,cond_true]
  simp [xp,psS,adV]
 ·have e0:decide ((0:Int)<((T.ds [a,b]).length:Int))=true:=by rw [zo]; rfl
  have e1:decide ((1:Int)<((T.ds [a,b]).length:Int))=true:=by rw [zo]; rfl
  have n0:[a,b][(0:Int).toNat]?=some a:=rfl;have n1:[a,b][(1:Int).toNat]?=some b:=rfl;have e:Sp.bare (.mk 7 nm [a,b] nms pl)=Sp.text a 1++[32,64,32]++wx b 2:=by simp [Sp.bare,←yv [a,b] 1 0 a rfl]
  rw [e] at hr ⊢;have hlen:=room_le hr;simp only [pe,List.length_cons,List.length_nil] at hlen;refine (z9z 0 m L u nm [a,b] nms pl).trans ?_;simp only [e0,e1,zz,n0,n1,yb,xo,wz,vc,vb,va,wj,hT a (by simp),zdf h5 (t:=b) (by simp),zc,zb,cond_true,ye,ha,hb]
  simp (disch:=((try simp only [x9,pe,List.length_cons,List.length_nil]); omega)) only [wm,cond_true]
  simp [xp,psS,adV]
 ·rcases hk with rfl | rfl
  ·have hB:zd7 (.mk 8 nm kids nms pl)=true:=by unfold zd7; rw [hi]; rfl
   have e:Sp.bare (.mk 8 nm kids nms pl)=zew (.mk 8 nm kids nms pl) [44,32]:=by simp [Sp.bare,zew]
   rw [e] at hr ⊢;refine (z9y 0 m L u nm kids nms pl).trans ?_;simp only [hTt,hB,zc,zb,cond_true,ye,hr];rfl
  ·have hB:zd7 (.mk 9 nm kids nms pl)=true:=by unfold zd7; rw [hi]; rfl
   have e:Sp.bare (.mk 9 nm kids nms pl)=zew (.mk 9 nm kids nms pl) [32,58,32]:=by simp [Sp.bare,zew]
   rw [e] at hr ⊢;refine (z9x 0 m L u nm kids nms pl).trans ?_;simp only [hTt,hB,zc,zb,cond_true,ye,hr];rfl
 ·have hB:zbx (.mk 10 nm kids nms pl)=true:=by unfold zbx; rw [hi]; rfl
  have e:Sp.bare (.mk 10 nm kids nms pl)=zdc (.mk 10 nm kids nms pl):=by simp [Sp.bare,zdc]
  rw [e] at hr ⊢;refine (z6q 0 m L u nm kids nms pl).trans ?_;simp only [hTt,hB,zc,zb,cond_true,ye,hr];rfl
theorem z86{m:Nat}(hc:knows cx (clK 162 znc zmv zs8 (λ _ x=>z0f m x) K91).S (zh cx)){u b:Bool}{L:List D}{t:T}(hd:t.depth≤m)(ho:t.ok=true)(hi:Sp.right t=true)(hr:Sp.room L (zw b (Sp.bare t))=true) :
  zh cx 160 [.ptr 0 0,.d (.bool b),.func 162 [.ptr 2 0,.ptr 3 0]] (psB u L t.d)=some (.ret (.tup []),psB true (Sp.app L (zw b (Sp.bare t))) t.d):=by
 have hT:=zdu hd ho;have hlen:=room_le hr;rw [zhf] at hlen;refine zk hc (N:=0) ?_;obtain ⟨k,nm,kids,nms,pl⟩:=t;refine (yc1 0 m L u k nm kids nms pl b).trans ?_;simp only [T.d] at hT;cases b
 ·simp only [cond_false] at hlen;simp only [hT,zc,zb,hi,cond_true,cond_false,ye];simp (disch:=((try simp only [x9,pe,List.length_cons,List.length_nil]); omega)) only [wm,cond_true]
  simp [xp,psB,psS,adV,T.d,zw]
 ·simp only [cond_true] at hlen;simp only [hT,zc,zb,hi,cond_true,cond_false,ye];simp (disch:=((try simp only [x9,pe,List.length_cons,List.length_nil]); omega)) only [wm,cond_true]
  simp [xp,psB,psS,adV,T.d,zw]
theorem z15{m:Nat}(hm:knows cx (KT m).S (zh cx)):knows cx (K70 (m+1)).S (zh cx):=by
 have h71:knows cx (prK 163 zsl (z0f (m+1)) K91).S (zh cx):=zaq zcb λ a x s u L ha hs hr=>by
  obtain rfl:=zpi ha;obtain ⟨t,ht,hs⟩:=zd hs;obtain ⟨hf,hs⟩:=ze hs;cases hs;obtain ⟨rfl,h1,h2⟩:=y5 ht;exact ybp hm h1 h2 hf hr
 have hc:knows cx (clK 162 znc zmv zs8 (λ _ x=>z0f (m+1) x) K91).S (zh cx):=zeg zcb zn7 λ a b x s u L ha hs hr=>by
  obtain rfl:=zpl ha;obtain ⟨t,ht,hs⟩:=zd hs;obtain ⟨hf,hs⟩:=ze hs;cases hs;obtain ⟨rfl,h1,h2⟩:=y5 ht;have hT:=zdu h1 h2;refine zk h71 (N:=0) ?_;obtain ⟨k,nm,kids,nms,pl⟩:=t;refine (yff 0 (m+1) L u k nm kids nms pl).trans ?_;simp only [T.d] at hT;simp only [hT,zc,zb,hf,cond_true,ye,hr];rfl
 exact zeg zcb zre λ a b x s u L ha hs hr=>by
  obtain rfl:=zjw ha;obtain ⟨s',hs',hs⟩:=zd hs;cases hs;obtain ⟨t,ht,hs'⟩:=zd hs';obtain ⟨hf,hs'⟩:=ze hs';cases hs';obtain ⟨rfl,h1,h2⟩:=y5 ht;exact z86 hc h1 h2 hf hr
theorem z7w:∀ (m:Nat) (u:Bool) (L:List D) (t:T) (a:Int),t.depth≤m→t.ok=true→Sp.right t=true→Sp.room L (Sp.text t a)=true →
  zh cx 128 [.ptr 0 0,.d t.d,.d (.int .i64 a)] (psS u L)=some (.ret (.tup []),psS true (Sp.app L (Sp.text t a)))
 | 0,_,_,.mk ..,_,h,_,_,_=>by simp [T.depth] at h
 | m+1,u,L,t,a,hd,ho,hi,hr=>by
  have hm:knows cx (KT m).S (zh cx):=zaq zcb λ a q s u L ha hs hr=>by
   obtain ⟨x,n⟩:=q;obtain rfl:=zg4 ha;obtain ⟨t,ht,hs⟩:=zd hs;obtain ⟨hf,hs⟩:=ze hs;cases hs;obtain ⟨rfl,h1,h2⟩:=y5 ht;exact z7w m u L t n h1 h2 hf hr
  have hT:=zdu hd ho;have hC:=zhl ho;refine zk (z15 hm) (N:=0) ?_;obtain ⟨k,nm,kids,nms,pl⟩:=t;refine (yfl 0 (m+1) L u k nm kids nms pl a).trans ?_;simp only [T.d] at hT hC;unfold Sp.text at hr ⊢;simp only [hT,hC,zc,zb,hi,cond_true,ye,hr];rfl
end Go.Vai
end

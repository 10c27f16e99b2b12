/-
  Show: the reference's looks at trees.
  Show: the printer: what it holds; put.
  Show: put.
  Show: put prints its texts; what else the printer calls.
  Show: the texts of trees; the functions that print, and what they see.
  Show: the printer's functions, called.
  Show: each of the printer's functions prints its text.
  Show: formulas are printed.
  Show: terms are printed: binders.
  Show: boxes are printed.
  Show: terms are printed.
-/
import Derived.Test.YtmolcgfhgdhgoaaGreatDoorSliPart2

set_option linter.all false
set_option linter.unusedSimpArgs false
set_option linter.unusedVariables false

section
namespace Go.Vai
open Go.Proofs
theorem g74(n m:Nat)(k:Int)(nm:List UInt8)(kids:List T)(nms:List (List UInt8))(pl:Int):zk cx (zt 95 vj (zg m) (fun t=>mkB (Sp.form t)) K1) n 95 [.d (.agg [.int .i64 k,.str nm,.sl 5 (T.ds kids),.sl 1 (nms.map .str),.int .i64 pl])] []=bif decide ((0:Int)<(↑(List.map D.str nms).length:Int)) then some (Out.ret (V.d (D.bool false)),[]) else bif decide (k=(1:Int)) then bif decide ((↑(T.ds kids).length:Int)=(0:Int)) then zb (decide (nm.length≤big)) (some (Out.ret (V.d (D.bool (Sp.named nm))),[])) else some (Out.ret (V.d (D.bool false)),[]) else bif decide (k=(17:Int)) then bif decide ((↑(T.ds kids).length:Int)=(0:Int)) then bif decide (nm=[48]) then some (Out.ret (V.d (D.bool true)),[]) else some (Out.ret (V.d (D.bool (decide (nm=[49])))),[]) else some (Out.ret (V.d (D.bool false)),[]) else bif decide (k=(16:Int)) then bif decide (nm=[]) then bif decide ((↑(T.ds kids).length:Int)=(1:Int)) then zb (decide ((0:Int)<(↑(T.ds kids).length:Int))) (za (T.ds kids) (0:Int).toNat fun y=>za y.cells 0 fun c=>za y.cells 1 fun c_1=>za y.cells 2 fun c_2=>za y.cells 3 fun c_3=>za y.cells 4 fun c_4=>zc (zg m (D.agg [c,c_1,c_2,c_3,c_4])) fun b=>some (Out.ret (V.d (D.bool (Sp.form b))),[])) else some (Out.ret (V.d (D.bool false)),[]) else some (Out.ret (V.d (D.bool false)),[]) else bif decide (k=(14:Int)) then bif decide (k=(14:Int)) then bif decide (nm=[]) then bif decide ((↑(T.ds kids).length:Int)=(2:Int)) then zb (decide ((0:Int)<(↑(T.ds kids).length:Int))) (za (T.ds kids) (0:Int).toNat fun y=>za y.cells 0 fun c=>za y.cells 1 fun c_1=>za y.cells 2 fun c_2=>za y.cells 3 fun c_3=>za y.cells 4 fun c_4=>zc (zg m (D.agg [c,c_1,c_2,c_3,c_4])) fun b=>bif Sp.form b then zb (decide ((1:Int)<(↑(T.ds kids).length:Int))) (za (T.ds kids) (1:Int).toNat fun y=>za y.cells 0 fun c=>za y.cells 1 fun c_5=>za y.cells 2 fun c_6=>za y.cells 3 fun c_7=>za y.cells 4 fun c_8=>zc (zg m (D.agg [c,c_5,c_6,c_7,c_8])) fun b=>some (Out.ret (V.d (D.bool (Sp.form b))),[])) else some (Out.ret (V.d (D.bool false)),[])) else some (Out.ret (V.d (D.bool false)),[]) else some (Out.ret (V.d (D.bool false)),[]) else some (Out.ret (V.d (D.bool false)),[]) else bif decide (k=(15:Int)) then bif decide (nm=[]) then bif decide ((↑(T.ds kids).length:Int)=(2:Int)) then zb (decide ((0:Int)<(↑(T.ds kids).length:Int))) (za (T.ds kids) (0:Int).toNat fun y=>za y.cells 0 fun c=>za y.cells 1 fun c_1=>za y.cells 2 fun c_2=>za y.cells 3 fun c_3=>za y.cells 4 fun c_4=>zc (zg m (D.agg [c,c_1,c_2,c_3,c_4])) fun b=>bif Sp.form b then zb (decide ((1:Int)<(↑(T.ds kids).length:Int))) (za (T.ds kids) (1:Int).toNat fun y=>za y.cells 0 fun c=>za y.cells 1 fun c_5=>za y.cells 2 fun c_6=>za y.cells 3 fun c_7=>za y.cells 4 fun c_8=>zc (zg m (D.agg [c,c_5,c_6,c_7,c_8])) fun b=>some (Out.ret (V.d (D.bool (Sp.form b))),[])) else some (Out.ret (V.d (D.bool false)),[])) else some (Out.ret (V.d (D.bool false)),[]) else some (Out.ret (V.d (D.bool false)),[]) else some (Out.ret (V.d (D.bool false)),[]):=by kernel_rfl
theorem g76(n:Nat)(k:Int)(nm:List UInt8)(kids:List T)(nms:List (List UInt8))(pl:Int):zk cx K1 n 97 [.d (.agg [.int .i64 k,.str nm,.sl 5 (T.ds kids),.sl 1 (nms.map .str),.int .i64 pl])] []=bif !decide (k=(12:Int)) then some (Out.ret (V.d (D.bool false)),[]) else bif !decide (nm=[]) then some (Out.ret (V.d (D.bool false)),[]) else bif decide ((0:Int)<(↑(List.map D.str nms).length:Int)) then some (Out.ret (V.d (D.bool false)),[]) else LP cx K1 n 97 0 4 n [(1,V.ptr 1 0),(3,V.d (D.int .i64 (0:Int)))] [(1,Ob.val 5 (V.d (D.agg [D.int .i64 k,D.str nm,D.sl 5 (T.ds kids),D.sl 1 (List.map D.str nms),D.int .i64 pl])))] (AK cx K1 n 97 0 4 (EK cx 97 0)):=by kernel_rfl
theorem l76(n r:Nat)(k:Int)(nm:List UInt8)(kids:List T)(nms:List (List UInt8))(pl i:Int):LP cx K1 n 97 0 4 (r+1) [(1,V.ptr 1 0),(3,V.d (D.int .i64 i))] [(1,Ob.val 5 (V.d (D.agg [D.int .i64 k,D.str nm,D.sl 5 (T.ds kids),D.sl 1 (List.map D.str nms),D.int .i64 pl])))] (AK cx K1 n 97 0 4 (EK cx 97 0))=bif decide (i<(↑(T.ds kids).length:Int)) then zb (decide (0≤i)&&decide (i<(↑(T.ds kids).length:Int))) (za (T.ds kids) i.toNat fun y=>za y.cells 0 fun c=>za y.cells 1 fun c_1=>za y.cells 2 fun c_2=>za y.cells 3 fun c_3=>za y.cells 4 fun c_4=>match c with
 | D.int k' n_1=>bif decide (k'=IntKind.i64) then bif !decide (n_1=(13:Int)) then some (Out.ret (V.d (D.bool false)),[]) else match c_2 with
  | D.sl s l=>bif s.beq (cx.P.cellsOf 26)||l.isEmpty then bif decide ((0:Int)<(↑l.length:Int)) then some (Out.ret (V.d (D.bool false)),[]) else match c_1 with
   | D.str s=>zb (decide (s.length≤big)) (bif !Sp.named s then some (Out.ret (V.d (D.bool false)),[]) else match c_3 with
    | D.sl s l=>bif s.beq (cx.P.cellsOf 9)||l.isEmpty then bif !decide ((↑l.length:Int)=(1:Int)) then some (Out.ret (V.d (D.bool false)),[]) else match c_3 with
     | D.sl s l=>bif s.beq (cx.P.cellsOf 9)||l.isEmpty then zb (decide ((0:Int)<(↑l.length:Int))) (za l (0:Int).toNat fun y=>za y.cells 0 fun c=>match c with
      | D.str s=>bif !decide (s=[48]) then match c_3 with
       | D.sl s l=>bif s.beq (cx.P.cellsOf 9)||l.isEmpty then zb (decide ((0:Int)<(↑l.length:Int))) (za l (0:Int).toNat fun y=>za y.cells 0 fun c=>match c with
        | D.str s=>bif !decide (s=[49]) then some (Out.ret (V.d (D.bool false)),[]) else LP cx K1 n 97 0 4 r [(1,V.ptr 1 0),(3,V.d (D.int .i64 (IntKind.i64.wrap (i+(1:Int)))))] [(1,Ob.val 5 (V.d (D.agg [D.int .i64 k,D.str nm,D.sl 5 (T.ds kids),D.sl 1 (List.map D.str nms),D.int .i64 pl])))] (AK cx K1 n 97 0 4 (EK cx 97 0))
        | x=>none) else none
       | x=>none else LP cx K1 n 97 0 4 r [(1,V.ptr 1 0),(3,V.d (D.int .i64 (IntKind.i64.wrap (i+(1:Int)))))] [(1,Ob.val 5 (V.d (D.agg [D.int .i64 k,D.str nm,D.sl 5 (T.ds kids),D.sl 1 (List.map D.str nms),D.int .i64 pl])))] (AK cx K1 n 97 0 4 (EK cx 97 0))
      | x=>none) else none
     | x=>none else none
    | x=>none)
   | x=>none else none
  | x=>none else none
 | x=>none) else some (Out.ret (V.d (D.bool true)),[]):=by kernel_rfl
theorem g42(n m:Nat)(k:Int)(nm:List UInt8)(kids:List T)(nms:List (List UInt8))(pl:Int):zk cx (KQ m) n 59 [.d (.agg [.int .i64 k,.str nm,.sl 5 (T.ds kids),.sl 1 (nms.map .str),.int .i64 pl])] []=bif decide (k=(1:Int)) then zc (Sp.toC (D.agg [D.int .i64 k,D.str nm,D.sl 5 (T.ds kids),D.sl 1 (List.map D.str nms),D.int .i64 pl])) fun b=>some (Out.ret (V.d (D.bool (Sp.form b))),[]) else bif !decide (nm=[]) then some (Out.ret (V.d (D.bool false)),[]) else zc (zfo (D.sl 1 (List.map D.str nms))) fun b=>bif !b.all Sp.named then some (Out.ret (V.d (D.bool false)),[]) else bif decide (k=(2:Int)) then bif decide (k=(2:Int)) then bif decide ((0:Int)<(↑(List.map D.str nms).length:Int)) then bif decide ((↑(T.ds kids).length:Int)=(1:Int)) then zb (decide ((0:Int)<(↑(T.ds kids).length:Int))) (za (T.ds kids) (0:Int).toNat fun y=>za y.cells 0 fun c=>za y.cells 1 fun c_1=>za y.cells 2 fun c_2=>za y.cells 3 fun c_3=>za y.cells 4 fun c_4=>zc (zg m (D.agg [c,c_1,c_2,c_3,c_4])) fun b=>some (Out.ret (V.d (D.bool (Sp.right b))),[])) else some (Out.ret (V.d (D.bool false)),[]) else some (Out.ret (V.d (D.bool false)),[]) else bif decide (k=(4:Int)) then bif decide (k=(4:Int)) then bif decide ((↑(List.map D.str nms).length:Int)<(2:Int)) then bif decide ((↑(T.ds kids).length:Int)=(2:Int)) then zb (decide ((0:Int)<(↑(T.ds kids).length:Int))) (za (T.ds kids) (0:Int).toNat fun y=>za y.cells 0 fun c=>za y.cells 1 fun c_1=>za y.cells 2 fun c_2=>za y.cells 3 fun c_3=>za y.cells 4 fun c_4=>zc (zg m (D.agg [c,c_1,c_2,c_3,c_4])) fun b=>bif Sp.right b then zb (decide ((1:Int)<(↑(T.ds kids).length:Int))) (za (T.ds kids) (1:Int).toNat fun y=>za y.cells 0 fun c=>za y.cells 1 fun c_5=>za y.cells 2 fun c_6=>za y.cells 3 fun c_7=>za y.cells 4 fun c_8=>zc (zg m (D.agg [c,c_5,c_6,c_7,c_8])) fun b=>some (Out.ret (V.d (D.bool (Sp.right b))),[])) else some (Out.ret (V.d (D.bool false)),[])) else some (Out.ret (V.d (D.bool false)),[]) else some (Out.ret (V.d (D.bool false)),[]) else bif decide (k=(6:Int)) then bif decide (k=(6:Int)) then bif decide ((↑(List.map D.str nms).length:Int)=(0:Int)) then bif decide ((↑(T.ds kids).length:Int)=(2:Int)) then zb (decide ((0:Int)<(↑(T.ds kids).length:Int))) (za (T.ds kids) (0:Int).toNat fun y=>za y.cells 0 fun c=>za y.cells 1 fun c_1=>za y.cells 2 fun c_2=>za y.cells 3 fun c_3=>za y.cells 4 fun c_4=>zc (zg m (D.agg [c,c_1,c_2,c_3,c_4])) fun b=>bif Sp.right b then zb (decide ((1:Int)<(↑(T.ds kids).length:Int))) (za (T.ds kids) (1:Int).toNat fun y=>za y.cells 0 fun c=>za y.cells 1 fun c_5=>za y.cells 2 fun c_6=>za y.cells 3 fun c_7=>za y.cells 4 fun c_8=>zc (zg m (D.agg [c,c_5,c_6,c_7,c_8])) fun b=>some (Out.ret (V.d (D.bool (Sp.right b))),[])) else some (Out.ret (V.d (D.bool false)),[])) else some (Out.ret (V.d (D.bool false)),[]) else some (Out.ret (V.d (D.bool false)),[]) else bif decide (k=(7:Int)) then bif decide ((↑(List.map D.str nms).length:Int)=(0:Int)) then bif decide ((↑(T.ds kids).length:Int)=(2:Int)) then zb (decide ((0:Int)<(↑(T.ds kids).length:Int))) (za (T.ds kids) (0:Int).toNat fun y=>za y.cells 0 fun c=>za y.cells 1 fun c_1=>za y.cells 2 fun c_2=>za y.cells 3 fun c_3=>za y.cells 4 fun c_4=>zc (zg m (D.agg [c,c_1,c_2,c_3,c_4])) fun b=>bif Sp.right b then zb (decide ((1:Int)<(↑(T.ds kids).length:Int))) (za (T.ds kids) (1:Int).toNat fun y=>za y.cells 0 fun c=>za y.cells 1 fun c_5=>za y.cells 2 fun c_6=>za y.cells 3 fun c_7=>za y.cells 4 fun c_8=>zc (Sp.toC (D.agg [c,c_5,c_6,c_7,c_8])) fun b=>some (Out.ret (V.d (D.bool (Sp.form b))),[])) else some (Out.ret (V.d (D.bool false)),[])) else some (Out.ret (V.d (D.bool false)),[]) else some (Out.ret (V.d (D.bool false)),[]) else bif decide (k=(10:Int)) then LP cx (KQ m) n 59 0 22 n [(1,V.ptr 1 0),(3,V.d (D.int .i64 (↑(List.map D.str nms).length:Int))),(4,V.d (D.int .i64 (↑(T.ds kids).length:Int))),(5,V.d (D.int .i64 (0:Int)))] [(1,Ob.val 5 (V.d (D.agg [D.int .i64 k,D.str nm,D.sl 5 (T.ds kids),D.sl 1 (List.map D.str nms),D.int .i64 pl])))] (AK cx (KQ m) n 59 0 22 (EK cx 59 0)) else some (Out.ret (V.d (D.bool false)),[]) else bif decide (k=(8:Int)) then bif decide (k=(8:Int)) then bif decide ((↑(List.map D.str nms).length:Int)=(0:Int)) then bif decide ((↑(T.ds kids).length:Int)=(2:Int)) then zb (decide ((0:Int)<(↑(T.ds kids).length:Int))) (za (T.ds kids) (0:Int).toNat fun y=>za y.cells 0 fun c=>za y.cells 1 fun c_1=>za y.cells 2 fun c_2=>za y.cells 3 fun c_3=>za y.cells 4 fun c_4=>zc (zg m (D.agg [c,c_1,c_2,c_3,c_4])) fun b=>bif Sp.right b then zb (decide ((1:Int)<(↑(T.ds kids).length:Int))) (za (T.ds kids) (1:Int).toNat fun y=>za y.cells 0 fun c=>za y.cells 1 fun c_5=>za y.cells 2 fun c_6=>za y.cells 3 fun c_7=>za y.cells 4 fun c_8=>zc (zg m (D.agg [c,c_5,c_6,c_7,c_8])) fun b=>some (Out.ret (V.d (D.bool (Sp.right b))),[])) else some (Out.ret (V.d (D.bool false)),[])) else some (Out.ret (V.d (D.bool false)),[]) else some (Out.ret (V.d (D.bool false)),[]) else bif decide (k=(7:Int)) then bif decide ((↑(List.map D.str nms).length:Int)=(0:Int)) then bif decide ((↑(T.ds kids).length:Int)=(2:Int)) then zb (decide ((0:Int)<(↑(T.ds kids).length:Int))) (za (T.ds kids) (0:Int).toNat fun y=>za y.cells 0 fun c=>za y.cells 1 fun c_1=>za y.cells 2 fun c_2=>za y.cells 3 fun c_3=>za y.cells 4 fun c_4=>zc (zg m (D.agg [c,c_1,c_2,c_3,c_4])) fun b=>bif Sp.right b then zb (decide ((1:Int)<(↑(T.ds kids).length:Int))) (za (T.ds kids) (1:Int).toNat fun y=>za y.cells 0 fun c=>za y.cells 1 fun c_5=>za y.cells 2 fun c_6=>za y.cells 3 fun c_7=>za y.cells 4 fun c_8=>zc (Sp.toC (D.agg [c,c_5,c_6,c_7,c_8])) fun b=>some (Out.ret (V.d (D.bool (Sp.form b))),[])) else some (Out.ret (V.d (D.bool false)),[])) else some (Out.ret (V.d (D.bool false)),[]) else some (Out.ret (V.d (D.bool false)),[]) else bif decide (k=(10:Int)) then LP cx (KQ m) n 59 0 22 n [(1,V.ptr 1 0),(3,V.d (D.int .i64 (↑(List.map D.str nms).length:Int))),(4,V.d (D.int .i64 (↑(T.ds kids).length:Int))),(5,V.d (D.int .i64 (0:Int)))] [(1,Ob.val 5 (V.d (D.agg [D.int .i64 k,D.str nm,D.sl 5 (T.ds kids),D.sl 1 (List.map D.str nms),D.int .i64 pl])))] (AK cx (KQ m) n 59 0 22 (EK cx 59 0)) else some (Out.ret (V.d (D.bool false)),[]) else bif decide (k=(9:Int)) then bif decide ((↑(List.map D.str nms).length:Int)=(0:Int)) then bif decide ((↑(T.ds kids).length:Int)=(2:Int)) then zb (decide ((0:Int)<(↑(T.ds kids).length:Int))) (za (T.ds kids) (0:Int).toNat fun y=>za y.cells 0 fun c=>za y.cells 1 fun c_1=>za y.cells 2 fun c_2=>za y.cells 3 fun c_3=>za y.cells 4 fun c_4=>zc (zg m (D.agg [c,c_1,c_2,c_3,c_4])) fun b=>bif Sp.right b then zb (decide ((1:Int)<(↑(T.ds kids).length:Int))) (za (T.ds kids) (1:Int).toNat fun y=>za y.cells 0 fun c=>za y.cells 1 fun c_5=>za y.cells 2 fun c_6=>za y.cells 3 fun c_7=>za y.cells 4 fun c_8=>zc (zg m (D.agg [c,c_5,c_6,c_7,c_8])) fun b=>some (Out.ret (V.d (D.bool (Sp.right b))),[])) else some (Out.ret (V.d (D.bool false)),[])) else some (Out.ret (V.d (D.bool false)),[]) else some (Out.ret (V.d (D.bool false)),[]) else bif decide (k=(7:Int)) then bif decide ((↑(List.map D.str nms).length:Int)=(0:Int)) then bif decide ((↑(T.ds kids).length:Int)=(2:Int)) then zb (decide ((0:Int)<(↑(T.ds kids).length:Int))) (za (T.ds kids) (0:Int).toNat fun y=>za y.cells 0 fun c=>za y.cells 1 fun c_1=>za y.cells 2 fun c_2=>za y.cells 3 fun c_3=>za y.cells 4 fun c_4=>zc (zg m (D.agg [c,c_1,c_2,c_3,c_4])) fun b=>bif Sp.right b then zb (decide ((1:Int)<(↑(T.ds kids).length:Int))) (za (T.ds kids) (1:Int).toNat fun y=>za y.cells 0 fun c=>za y.cells 1 fun c_5=>za y.cells 2 fun c_6=>za y.cells 3 fun c_7=>za y.cells 4 fun c_8=>zc (Sp.toC (D.agg [c,c_5,c_6,c_7,c_8])) fun b=>some (Out.ret (V.d (D.bool (Sp.form b))),[])) else some (Out.ret (V.d (D.bool false)),[])) else some (Out.ret (V.d (D.bool false)),[]) else some (Out.ret (V.d (D.bool false)),[]) else bif decide (k=(10:Int)) then LP cx (KQ m) n 59 0 22 n [(1,V.ptr 1 0),(3,V.d (D.int .i64 (↑(List.map D.str nms).length:Int))),(4,V.d (D.int .i64 (↑(T.ds kids).length:Int))),(5,V.d (D.int .i64 (0:Int)))] [(1,Ob.val 5 (V.d (D.agg [D.int .i64 k,D.str nm,D.sl 5 (T.ds kids),D.sl 1 (List.map D.str nms),D.int .i64 pl])))] (AK cx (KQ m) n 59 0 22 (EK cx 59 0)) else some (Out.ret (V.d (D.bool false)),[]) else bif decide (k=(5:Int)) then bif decide ((↑(List.map D.str nms).length:Int)<(2:Int)) then bif decide ((↑(T.ds kids).length:Int)=(2:Int)) then zb (decide ((0:Int)<(↑(T.ds kids).length:Int))) (za (T.ds kids) (0:Int).toNat fun y=>za y.cells 0 fun c=>za y.cells 1 fun c_1=>za y.cells 2 fun c_2=>za y.cells 3 fun c_3=>za y.cells 4 fun c_4=>zc (zg m (D.agg [c,c_1,c_2,c_3,c_4])) fun b=>bif Sp.right b then zb (decide ((1:Int)<(↑(T.ds kids).length:Int))) (za (T.ds kids) (1:Int).toNat fun y=>za y.cells 0 fun c=>za y.cells 1 fun c_5=>za y.cells 2 fun c_6=>za y.cells 3 fun c_7=>za y.cells 4 fun c_8=>zc (zg m (D.agg [c,c_5,c_6,c_7,c_8])) fun b=>some (Out.ret (V.d (D.bool (Sp.right b))),[])) else some (Out.ret (V.d (D.bool false)),[])) else some (Out.ret (V.d (D.bool false)),[]) else some (Out.ret (V.d (D.bool false)),[]) else bif decide (k=(6:Int)) then bif decide (k=(6:Int)) then bif decide ((↑(List.map D.str nms).length:Int)=(0:Int)) then bif decide ((↑(T.ds kids).length:Int)=(2:Int)) then zb (decide ((0:Int)<(↑(T.ds kids).length:Int))) (za (T.ds kids) (0:Int).toNat fun y=>za y.cells 0 fun c=>za y.cells 1 fun c_1=>za y.cells 2 fun c_2=>za y.cells 3 fun c_3=>za y.cells 4 fun c_4=>zc (zg m (D.agg [c,c_1,c_2,c_3,c_4])) fun b=>bif Sp.right b then zb (decide ((1:Int)<(↑(T.ds kids).length:Int))) (za (T.ds kids) (1:Int).toNat fun y=>za y.cells 0 fun c=>za y.cells 1 fun c_5=>za y.cells 2 fun c_6=>za y.cells 3 fun c_7=>za y.cells 4 fun c_8=>zc (zg m (D.agg [c,c_5,c_6,c_7,c_8])) fun b=>some (Out.ret (V.d (D.bool (Sp.right b))),[])) else some (Out.ret (V.d (D.bool false)),[])) else some (Out.ret (V.d (D.bool false)),[]) else some (Out.ret (V.d (D.bool false)),[]) else bif decide (k=(7:Int)) then bif decide ((↑(List.map D.str nms).length:Int)=(0:Int)) then bif decide ((↑(T.ds kids).length:Int)=(2:Int)) then zb (decide ((0:Int)<(↑(T.ds kids).length:Int))) (za (T.ds kids) (0:Int).toNat fun y=>za y.cells 0 fun c=>za y.cells 1 fun c_1=>za y.cells 2 fun c_2=>za y.cells 3 fun c_3=>za y.cells 4 fun c_4=>zc (zg m (D.agg [c,c_1,c_2,c_3,c_4])) fun b=>bif Sp.right b then zb (decide ((1:Int)<(↑(T.ds kids).length:Int))) (za (T.ds kids) (1:Int).toNat fun y=>za y.cells 0 fun c=>za y.cells 1 fun c_5=>za y.cells 2 fun c_6=>za y.cells 3 fun c_7=>za y.cells 4 fun c_8=>zc (Sp.toC (D.agg [c,c_5,c_6,c_7,c_8])) fun b=>some (Out.ret (V.d (D.bool (Sp.form b))),[])) else some (Out.ret (V.d (D.bool false)),[])) else some (Out.ret (V.d (D.bool false)),[]) else some (Out.ret (V.d (D.bool false)),[]) else bif decide (k=(10:Int)) then LP cx (KQ m) n 59 0 22 n [(1,V.ptr 1 0),(3,V.d (D.int .i64 (↑(List.map D.str nms).length:Int))),(4,V.d (D.int .i64 (↑(T.ds kids).length:Int))),(5,V.d (D.int .i64 (0:Int)))] [(1,Ob.val 5 (V.d (D.agg [D.int .i64 k,D.str nm,D.sl 5 (T.ds kids),D.sl 1 (List.map D.str nms),D.int .i64 pl])))] (AK cx (KQ m) n 59 0 22 (EK cx 59 0)) else some (Out.ret (V.d (D.bool false)),[]) else bif decide (k=(8:Int)) then bif decide (k=(8:Int)) then bif decide ((↑(List.map D.str nms).length:Int)=(0:Int)) then bif decide ((↑(T.ds kids).length:Int)=(2:Int)) then zb (decide ((0:Int)<(↑(T.ds kids).length:Int))) (za (T.ds kids) (0:Int).toNat fun y=>za y.cells 0 fun c=>za y.cells 1 fun c_1=>za y.cells 2 fun c_2=>za y.cells 3 fun c_3=>za y.cells 4 fun c_4=>zc (zg m (D.agg [c,c_1,c_2,c_3,c_4])) fun b=>bif Sp.right b then zb (decide ((1:Int)<(↑(T.ds kids).length:Int))) (za (T.ds kids) (1:Int).toNat fun y=>za y.cells 0 fun c=>za y.cells 1 fun c_5=>za y.cells 2 fun c_6=>za y.cells 3 fun c_7=>za y.cells 4 fun c_8=>zc (zg m (D.agg [c,c_5,c_6,c_7,c_8])) fun b=>some (Out.ret (V.d (D.bool (Sp.right b))),[])) else some (Out.ret (V.d (D.bool false)),[])) else some (Out.ret (V.d (D.bool false)),[]) else some (Out.ret (V.d (D.bool false)),[]) else bif decide (k=(7:Int)) then bif decide ((↑(List.map D.str nms).length:Int)=(0:Int)) then bif decide ((↑(T.ds kids).length:Int)=(2:Int)) then zb (decide ((0:Int)<(↑(T.ds kids).length:Int))) (za (T.ds kids) (0:Int).toNat fun y=>za y.cells 0 fun c=>za y.cells 1 fun c_1=>za y.cells 2 fun c_2=>za y.cells 3 fun c_3=>za y.cells 4 fun c_4=>zc (zg m (D.agg [c,c_1,c_2,c_3,c_4])) fun b=>bif Sp.right b then zb (decide ((1:Int)<(↑(T.ds kids).length:Int))) (za (T.ds kids) (1:Int).toNat fun y=>za y.cells 0 fun c=>za y.cells 1 fun c_5=>za y.cells 2 fun c_6=>za y.cells 3 fun c_7=>za y.cells 4 fun c_8=>zc (Sp.toC (D.agg [c,c_5,c_6,c_7,c_8])) fun b=>some (Out.ret (V.d (D.bool (Sp.form b))),[])) else some (Out.ret (V.d (D.bool false)),[])) else some (Out.ret (V.d (D.bool false)),[]) else some (Out.ret (V.d (D.bool false)),[]) else bif decide (k=(10:Int)) then LP cx (KQ m) n 59 0 22 n [(1,V.ptr 1 0),(3,V.d (D.int .i64 (↑(List.map D.str nms).length:Int))),(4,V.d (D.int .i64 (↑(T.ds kids).length:Int))),(5,V.d (D.int .i64 (0:Int)))] [(1,Ob.val 5 (V.d (D.agg [D.int .i64 k,D.str nm,D.sl 5 (T.ds kids),D.sl 1 (List.map D.str nms),D.int .i64 pl])))] (AK cx (KQ m) n 59 0 22 (EK cx 59 0)) else some (Out.ret (V.d (D.bool false)),[]) else bif decide (k=(9:Int)) then bif decide ((↑(List.map D.str nms).length:Int)=(0:Int)) then bif decide ((↑(T.ds kids).length:Int)=(2:Int)) then zb (decide ((0:Int)<(↑(T.ds kids).length:Int))) (za (T.ds kids) (0:Int).toNat fun y=>za y.cells 0 fun c=>za y.cells 1 fun c_1=>za y.cells 2 fun c_2=>za y.cells 3 fun c_3=>za y.cells 4 fun c_4=>zc (zg m (D.agg [c,c_1,c_2,c_3,c_4])) fun b=>bif Sp.right b then zb (decide ((1:Int)<(↑(T.ds kids).length:Int))) (za (T.ds kids) (1:Int).toNat fun y=>za y.cells 0 fun c=>za y.cells 1 fun c_5=>za y.cells 2 fun c_6=>za y.cells 3 fun c_7=>za y.cells 4 fun c_8=>zc (zg m (D.agg [c,c_5,c_6,c_7,c_8])) fun b=>some (Out.ret (V.d (D.bool (Sp.right b))),[])) else some (Out.ret (V.d (D.bool false)),[])) else some (Out.ret (V.d (D.bool false)),[]) else some (Out.ret (V.d (D.bool false)),[]) else bif decide (k=(7:Int)) then bif decide ((↑(List.map D.str nms).length:Int)=(0:Int)) then bif decide ((↑(T.ds kids).length:Int)=(2:Int)) then zb (decide ((0:Int)<(↑(T.ds kids).length:Int))) (za (T.ds kids) (0:Int).toNat fun y=>za y.cells 0 fun c=>za y.cells 1 fun c_1=>za y.cells 2 fun c_2=>za y.cells 3 fun c_3=>za y.cells 4 fun c_4=>zc (zg m (D.agg [c,c_1,c_2,c_3,c_4])) fun b=>bif Sp.right b then zb (decide ((1:Int)<(↑(T.ds kids).length:Int))) (za (T.ds kids) (1:Int).toNat fun y=>za y.cells 0 fun c=>za y.cells 1 fun c_5=>za y.cells 2 fun c_6=>za y.cells 3 fun c_7=>za y.cells 4 fun c_8=>zc (Sp.toC (D.agg [c,c_5,c_6,c_7,c_8])) fun b=>some (Out.ret (V.d (D.bool (Sp.form b))),[])) else some (Out.ret (V.d (D.bool false)),[])) else some (Out.ret (V.d (D.bool false)),[]) else some (Out.ret (V.d (D.bool false)),[]) else bif decide (k=(10:Int)) then LP cx (KQ m) n 59 0 22 n [(1,V.ptr 1 0),(3,V.d (D.int .i64 (↑(List.map D.str nms).length:Int))),(4,V.d (D.int .i64 (↑(T.ds kids).length:Int))),(5,V.d (D.int .i64 (0:Int)))] [(1,Ob.val 5 (V.d (D.agg [D.int .i64 k,D.str nm,D.sl 5 (T.ds kids),D.sl 1 (List.map D.str nms),D.int .i64 pl])))] (AK cx (KQ m) n 59 0 22 (EK cx 59 0)) else some (Out.ret (V.d (D.bool false)),[]) else bif decide (k=(3:Int)) then bif decide ((0:Int)<(↑(List.map D.str nms).length:Int)) then bif decide ((↑(T.ds kids).length:Int)=(1:Int)) then zb (decide ((0:Int)<(↑(T.ds kids).length:Int))) (za (T.ds kids) (0:Int).toNat fun y=>za y.cells 0 fun c=>za y.cells 1 fun c_1=>za y.cells 2 fun c_2=>za y.cells 3 fun c_3=>za y.cells 4 fun c_4=>zc (zg m (D.agg [c,c_1,c_2,c_3,c_4])) fun b=>some (Out.ret (V.d (D.bool (Sp.right b))),[])) else some (Out.ret (V.d (D.bool false)),[]) else some (Out.ret (V.d (D.bool false)),[]) else bif decide (k=(4:Int)) then bif decide (k=(4:Int)) then bif decide ((↑(List.map D.str nms).length:Int)<(2:Int)) then bif decide ((↑(T.ds kids).length:Int)=(2:Int)) then zb (decide ((0:Int)<(↑(T.ds kids).length:Int))) (za (T.ds kids) (0:Int).toNat fun y=>za y.cells 0 fun c=>za y.cells 1 fun c_1=>za y.cells 2 fun c_2=>za y.cells 3 fun c_3=>za y.cells 4 fun c_4=>zc (zg m (D.agg [c,c_1,c_2,c_3,c_4])) fun b=>bif Sp.right b then zb (decide ((1:Int)<(↑(T.ds kids).length:Int))) (za (T.ds kids) (1:Int).toNat fun y=>za y.cells 0 fun c=>za y.cells 1 fun c_5=>za y.cells 2 fun c_6=>za y.cells 3 fun c_7=>za y.cells 4 fun c_8=>zc (zg m (D.agg [c,c_5,c_6,c_7,c_8])) fun b=>some (Out.ret (V.d (D.bool (Sp.right b))),[])) else some (Out.ret (V.d (D.bool false)),[])) else some (Out.ret (V.d (D.bool false)),[]) else some (Out.ret (V.d (D.bool false)),[]) else bif decide (k=(6:Int)) then bif decide (k=(6:Int)) then bif decide ((↑(List.map D.str nms).length:Int)=(0:Int)) then bif decide ((↑(T.ds kids).length:Int)=(2:Int)) then zb (decide ((0:Int)<(↑(T.ds kids).length:Int))) (za (T.ds kids) (0:Int).toNat fun y=>za y.cells 0 fun c=>za y.cells 1 fun c_1=>za y.cells 2 fun c_2=>za y.cells 3 fun c_3=>za y.cells 4 fun c_4=>zc (zg m (D.agg [c,c_1,c_2,c_3,c_4])) fun b=>bif Sp.right b then zb (decide ((1:Int)<(↑(T.ds kids).length:Int))) (za (T.ds kids) (1:Int).toNat fun y=>za y.cells 0 fun c=>za y.cells 1 fun c_5=>za y.cells 2 fun c_6=>za y.cells 3 fun c_7=>za y.cells 4 fun c_8=>zc (zg m (D.agg [c,c_5,c_6,c_7,c_8])) fun b=>some (Out.ret (V.d (D.bool (Sp.right b))),[])) else some (Out.ret (V.d (D.bool false)),[])) else some (Out.ret (V.d (D.bool false)),[]) else some (Out.ret (V.d (D.bool false)),[]) else bif decide (k=(7:Int)) then bif decide ((↑(List.map D.str nms).length:Int)=(0:Int)) then bif decide ((↑(T.ds kids).length:Int)=(2:Int)) then zb (decide ((0:Int)<(↑(T.ds kids).length:Int))) (za (T.ds kids) (0:Int).toNat fun y=>za y.cells 0 fun c=>za y.cells 1 fun c_1=>za y.cells 2 fun c_2=>za y.cells 3 fun c_3=>za y.cells 4 fun c_4=>zc (zg m (D.agg [c,c_1,c_2,c_3,c_4])) fun b=>bif Sp.right b then zb (decide ((1:Int)<(↑(T.ds kids).length:Int))) (za (T.ds kids) (1:Int).toNat fun y=>za y.cells 0 fun c=>za y.cells 1 fun c_5=>za y.cells 2 fun c_6=>za y.cells 3 fun c_7=>za y.cells 4 fun c_8=>zc (Sp.toC (D.agg [c,c_5,c_6,c_7,c_8])) fun b=>some (Out.ret (V.d (D.bool (Sp.form b))),[])) else some (Out.ret (V.d (D.bool false)),[])) else some (Out.ret (V.d (D.bool false)),[]) else some (Out.ret (V.d (D.bool false)),[]) else bif decide (k=(10:Int)) then LP cx (KQ m) n 59 0 22 n [(1,V.ptr 1 0),(3,V.d (D.int .i64 (↑(List.map D.str nms).length:Int))),(4,V.d (D.int .i64 (↑(T.ds kids).length:Int))),(5,V.d (D.int .i64 (0:Int)))] [(1,Ob.val 5 (V.d (D.agg [D.int .i64 k,D.str nm,D.sl 5 (T.ds kids),D.sl 1 (List.map D.str nms),D.int .i64 pl])))] (AK cx (KQ m) n 59 0 22 (EK cx 59 0)) else some (Out.ret (V.d (D.bool false)),[]) else bif decide (k=(8:Int)) then bif decide (k=(8:Int)) then bif decide ((↑(List.map D.str nms).length:Int)=(0:Int)) then bif decide ((↑(T.ds kids).length:Int)=(2:Int)) then zb (decide ((0:Int)<(↑(T.ds kids).length:Int))) (za (T.ds kids) (0:Int).toNat fun y=>za y.cells 0 fun c=>za y.cells 1 fun c_1=>za y.cells 2 fun c_2=>za y.cells 3 fun c_3=>za y.cells 4 fun c_4=>zc (zg m (D.agg [c,c_1,c_2,c_3,c_4])) fun b=>bif Sp.right b then zb (decide ((1:Int)<(↑(T.ds kids).length:Int))) (za (T.ds kids) (1:Int).toNat fun y=>za y.cells 0 fun c=>za y.cells 1 fun c_5=>za y.cells 2 fun c_6=>za y.cells 3 fun c_7=>za y.cells 4 fun c_8=>zc (zg m (D.agg [c,c_5,c_6,c_7,c_8])) fun b=>some (Out.ret (V.d (D.bool (Sp.right b))),[])) else some (Out.ret (V.d (D.bool false)),[])) else some (Out.ret (V.d (D.bool false)),[]) else some (Out.ret (V.d (D.bool false)),[]) else bif decide (k=(7:Int)) then bif decide ((↑(List.map D.str nms).length:Int)=(0:Int)) then bif decide ((↑(T.ds kids).length:Int)=(2:Int)) then zb (decide ((0:Int)<(↑(T.ds kids).length:Int))) (za (T.ds kids) (0:Int).toNat fun y=>za y.cells 0 fun c=>za y.cells 1 fun c_1=>za y.cells 2 fun c_2=>za y.cells 3 fun c_3=>za y.cells 4 fun c_4=>zc (zg m (D.agg [c,c_1,c_2,c_3,c_4])) fun b=>bif Sp.right b then zb (decide ((1:Int)<(↑(T.ds kids).length:Int))) (za (T.ds kids) (1:Int).toNat fun y=>za y.cells 0 fun c=>za y.cells 1 fun c_5=>za y.cells 2 fun c_6=>za y.cells 3 fun c_7=>za y.cells 4 fun c_8=>zc (Sp.toC (D.agg [c,c_5,c_6,c_7,c_8])) fun b=>some (Out.ret (V.d (D.bool (Sp.form b))),[])) else some (Out.ret (V.d (D.bool false)),[])) else some (Out.ret (V.d (D.bool false)),[]) else some (Out.ret (V.d (D.bool false)),[]) else bif decide (k=(10:Int)) then LP cx (KQ m) n 59 0 22 n [(1,V.ptr 1 0),(3,V.d (D.int .i64 (↑(List.map D.str nms).length:Int))),(4,V.d (D.int .i64 (↑(T.ds kids).length:Int))),(5,V.d (D.int .i64 (0:Int)))] [(1,Ob.val 5 (V.d (D.agg [D.int .i64 k,D.str nm,D.sl 5 (T.ds kids),D.sl 1 (List.map D.str nms),D.int .i64 pl])))] (AK cx (KQ m) n 59 0 22 (EK cx 59 0)) else some (Out.ret (V.d (D.bool false)),[]) else bif decide (k=(9:Int)) then bif decide ((↑(List.map D.str nms).length:Int)=(0:Int)) then bif decide ((↑(T.ds kids).length:Int)=(2:Int)) then zb (decide ((0:Int)<(↑(T.ds kids).length:Int))) (za (T.ds kids) (0:Int).toNat fun y=>za y.cells 0 fun c=>za y.cells 1 fun c_1=>za y.cells 2 fun c_2=>za y.cells 3 fun c_3=>za y.cells 4 fun c_4=>zc (zg m (D.agg [c,c_1,c_2,c_3,c_4])) fun b=>bif Sp.right b then zb (decide ((1:Int)<(↑(T.ds kids).length:Int))) (za (T.ds kids) (1:Int).toNat fun y=>za y.cells 0 fun c=>za y.cells 1 fun c_5=>za y.cells 2 fun c_6=>za y.cells 3 fun c_7=>za y.cells 4 fun c_8=>zc (zg m (D.agg [c,c_5,c_6,c_7,c_8])) fun b=>some (Out.ret (V.d (D.bool (Sp.right b))),[])) else some (Out.ret (V.d (D.bool false)),[])) else some (Out.ret (V.d (D.bool false)),[]) else some (Out.ret (V.d (D.bool false)),[]) else bif decide (k=(7:Int)) then bif decide ((↑(List.map D.str nms).length:Int)=(0:Int)) then bif decide ((↑(T.ds kids).length:Int)=(2:Int)) then zb (decide ((0:Int)<(↑(T.ds kids).length:Int))) (za (T.ds kids) (0:Int).toNat fun y=>za y.cells 0 fun c=>za y.cells 1 fun c_1=>za y.cells 2 fun c_2=>za y.cells 3 fun c_3=>za y.cells 4 fun c_4=>zc (zg m (D.agg [c,c_1,c_2,c_3,c_4])) fun b=>bif Sp.right b then zb (decide ((1:Int)<(↑(T.ds kids).length:Int))) (za (T.ds kids) (1:Int).toNat fun y=>za y.cells 0 fun c=>za y.cells 1 fun c_5=>za y.cells 2 fun c_6=>za y.cells 3 fun c_7=>za y.cells 4 fun c_8=>zc (Sp.toC (D.agg [c,c_5,c_6,c_7,c_8])) fun b=>some (Out.ret (V.d (D.bool (Sp.form b))),[])) else some (Out.ret (V.d (D.bool false)),[])) else some (Out.ret (V.d (D.bool false)),[]) else some (Out.ret (V.d (D.bool false)),[]) else bif decide (k=(10:Int)) then LP cx (KQ m) n 59 0 22 n [(1,V.ptr 1 0),(3,V.d (D.int .i64 (↑(List.map D.str nms).length:Int))),(4,V.d (D.int .i64 (↑(T.ds kids).length:Int))),(5,V.d (D.int .i64 (0:Int)))] [(1,Ob.val 5 (V.d (D.agg [D.int .i64 k,D.str nm,D.sl 5 (T.ds kids),D.sl 1 (List.map D.str nms),D.int .i64 pl])))] (AK cx (KQ m) n 59 0 22 (EK cx 59 0)) else some (Out.ret (V.d (D.bool false)),[]) else bif decide (k=(5:Int)) then bif decide ((↑(List.map D.str nms).length:Int)<(2:Int)) then bif decide ((↑(T.ds kids).length:Int)=(2:Int)) then zb (decide ((0:Int)<(↑(T.ds kids).length:Int))) (za (T.ds kids) (0:Int).toNat fun y=>za y.cells 0 fun c=>za y.cells 1 fun c_1=>za y.cells 2 fun c_2=>za y.cells 3 fun c_3=>za y.cells 4 fun c_4=>zc (zg m (D.agg [c,c_1,c_2,c_3,c_4])) fun b=>bif Sp.right b then zb (decide ((1:Int)<(↑(T.ds kids).length:Int))) (za (T.ds kids) (1:Int).toNat fun y=>za y.cells 0 fun c=>za y.cells 1 fun c_5=>za y.cells 2 fun c_6=>za y.cells 3 fun c_7=>za y.cells 4 fun c_8=>zc (zg m (D.agg [c,c_5,c_6,c_7,c_8])) fun b=>some (Out.ret (V.d (D.bool (Sp.right b))),[])) else some (Out.ret (V.d (D.bool false)),[])) else some (Out.ret (V.d (D.bool false)),[]) else some (Out.ret (V.d (D.bool false)),[]) else bif decide (k=(6:Int)) then bif decide (k=(6:Int)) then bif decide ((↑(List.map D.str nms).length:Int)=(0:Int)) then bif decide ((↑(T.ds kids).length:Int)=(2:Int)) then zb (decide ((0:Int)<(↑(T.ds kids).length:Int))) (za (T.ds kids) (0:Int).toNat fun y=>za y.cells 0 fun c=>za y.cells 1 fun c_1=>za y.cells 2 fun c_2=>za y.cells 3 fun c_3=>za y.cells 4 fun c_4=>zc (zg m (D.agg [c,c_1,c_2,c_3,c_4])) fun b=>bif Sp.right b then zb (decide ((1:Int)<(↑(T.ds kids).length:Int))) (za (T.ds kids) (1:Int).toNat fun y=>za y.cells 0 fun c=>za y.cells 1 fun c_5=>za y.cells 2 fun c_6=>za y.cells 3 fun c_7=>za y.cells 4 fun c_8=>zc (zg m (D.agg [c,c_5,c_6,c_7,c_8])) fun b=>some (Out.ret (V.d (D.bool (Sp.right b))),[])) else some (Out.ret (V.d (D.bool false)),[])) else some (Out.ret (V.d (D.bool false)),[]) else some (Out.ret (V.d (D.bool false)),[]) else bif decide (k=(7:Int)) then bif decide ((↑(List.map D.str nms).length:Int)=(0:Int)) then bif decide ((↑(T.ds kids).length:Int)=(2:Int)) then zb (decide ((0:Int)<(↑(T.ds kids).length:Int))) (za (T.ds kids) (0:Int).toNat fun y=>za y.cells 0 fun c=>za y.cells 1 fun c_1=>za y.cells 2 fun c_2=>za y.cells 3 fun c_3=>za y.cells 4 fun c_4=>zc (zg m (D.agg [c,c_1,c_2,c_3,c_4])) fun b=>bif Sp.right b then zb (decide ((1:Int)<(↑(T.ds kids).length:Int))) (za (T.ds kids) (1:Int).toNat fun y=>za y.cells 0 fun c=>za y.cells 1 fun c_5=>za y.cells 2 fun c_6=>za y.cells 3 fun c_7=>za y.cells 4 fun c_8=>zc (Sp.toC (D.agg [c,c_5,c_6,c_7,c_8])) fun b=>some (Out.ret (V.d (D.bool (Sp.form b))),[])) else some (Out.ret (V.d (D.bool false)),[])) else some (Out.ret (V.d (D.bool false)),[]) else some (Out.ret (V.d (D.bool false)),[]) else bif decide (k=(10:Int)) then LP cx (KQ m) n 59 0 22 n [(1,V.ptr 1 0),(3,V.d (D.int .i64 (↑(List.map D.str nms).length:Int))),(4,V.d (D.int .i64 (↑(T.ds kids).length:Int))),(5,V.d (D.int .i64 (0:Int)))] [(1,Ob.val 5 (V.d (D.agg [D.int .i64 k,D.str nm,D.sl 5 (T.ds kids),D.sl 1 (List.map D.str nms),D.int .i64 pl])))] (AK cx (KQ m) n 59 0 22 (EK cx 59 0)) else some (Out.ret (V.d (D.bool false)),[]) else bif decide (k=(8:Int)) then bif decide (k=(8:Int)) then bif decide ((↑(List.map D.str nms).length:Int)=(0:Int)) then bif decide ((↑(T.ds kids).length:Int)=(2:Int)) then zb (decide ((0:Int)<(↑(T.ds kids).length:Int))) (za (T.ds kids) (0:Int).toNat fun y=>za y.cells 0 fun c=>za y.cells 1 fun c_1=>za y.cells 2 fun c_2=>za y.cells 3 fun c_3=>za y.cells 4 fun c_4=>zc (zg m (D.agg [c,c_1,c_2,c_3,c_4])) fun b=>bif Sp.right b then zb (decide ((1:Int)<(↑(T.ds kids).length:Int))) (za (T.ds kids) (1:Int).toNat fun y=>za y.cells 0 fun c=>za y.cells 1 fun c_5=>za y.cells 2 fun c_6=>za y.cells 3 fun c_7=>za y.cells 4 fun c_8=>zc (zg m (D.agg [c,c_5,c_6,c_7,c_8])) fun b=>some (Out.ret (V.d (D.bool (Sp.right b))),[])) else some (Out.ret (V.d (D.bool false)),[])) else some (Out.ret (V.d (D.bool false)),[]) else some (Out.ret (V.d (D.bool false)),[]) else bif decide (k=(7:Int)) then bif decide ((↑(List.map D.str nms).length:Int)=(0:Int)) then bif decide ((↑(T.ds kids).length:Int)=(2:Int)) then zb (decide ((0:Int)<(↑(T.ds kids).length:Int))) (za (T.ds kids) (0:Int).toNat fun y=>za y.cells 0 fun c=>za y.cells 1 fun c_1=>za y.cells 2 fun c_2=>za y.cells 3 fun c_3=>za y.cells 4 fun c_4=>zc (zg m (D.agg [c,c_1,c_2,c_3,c_4])) fun b=>bif Sp.right b then zb (decide ((1:Int)<(↑(T.ds kids).length:Int))) (za (T.ds kids) (1:Int).toNat fun y=>za y.cells 0 fun c=>za y.cells 1 fun c_5=>za y.cells 2 fun c_6=>za y.cells 3 fun c_7=>za y.cells 4 fun c_8=>zc (Sp.toC (D.agg [c,c_5,c_6,c_7,c_8])) fun b=>some (Out.ret (V.d (D.bool (Sp.form b))),[])) else some (Out.ret (V.d (D.bool false)),[])) else some (Out.ret (V.d (D.bool false)),[]) else some (Out.ret (V.d (D.bool false)),[]) else bif decide (k=(10:Int)) then LP cx (KQ m) n 59 0 22 n [(1,V.ptr 1 0),(3,V.d (D.int .i64 (↑(List.map D.str nms).length:Int))),(4,V.d (D.int .i64 (↑(T.ds kids).length:Int))),(5,V.d (D.int .i64 (0:Int)))] [(1,Ob.val 5 (V.d (D.agg [D.int .i64 k,D.str nm,D.sl 5 (T.ds kids),D.sl 1 (List.map D.str nms),D.int .i64 pl])))] (AK cx (KQ m) n 59 0 22 (EK cx 59 0)) else some (Out.ret (V.d (D.bool false)),[]) else bif decide (k=(9:Int)) then bif decide ((↑(List.map D.str nms).length:Int)=(0:Int)) then bif decide ((↑(T.ds kids).length:Int)=(2:Int)) then zb (decide ((0:Int)<(↑(T.ds kids).length:Int))) (za (T.ds kids) (0:Int).toNat fun y=>za y.cells 0 fun c=>za y.cells 1 fun c_1=>za y.cells 2 fun c_2=>za y.cells 3 fun c_3=>za y.cells 4 fun c_4=>zc (zg m (D.agg [c,c_1,c_2,c_3,c_4])) fun b=>bif Sp.right b then zb (decide ((1:Int)<(↑(T.ds kids).length:Int))) (za (T.ds kids) (1:Int).toNat fun y=>za y.cells 0 fun c=>za y.cells 1 fun c_5=>za y.cells 2 fun c_6=>za y.cells 3 fun c_7=>za y.cells 4 fun c_8=>zc (zg m (D.agg [c,c_5,c_6,c_7,c_8])) fun b=>some (Out.ret (V.d (D.bool (Sp.right b))),[])) else some (Out.ret (V.d (D.bool false)),[])) else some (Out.ret (V.d (D.bool false)),[]) else some (Out.ret (V.d (D.bool false)),[]) else bif decide (k=(7:Int)) then bif decide ((↑(List.map D.str nms).length:Int)=(0:Int)) then bif decide ((↑(T.ds kids).length:Int)=(2:Int)) then zb (decide ((0:Int)<(↑(T.ds kids).length:Int))) (za (T.ds kids) (0:Int).toNat fun y=>za y.cells 0 fun c=>za y.cells 1 fun c_1=>za y.cells 2 fun c_2=>za y.cells 3 fun c_3=>za y.cells 4 fun c_4=>zc (zg m (D.agg [c,c_1,c_2,c_3,c_4])) fun b=>bif Sp.right b then zb (decide ((1:Int)<(↑(T.ds kids).length:Int))) (za (T.ds kids) (1:Int).toNat fun y=>za y.cells 0 fun c=>za y.cells 1 fun c_5=>za y.cells 2 fun c_6=>za y.cells 3 fun c_7=>za y.cells 4 fun c_8=>zc (Sp.toC (D.agg [c,c_5,c_6,c_7,c_8])) fun b=>some (Out.ret (V.d (D.bool (Sp.form b))),[])) else some (Out.ret (V.d (D.bool false)),[])) else some (Out.ret (V.d (D.bool false)),[]) else some (Out.ret (V.d (D.bool false)),[]) else bif decide (k=(10:Int)) then LP cx (KQ m) n 59 0 22 n [(1,V.ptr 1 0),(3,V.d (D.int .i64 (↑(List.map D.str nms).length:Int))),(4,V.d (D.int .i64 (↑(T.ds kids).length:Int))),(5,V.d (D.int .i64 (0:Int)))] [(1,Ob.val 5 (V.d (D.agg [D.int .i64 k,D.str nm,D.sl 5 (T.ds kids),D.sl 1 (List.map D.str nms),D.int .i64 pl])))] (AK cx (KQ m) n 59 0 22 (EK cx 59 0)) else some (Out.ret (V.d (D.bool false)),[]):=by kernel_rfl
theorem l42(n m r:Nat)(k a:Int)(nm:List UInt8)(kids:List T)(nms:List (List UInt8))(pl i:Int):LP cx (KQ m) n 59 0 22 (r+1) [(1,V.ptr 1 0),(3,V.d (D.int .i64 a)),(4,V.d (D.int .i64 (kids.length:Int))),(5,V.d (D.int .i64 i))] [(1,Ob.val 5 (V.d (D.agg [D.int .i64 k,D.str nm,D.sl 5 (T.ds kids),D.sl 1 (List.map D.str nms),D.int .i64 pl])))] (AK cx (KQ m) n 59 0 22 (EK cx 59 0))=bif decide (i<(↑kids.length:Int)) then zb (decide (0≤i)&&decide (i<(↑(T.ds kids).length:Int))) (za (T.ds kids) i.toNat fun y=>za y.cells 0 fun c=>za y.cells 1 fun c_1=>za y.cells 2 fun c_2=>za y.cells 3 fun c_3=>za y.cells 4 fun c_4=>match c with
 | D.int k' n_1=>bif decide (k'=IntKind.i64) then bif !decide (n_1=(11:Int)) then some (Out.ret (V.d (D.bool false)),[]) else match c_1 with
  | D.str s=>bif !decide (s=[]) then some (Out.ret (V.d (D.bool false)),[]) else match c_3 with
   | D.sl s l=>bif s.beq (cx.P.cellsOf 9)||l.isEmpty then bif decide ((0:Int)<(↑l.length:Int)) then some (Out.ret (V.d (D.bool false)),[]) else match c_2 with
    | D.sl s l=>bif s.beq (cx.P.cellsOf 26)||l.isEmpty then bif decide ((↑l.length:Int)<(1:Int)) then some (Out.ret (V.d (D.bool false)),[]) else match c_2 with
     | D.sl s l=>bif s.beq (cx.P.cellsOf 26)||l.isEmpty then bif decide ((2:Int)<(↑l.length:Int)) then some (Out.ret (V.d (D.bool false)),[]) else match c_2 with
      | D.sl s l=>bif s.beq (cx.P.cellsOf 26)||l.isEmpty then zb (decide ((0:Int)<(↑l.length:Int))) (za l (0:Int).toNat fun y=>za y.cells 0 fun c=>za y.cells 1 fun c_5=>za y.cells 2 fun c_6=>za y.cells 3 fun c_7=>za y.cells 4 fun c_8=>zc (Sp.toC (D.agg [c,c_5,c_6,c_7,c_8])) fun b=>bif !qk b then some (Out.ret (V.d (D.bool false)),[]) else match c_2 with
       | D.sl s l=>bif s.beq (cx.P.cellsOf 26)||l.isEmpty then bif decide ((↑l.length:Int)=(2:Int)) then match c_2 with
        | D.sl s l=>bif s.beq (cx.P.cellsOf 26)||l.isEmpty then zb (decide ((1:Int)<(↑l.length:Int))) (za l (1:Int).toNat fun y=>za y.cells 0 fun c=>za y.cells 1 fun c_9=>za y.cells 2 fun c_10=>za y.cells 3 fun c_11=>za y.cells 4 fun c_12=>zc (zg m (D.agg [c,c_9,c_10,c_11,c_12])) fun b=>bif !Sp.right b then some (Out.ret (V.d (D.bool false)),[]) else LP cx (KQ m) n 59 0 22 r [(1,V.ptr 1 0),(3,V.d (D.int .i64 a)),(4,V.d (D.int .i64 (↑kids.length:Int))),(5,V.d (D.int .i64 (IntKind.i64.wrap (i+Int.ofNat 1))))] [(1,Ob.val 5 (V.d (D.agg [D.int .i64 k,D.str nm,D.sl 5 (T.ds kids),D.sl 1 (List.map D.str nms),D.int .i64 pl])))] (AK cx (KQ m) n 59 0 22 (EK cx 59 0))) else none
        | x=>none else LP cx (KQ m) n 59 0 22 r [(1,V.ptr 1 0),(3,V.d (D.int .i64 a)),(4,V.d (D.int .i64 (↑kids.length:Int))),(5,V.d (D.int .i64 (IntKind.i64.wrap (i+(1:Int)))))] [(1,Ob.val 5 (V.d (D.agg [D.int .i64 k,D.str nm,D.sl 5 (T.ds kids),D.sl 1 (List.map D.str nms),D.int .i64 pl])))] (AK cx (KQ m) n 59 0 22 (EK cx 59 0)) else none
       | x=>none) else none
      | x=>none else none
     | x=>none else none
    | x=>none else none
   | x=>none
  | x=>none else none
 | x=>none) else some (Out.ret (V.d (D.bool (decide (a=(0:Int))))),[]):=by kernel_rfl
theorem z56:∀ (m:Nat) (t:T),t.depth≤m→t.ok=true→zh cx 95 [.d t.d] []=some (.ret (mkB (Sp.form t)),[])
 | 0,.mk ..,h,_=>by simp [T.depth] at h
 | m+1,.mk k nm kids nms pl,hd,ho=>by
  have hK:knows cx (zt 95 vj (zg m) (fun t=>mkB (Sp.form t)) K1).S (zh cx):=zj zfp fun a q b _ h hb=>by
   obtain rfl:=xu h
   obtain ⟨rfl,h1,h2⟩:=yx hb
   exact z56 m b h1 h2
  obtain ⟨h1,h2,h3,h4,h5⟩:=wi ho
  have hkd:=vi hd
  refine zl hK (N:=0) ?_
  refine (g74 0 m k nm kids nms pl).trans ?_
  have hT:∀ t∈kids,zg m t.d=some t:=fun t h=>qy hkd h5 h
  simp only [zc,zq,List.length_map,qe h1,zb,cond_true,z6,yc,x5,w7,w0,wz,wy,wd,znw,zk6,zsi,zj3,zlz]
  clear hK ho hd
  have hk:k=1∨k=17∨k=16∨k=15∨k=14∨(k ≠ 1∧k ≠ 17∧k ≠ 16∧k ≠ 15∧k ≠ 14):=by omega
  rcases hk with rfl | rfl | rfl | rfl | rfl | ⟨q1,q2,q3,q4,q5⟩ <;> rcases kids with _ | ⟨a,_ | ⟨b,_ | ⟨c,l⟩⟩⟩ <;> rcases nms with _ | ⟨x,nms⟩ <;> simp [Sp.form,mkB,Sp.bit,hT,zbf,zgk,Bool.and_assoc, *]
theorem zvw:Nat.beq 1 (cx.P.cellsOf 9)=true:=by kernel_rfl
theorem zfa:Nat.beq 5 (cx.P.cellsOf 26)=true:=by kernel_rfl
theorem z9t(t:T)(ho:t.ok=true):zh cx 97 [.d t.d] []=some (.ret (mkB (qk t)),[]):=by
 obtain ⟨k,nm,kids,nms,pl⟩:=t
 obtain ⟨h1,h2,h3,h4,h5⟩:=wi ho
 refine zl zfp (N:=kids.length+1) ?_
 refine (g76 (kids.length+1) k nm kids nms pl).trans ?_
 have h:=zaa (fun r i=>LP cx K1 (kids.length+1) 97 0 4 r [(1,V.ptr 1 0),(3,V.d (D.int .i64 i))] [(1,Ob.val 5 (V.d (D.agg [D.int .i64 k,D.str nm,D.sl 5 (T.ds kids),D.sl 1 (List.map D.str nms),D.int .i64 pl])))] (AK cx K1 (kids.length+1) 97 0 4 (EK cx 97 0)))
  kids (fun t=>!ql t) (fun j=>some (Out.ret (V.d (D.bool false)),[])) (some (Out.ret (V.d (D.bool true)),[])) (yj h2)
  (fun r j x hj hx=>by
   rw [l76,zq,ye hj,xd,z6,Int.toNat_natCast,hx]
   obtain ⟨q1,q2,q3,q4,q5⟩:yi x.nm=true∧yi x.kids=true∧yi x.nms=true∧x.nms.all yi=true∧T.oks x.kids=true:=by
    have:=wn h5 (List.mem_of_getElem? hx)
    cases x; exact wi this
   generalize LP cx K1 (kids.length+1) 97 0 4 r _ _ _=Z
   obtain ⟨k',nm',kids',nms',pl'⟩:=x
   simp only [zjy,qx,zf5] at q1 q2 q3 q4 q5
   simp only [cond_true,zb,zc,Bool.and_self,yc,x5,w7,w0,wz,wy,zla,zjy,qx,zf5,z5x,decide_true,zvw,zfa,Bool.true_or,zq,List.length_map,zj3,zk6,znw,xi,qe q1]
   have hk:k'=13∨k' ≠ 13:=by omega
   rcases hk with rfl | hk <;> rcases kids' with _ | ⟨a,kids'⟩ <;> rcases nms' with _ | ⟨y,_ | ⟨z,nms'⟩⟩ <;> simp [ql,Sp.bit,x5,D.cells, *]
   cases Sp.named nm' <;> cases decide (y=[48]) <;> cases decide (y=[49]) <;> rfl) (fun r=>by rw [l76,zq,yy,cond_false]) (k:=kids.length+1) (by omega)
 rw [h,List.length_map,zj3]
 have e:kids.all ql = !(kids.any fun s=>!ql s):=by rw [List.not_any_eq_all_not]; simp
 simp only [mkB,qk,e,←zbv kids 0]
 cases y0 (fun t=>!ql t) kids 0 <;> rcases nms with _ | ⟨x,nms⟩ <;> simp [zbf]
theorem z35:knows cx K8.S (zh cx):=by
 have h75:=zj (f:=96) (dec:=vj) (sp:=zfo) (mk:=fun l=>mkB (l.all Sp.named)) zfp fun a q b hd h hb=>by
  obtain rfl:=xu h
  obtain ⟨rfl,h1,h2⟩:=zjx hb
  exact z9u b h1 h2
 have h76:=zj (f:=97) (dec:=vj) (sp:=Sp.toC) (mk:=fun t=>mkB (qk t)) h75 fun a q b hd h hb=>by
  obtain rfl:=xu h
  obtain ⟨rfl,h1⟩:=xe hb
  exact z9t b h1
 exact zj h76 fun a q b hd h hb=>by
  obtain rfl:=xu h
  obtain ⟨rfl,h1⟩:=xe hb
  exact z56 b.depth b (Nat.le_refl _) h1
noncomputable abbrev L42 (m n r:Nat) (k a:Int) (nm:List UInt8) (kids:List T) (nms:List (List UInt8)) (pl i:Int):Option R1:=
 LP cx (KQ m) n 59 0 22 r [(1,V.ptr 1 0),(3,V.d (D.int .i64 a)),(4,V.d (D.int .i64 (kids.length:Int))),(5,V.d (D.int .i64 i))] [(1,Ob.val 5 (V.d (D.agg [D.int .i64 k,D.str nm,D.sl 5 (T.ds kids),D.sl 1 (List.map D.str nms),D.int .i64 pl])))] (AK cx (KQ m) n 59 0 22 (EK cx 59 0))
theorem z62{m:Nat}{k:Int}{nm:List UInt8}{kids:List T}{nms:List (List UInt8)}{pl:Int}(h2:yi kids=true)(h5:T.oks kids=true)(hkd:T.depths kids≤m)(a:Int)(N:Nat)(hN:kids.length<N) :
  L42 m N N k a nm kids nms pl 0=some (.ret (mkB (decide (a=0)&&kids.all Sp.elem)),[]):=by
 have h:=zaa (fun r i=>L42 m N r k a nm kids nms pl i)
  kids (fun t=>!Sp.elem t) (fun j=>some (Out.ret (V.d (D.bool false)),[])) (some (Out.ret (V.d (D.bool (decide (a=0)))),[])) (yj h2)
  (fun r j x hj hx=>by
   simp only [L42]
   rw [l42,zq,ye hj,xd,z6,Int.toNat_natCast,hx]
   have hxm:=List.mem_of_getElem? hx
   obtain ⟨q1,q2,q3,q4,q5⟩:yi x.nm=true∧yi x.kids=true∧yi x.nms=true∧x.nms.all yi=true∧T.oks x.kids=true:=by
    have:=wn h5 hxm
    cases x; exact wi this
   have hdx:T.depths x.kids≤m:=by
    have:=zfl hxm
    cases x; simp only [T.depth] at this; simp only [T.kids]; omega
   have hT:∀ t∈x.kids,zg m t.d=some t:=fun t h=>qy hdx q5 h
   have hC:∀ t∈x.kids,Sp.toC t.d=some t:=fun t h=>zc1 q5 h
   generalize LP cx (KQ m) N 59 0 22 r _ _ _=Z
   obtain ⟨k',nm',kids',nms',pl'⟩:=x
   simp only [zjy,qx,zf5] at q1 q2 q3 q4 q5 hT hC hdx
   simp only [cond_true,zb,zc,Bool.and_self,yc,x5,w7,w0,wz,wy,zla,zjy,qx,zf5,z5x,decide_true,zvw,zfa,Bool.true_or,zq,List.length_map,zj3,zlz,zk6,zsi,znw,z6,wd]
   have hk:k'=11∨k' ≠ 11:=by omega
   rcases hk with rfl | hk <;> rcases kids' with _ | ⟨b,_ | ⟨c,_ | ⟨d,l⟩⟩⟩ <;> rcases nms' with _ | ⟨y,nms'⟩ <;> simp [Sp.elem,hT,hC, *]
   ·cases decide (nm'=[]) <;> cases qk b <;> rfl
   ·cases decide (nm'=[]) <;> cases qk b <;> cases Sp.right c <;> rfl
   ·rw [decide_eq_false (p:=(l.length:Int)+1+1+1<1) (by omega),decide_eq_true (p:=(2:Int)<(l.length:Int)+1+1+1) (by omega)]
    cases decide (nm'=[]) <;> rfl) (fun r=>by rw [L42,l42,yy,cond_false]) (k:=N) hN
 rw [h]
 have e:kids.all Sp.elem = !(kids.any fun s=>!Sp.elem s):=by rw [List.not_any_eq_all_not]; simp
 simp only [mkB,e,←zbv kids 0]
 cases y0 (fun t=>!Sp.elem t) kids 0 <;> simp
theorem z15:∀ (m:Nat) (t:T),t.depth≤m→t.ok=true→zh cx 59 [.d t.d] []=some (.ret (mkB (Sp.right t)),[])
 | 0,.mk ..,h,_=>by simp [T.depth] at h
 | m+1,.mk k nm kids nms pl,hd,ho=>by
  have hQ:knows cx (KQ m).S (zh cx):=zj z35 fun a q b _ h hb=>by
   obtain rfl:=xu h
   obtain ⟨rfl,h1,h2⟩:=yx hb
   exact z15 m b h1 h2
  obtain ⟨h1,h2,h3,h4,h5⟩:=wi ho
  have hkd:=vi hd
  refine zl hQ (N:=kids.length+1) ?_
  refine (g42 (kids.length+1) m k nm kids nms pl).trans ?_
  have hC:Sp.toC (D.agg [D.int .i64 k,D.str nm,D.sl 5 (T.ds kids),D.sl 1 (List.map D.str nms),D.int .i64 pl])=some (.mk k nm kids nms pl):=zdf ho
  have hT:∀ t∈kids,zg m t.d=some t:=fun t h=>qy hkd h5 h
  have hTC:∀ t∈kids,Sp.toC t.d=some t:=fun t h=>zc1 h5 h
  have hL:=z62 (k:=k) (nm:=nm) (nms:=nms) (pl:=pl) h2 h5 hkd (nms.length:Int) (kids.length+1) (by omega)
  simp only [L42] at hL
  simp only [hC,zt0 h3 h4,zc,zq,List.length_map,qe h1,zb,cond_true,z6,yc,x5,w7,w0,wz,wy,wd,znw,zk6,zsi,zj3,zlz,decide_true,Bool.and_true,hL]
  clear hL hC hQ ho hd
  have hk:k=1∨k=2∨k=3∨k=4∨k=5∨k=6∨k=7∨k=8∨k=9∨k=10∨(k ≠ 1∧k ≠ 2∧k ≠ 3∧k ≠ 4∧k ≠ 5∧k ≠ 6∧k ≠ 7∧k ≠ 8∧k ≠ 9∧k ≠ 10):=by omega
  rcases hk with rfl | rfl | rfl | rfl | rfl | rfl | rfl | rfl | rfl | rfl | ⟨q1,q2,q3,q4,q5,q6,q7,q8,q9,q10⟩
  all_goals simp only [*,Int.reduceEq,decide_true,decide_false,cond_true,cond_false]
  all_goals rcases kids with _ | ⟨a,_ | ⟨b,_ | ⟨c,l⟩⟩⟩
  all_goals rcases nms with _ | ⟨x,_ | ⟨y,nms⟩⟩
  all_goals simp [Sp.right,Sp.form,mkB,hT,hTC,zbf,zgk,zlh,Bool.and_assoc,List.not_any_eq_all_not,zfj]
  all_goals first | (simp [*]; done) | (rw [decide_eq_false (p:=((nms.length:Int)+1+1<2)) (by omega),decide_eq_false (p:=nms.length+1+1<2) (by omega)]; simp)
end Go.Vai
end

section
namespace Go.Vai
open Go.Proofs
def adV:Bool→V | true=>.ptr 0 0 | false=>.d .nilptr
def psS(u:Bool)(L:List D):St:=[(0,.val 187695107 (.agg [adV u,.sl 6291457 L 1,.d (.bool false)])),(1,.tok L.length)]
def Sp.app(L:List D)(s:List UInt8):List D:=L++s.map fun b=>.int .u8 b.toNat
def Sp.room(L:List D)(s:List UInt8):Bool:=decide (L.length+s.length≤65536)
def Sp.fit(n:Nat)(L:List D):Bool:=decide (n=L.length)
theorem yb(L:List D):Sp.fit L.length L=true:=decide_eq_true rfl
theorem xm(L:List D)(s t:List UInt8):Sp.app (Sp.app L s) t=Sp.app L (s++t):=by simp [Sp.app]
theorem xz(L:List D)(s:List UInt8):(Sp.app L s).length=L.length+s.length:=by simp [Sp.app]
theorem zfb{L:List D}{s t:List UInt8}(h:Sp.room L (s++t)=true):Sp.room L s=true∧Sp.room (Sp.app L s) t=true:=by
 simp only [Sp.room,decide_eq_true_eq,List.length_append,xz] at h ⊢
 omega
def zz0:List D→Option (List UInt8)
 | []=>some []
 | .str s::r=>(match zz0 r with | some t=>some (s++t) | none=>none)
 | _::_=>none
def psD:St→Option (List D×Nat)
 | [(0,.val 187695107 (.agg [.ptr 0 0,.sl 6291457 L 1,.d (.bool false)])),(1,.tok n)]=>some (L,n)
 | [(0,.val 187695107 (.agg [.d .nilptr,.sl 6291457 L 1,.d (.bool false)])),(1,.tok n)]=>some (L,n)
 | _=>none
theorem zc5{σ:St}{L:List D}{n:Nat}(h:psD σ=some (L,n))(hn:Sp.fit n L=true):∃ u,σ=psS u L:=by
 simp only [Sp.fit,decide_eq_true_eq] at hn
 subst hn
 unfold psD at h
 split at h
 ·cases h; exact ⟨true,rfl⟩
 ·cases h; exact ⟨false,rfl⟩
 ·cases h
def prK{α:Type}(f:Nat)(dec:List V→Option α)(sp:α→Option (List UInt8))(S:CK R1):CK R1:=
 more f (fun a σ=>match dec a,psD σ with | some q,some p=>some (q,p) | _,_=>none)
  (fun K q=>match q with | (x,L,n)=>zc (sp x) fun s=>zb (Sp.fit n L) (zb (Sp.room L s) (K (.ret (.tup [])) (psS true (Sp.app L s)))))
  (fun K q=>by
   obtain ⟨x,L,n⟩:=q
   simp only
   rw [za1]
   congr 1
   funext s
   simp only [zb,vh]
   rfl) S
theorem zak{α:Type}{f:Nat}{dec:List V→Option α}{sp:α→Option (List UInt8)}{S:CK R1}(hS:knows cx S.S (zh cx))
  (hf:∀ a q s u L,dec a=some q→sp q=some s→Sp.room L s=true→zh cx f a (psS u L)=some (.ret (.tup []),psS true (Sp.app L s))):knows cx (prK f dec sp S).S (zh cx):=
 v6 hS fun a σ q r hd h=>by
  obtain ⟨q,L,n⟩:=q
  simp only at hd h
  split at hd
  ·rename_i q' p hq hp
   cases hd
   obtain ⟨s,hs,h⟩:=zd h
   obtain ⟨h1,h⟩:=ze h
   obtain ⟨h2,h⟩:=ze h
   cases h
   obtain ⟨u,rfl⟩:=zc5 hp h1
   exact hf a q s u L hq hs h2
  ·cases hd
theorem g66(n:Nat)(S:CK R1)(L:List D):zk cx S n 158 [.ptr 0 0] (psS true L)=some (Out.ret (V.d (D.int .i64 (↑L.length:Int))),[(0,Ob.val 187695107 (V.agg [V.ptr 0 0,V.sl 6291457 L 1,V.d (D.bool false)])),(1,Ob.tok L.length)]):=by kernel_rfl
theorem g89(n:Nat)(S:CK R1)(L:List D):zk cx S n 191 [.ptr 0 0] (psS true L)=some (Out.ret (V.tup []),[(0,Ob.val 187695107 (V.agg [V.ptr 0 0,V.sl 6291457 L 1,V.d (D.bool false)])),(1,Ob.tok L.length)]):=by kernel_rfl
theorem ydf(n:Nat)(S:CK R1)(L:List D):zk cx S n 191 [.ptr 0 0] (psS false L)=some (Out.ret (V.tup []),[(0,Ob.val 187695107 (V.agg [V.ptr 0 0,V.sl 6291457 L 1,V.d (D.bool false)])),(1,Ob.tok L.length)]):=by kernel_rfl
theorem ydi(n:Nat)(S:CK R1)(L:List D):zk cx S n 158 [.ptr 0 0] (psS false L)=some (.ret (.d (.int .i64 L.length)),psS false L):=by kernel_rfl
def zwv:List V→Option Unit | [.ptr 0 0]=>some () | _=>none
theorem zh8{a:List V}{x}(h:zwv a=some x):a=[.ptr 0 0]:=by
 unfold zwv at h
 split at h
 ·rfl
 ·cases h
def z2x:List V→Option (List UInt8) | [.ptr 0 0,.d (.str s)]=>some s | _=>none
theorem zwu{a:List V}{s}(h:z2x a=some s):a=[.ptr 0 0,.d (.str s)]:=by
 unfold z2x at h
 split at h
 ·cases h; rfl
 ·cases h
def K89:CK R1:=more 191 (fun a σ=>match zwv a,psD σ with | some _,some p=>some p | _,_=>none) (fun K q=>match q with | (L,n)=>zb (Sp.fit n L) (K (.ret (.tup [])) (psS true L)))
  (fun K q=>by obtain ⟨L,n⟩:=q; simp only [zb,vh]; rfl) (CK.plain zm)
theorem z0k:knows cx K89.S (zh cx):=v6 zo fun a σ q r hd h=>by
 obtain ⟨L,n⟩:=q
 simp only at hd h
 split at hd
 ·rename_i p ha hp
  cases hd
  obtain ⟨h1,h⟩:=ze h
  cases h
  obtain rfl:=zh8 ha
  obtain ⟨u,rfl⟩:=zc5 hp h1
  refine zl zo (N:=0) ?_
  cases u
  ·exact ydf 0 _ L
  ·exact g89 0 _ L
 ·cases hd
end Go.Vai
end

section
namespace Go.Vai
open Go.Proofs
theorem g67(n:Nat)(L:List D)(s:List UInt8):zk cx K89 n 159 [.ptr 0 0,.d (.str s)] (psS true L)=zb (Sp.fit L.length L) (zb (decide (L.length=L.length)&&decide (L.length+(List.map (fun b=>D.int IntKind.u8 (↑b.toNat:Int)) s).length≤4294967296)) (some (Out.ret (V.tup [V.d (D.int .i64 (↑s.length:Int)),V.d D.nilIface]),[(0,Ob.val 187695107 (V.agg [V.ptr 0 0,V.sl 6291457 (L++List.map (fun b=>D.int IntKind.u8 (↑b.toNat:Int)) s) 1,V.d (D.bool false)])),(1,Ob.tok (L.length+(List.map (fun b=>D.int IntKind.u8 (↑b.toNat:Int)) s).length))]))):=by kernel_rfl
theorem ydh(n:Nat)(L:List D)(s:List UInt8):zk cx K89 n 159 [.ptr 0 0,.d (.str s)] (psS false L)=zb (Sp.fit L.length L) (zb (decide (L.length=L.length)&&decide (L.length+(List.map (fun b=>D.int IntKind.u8 (↑b.toNat:Int)) s).length≤4294967296)) (some (Out.ret (V.tup [V.d (D.int .i64 (↑s.length:Int)),V.d D.nilIface]),[(0,Ob.val 187695107 (V.agg [V.ptr 0 0,V.sl 6291457 (L++List.map (fun b=>D.int IntKind.u8 (↑b.toNat:Int)) s) 1,V.d (D.bool false)])),(1,Ob.tok (L.length+(List.map (fun b=>D.int IntKind.u8 (↑b.toNat:Int)) s).length))]))):=by kernel_rfl
noncomputable def K67:CK R1:=more 159 (fun a σ=>match z2x a,psD σ with | some s,some p=>some (s,p) | _,_=>none)
  (fun K q=>match q with | (s,L,n)=>zb (Sp.fit n L) (zb (Sp.room L s) (K (.ret (.tup [.d (.int .i64 s.length),.d .nilIface])) (psS true (Sp.app L s)))))
  (fun K q=>by obtain ⟨s,L,n⟩:=q; simp only [zb,vh]; rfl)
 (more 158 (fun a σ=>match zwv a,psD σ with | some _,some p=>some (p,σ) | _,_=>none) (fun K q=>match q with | ((L,n),σ)=>zb (Sp.fit n L) (K (.ret (.d (.int .i64 L.length))) σ))
  (fun K q=>by obtain ⟨⟨L,n⟩,σ⟩:=q; simp only [zb,vh]; rfl) (CK.plain zm))
theorem z9y(u:Bool)(L:List D)(s:List UInt8)(h:Sp.room L s=true):zh cx 159 [.ptr 0 0,.d (.str s)] (psS u L)=some (.ret (.tup [.d (.int .i64 s.length),.d .nilIface]),psS true (Sp.app L s)):=by
 have h1:decide (L.length+(List.map (fun b:UInt8=>D.int IntKind.u8 (b.toNat:Int)) s).length≤4294967296)=true:=decide_eq_true (by simp only [Sp.room,decide_eq_true_eq] at h; rw [List.length_map]; omega)
 have e:(Sp.app L s).length=L.length+(List.map (fun b:UInt8=>D.int IntKind.u8 (b.toNat:Int)) s).length:=by simp [Sp.app]
 refine zl z0k (N:=0) ?_
 cases u
 ·rw [ydh,h1]
  simp only [yb,zb,cond_true,decide_true,Bool.and_self]
  rw [psS,e]; rfl
 ·rw [g67,h1]
  simp only [yb,zb,cond_true,decide_true,Bool.and_self]
  rw [psS,e]; rfl
theorem z0q:knows cx K67.S (zh cx):=by
 have h66:knows cx (more 158 (fun a σ=>match zwv a,psD σ with | some _,some p=>some (p,σ) | _,_=>none) (fun K q=>match q with | ((L,n),σ)=>zb (Sp.fit n L) (K (.ret (.d (.int .i64 L.length))) σ))
  (fun K q=>by obtain ⟨⟨L,n⟩,σ⟩:=q; simp only [zb,vh]; rfl) (CK.plain zm)).S (zh cx):=v6 zo fun a σ q r hd h=>by
  obtain ⟨⟨L,n⟩,τ⟩:=q
  simp only at hd h
  split at hd
  ·rename_i p ha hp
   cases hd
   obtain ⟨h1,h⟩:=ze h
   cases h
   obtain rfl:=zh8 ha
   obtain ⟨u,rfl⟩:=zc5 hp h1
   refine zl zo (N:=0) ?_
   cases u
   ·exact ydi 0 _ _
   ·exact g66 0 _ _
  ·cases hd
 exact v6 h66 fun a σ q r hd h=>by
  obtain ⟨s,L,n⟩:=q
  simp only at hd h
  split at hd
  ·rename_i s' p ha hp
   cases hd
   obtain ⟨h1,h⟩:=ze h
   obtain ⟨h2,h⟩:=ze h
   cases h
   obtain rfl:=zwu ha
   obtain ⟨u,rfl⟩:=zc5 hp h1
   exact z9y u L s h2
  ·cases hd
end Go.Vai
end

section
namespace Go.Vai
open Go.Proofs
theorem g38(n:Nat)(L:List D)(l:List D):zk cx K67 n 127 [.ptr 0 0,.d (.sl 1 l)] (psS true L)=LP cx K67 n 127 2 1 n [(0,V.ptr 0 0),(6,V.d (D.sl 1 l)),(7,V.d (D.int .i64 (↑l.length:Int))),(8,V.d (D.int .i64 (0:Int)))] [(0,Ob.val 187695107 (V.agg [V.ptr 0 0,V.sl 6291457 L 1,V.d (D.bool false)])),(1,Ob.tok L.length)] (AK cx K67 n 127 2 1 (EK cx 127 2)):=by kernel_rfl
theorem ydn(n:Nat)(L:List D)(l:List D):zk cx K67 n 127 [.ptr 0 0,.d (.sl 1 l)] (psS false L)=LP cx K67 n 127 2 1 n [(0,V.ptr 0 0),(6,V.d (D.sl 1 l)),(7,V.d (D.int .i64 (↑l.length:Int))),(8,V.d (D.int .i64 (0:Int)))] [(0,Ob.val 187695107 (V.agg [V.d D.nilptr,V.sl 6291457 L 1,V.d (D.bool false)])),(1,Ob.tok L.length)] (AK cx K67 n 127 2 1 (EK cx 127 2)):=by kernel_rfl
theorem l38(n k:Nat)(L:List D)(l:List (List UInt8))(i:Int):LP cx K67 n 127 2 1 (k+1) [(0,.ptr 0 0),(6,.d (.sl 1 (l.map .str))),(7,.d (.int .i64 (l.length:Int))),(8,.d (.int .i64 i))] (psS true L) (AK cx K67 n 127 2 1 (EK cx 127 2))=bif decide (i<(↑l.length:Int)) then zb (decide (0≤i)&&decide (i<(↑(List.map D.str l).length:Int))) (za (List.map D.str l) i.toNat fun y=>za y.cells 0 fun c=>match c with
 | D.str s=>zb (Sp.fit L.length L) (bif decide ((65536:Int)<IntKind.i64.wrap ((↑L.length:Int)+(↑s.length:Int))) then some (Out.ret (V.tup []),[(0,Ob.val 187695107 (V.agg [V.ptr 0 0,V.sl 6291457 L 1,V.d (D.bool true)])),(1,Ob.tok L.length)]) else zb (Sp.fit L.length L) (zb (Sp.room L s) (LP cx K67 n 127 2 1 k [(0,V.ptr 0 0),(6,V.d (D.sl 1 (List.map D.str l))),(7,V.d (D.int .i64 (↑l.length:Int))),(8,V.d (D.int .i64 (IntKind.i64.wrap (i+(1:Int)))))] [(0,Ob.val 187695107 (V.agg [V.ptr 0 0,V.sl 6291457 (Sp.app L s) 1,V.d (D.bool false)])),(1,Ob.tok (Sp.app L s).length)] (AK cx K67 n 127 2 1 (EK cx 127 2)))))
 | x=>none) else some (Out.ret (V.tup []),[(0,Ob.val 187695107 (V.agg [V.ptr 0 0,V.sl 6291457 L 1,V.d (D.bool false)])),(1,Ob.tok L.length)]):=by kernel_rfl
theorem yaj(n k:Nat)(L:List D)(l:List (List UInt8))(i:Int):LP cx K67 n 127 2 1 (k+1) [(0,.ptr 0 0),(6,.d (.sl 1 (l.map .str))),(7,.d (.int .i64 (l.length:Int))),(8,.d (.int .i64 i))] (psS false L) (AK cx K67 n 127 2 1 (EK cx 127 2))=bif decide (i<(↑l.length:Int)) then zb (decide (0≤i)&&decide (i<(↑(List.map D.str l).length:Int))) (za (List.map D.str l) i.toNat fun y=>za y.cells 0 fun c=>match c with
 | D.str s=>zb (Sp.fit L.length L) (bif decide ((65536:Int)<IntKind.i64.wrap ((↑L.length:Int)+(↑s.length:Int))) then some (Out.ret (V.tup []),[(0,Ob.val 187695107 (V.agg [V.d D.nilptr,V.sl 6291457 L 1,V.d (D.bool true)])),(1,Ob.tok L.length)]) else zb (Sp.fit L.length L) (zb (Sp.room L s) (LP cx K67 n 127 2 1 k [(0,V.ptr 0 0),(6,V.d (D.sl 1 (List.map D.str l))),(7,V.d (D.int .i64 (↑l.length:Int))),(8,V.d (D.int .i64 (IntKind.i64.wrap (i+(1:Int)))))] [(0,Ob.val 187695107 (V.agg [V.ptr 0 0,V.sl 6291457 (Sp.app L s) 1,V.d (D.bool false)])),(1,Ob.tok (Sp.app L s).length)] (AK cx K67 n 127 2 1 (EK cx 127 2)))))
 | x=>none) else some (Out.ret (V.tup []),[(0,Ob.val 187695107 (V.agg [V.d D.nilptr,V.sl 6291457 L 1,V.d (D.bool false)])),(1,Ob.tok L.length)]):=by kernel_rfl
theorem zmu(L:List D):Sp.app L []=L:=by simp [Sp.app]
theorem ztt{L:List D}{s:List UInt8}(h:Sp.room L s=true):decide ((65536:Int)<IntKind.i64.wrap ((L.length:Int)+(s.length:Int)))=false:=by
 simp only [Sp.room,decide_eq_true_eq] at h
 rw [IntWalk.i64_in _ (by omega)]
 exact decide_eq_false (by omega)
noncomputable abbrev L38 (n k:Nat) (u:Bool) (L:List D) (l:List (List UInt8)) (i:Int):Option R1:=
 LP cx K67 n 127 2 1 k [(0,.ptr 0 0),(6,.d (.sl 1 (l.map .str))),(7,.d (.int .i64 (l.length:Int))),(8,.d (.int .i64 i))] (psS u L) (AK cx K67 n 127 2 1 (EK cx 127 2))
theorem z1z(n:Nat)(l:List (List UInt8))(hl:l.length<4294967296):∀ (r:List (List UInt8)) (j k:Nat) (u:Bool) (L:List D),l.drop j=r→j≤l.length→r.length<k→Sp.room L r.flatten=true →
  L38 n k u L l j=some (.ret (.tup []),psS (u||!r.isEmpty) (Sp.app L r.flatten))
 | [],j,k,u,L,hd,hj,hk,hr=>by
  obtain ⟨k,rfl⟩:∃ i,k=i+1:=⟨k - 1,by omega⟩
  have:l.length≤j:=by simpa using hd
  obtain rfl:j=l.length:=by omega
  simp only [L38,List.flatten_nil,zmu]
  cases u
  ·rw [yaj,yy]; rfl
  ·rw [l38,yy]; rfl
 | s::r,j,k,u,L,hd,hj,hk,hr=>by
  obtain ⟨k,rfl⟩:∃ i,k=i+1:=⟨k - 1,by omega⟩
  obtain ⟨h1,h2,h3⟩:=zcb hd
  rw [List.flatten_cons] at hr
  obtain ⟨hr1,hr2⟩:=zfb hr
  have ih:=z1z n l hl r (j+1) k true (Sp.app L s) h3 h1 (by simp at hk; omega) hr2
  simp only [L38,Bool.true_or] at ih
  have e:psS true (Sp.app (Sp.app L s) r.flatten)=psS (u||!(s::r).isEmpty) (Sp.app L (s::r).flatten):=by
   rw [xm,List.flatten_cons]; cases u <;> rfl
  rw [←e]
  simp only [L38]
  cases u
  ·rw [yaj,List.length_map,ye h1,xd,xi,Int.toNat_natCast,h2,qd h1 hl]
   simp only [cond_true,zb,zc,Bool.and_self,D.cells,x5,yb,ztt hr1,cond_false,hr1]
   exact ih
  ·rw [l38,List.length_map,ye h1,xd,xi,Int.toNat_natCast,h2,qd h1 hl]
   simp only [cond_true,zb,zc,Bool.and_self,D.cells,x5,yb,ztt hr1,cond_false,hr1]
   exact ih
theorem z6b(u:Bool)(L:List D)(l:List (List UInt8))(hl:l.length<4294967296)(hne:l ≠ [])(hr:Sp.room L l.flatten=true) :
  zh cx 127 [.ptr 0 0,.d (.sl 1 (l.map .str))] (psS u L)=some (.ret (.tup []),psS true (Sp.app L l.flatten)):=by
 have h:=z1z (l.length+1) l hl l 0 (l.length+1) u L rfl (Nat.zero_le _) (by omega) hr
 simp only [L38] at h
 have e:(u||!l.isEmpty)=true:=by cases l; exact absurd rfl hne; cases u <;> rfl
 rw [e] at h
 refine zl z0q (N:=l.length+1) ?_
 cases u
 ·rw [ydn,List.length_map]; exact h
 ·rw [g38,List.length_map]; exact h
theorem zli:∀ {l:List D} {s:List UInt8},zz0 l=some s→∃ m:List (List UInt8),l=m.map .str∧s=m.flatten
 | [],s,h=>by cases h; exact ⟨[],rfl,rfl⟩
 | x::r,s,h=>by
  unfold zz0 at h
  split at h
  ·rename_i he; cases he
  ·rename_i t q he
   cases he
   split at h
   ·rename_i u hu
    cases h
    obtain ⟨m,rfl,rfl⟩:=zli hu
    exact ⟨t::m,rfl,rfl⟩
   ·cases h
  ·cases h
def zol:List V→Option (List D) | [.ptr 0 0,.d (.sl 1 (a::l))]=>bif Nat.ble l.length 100 then some (a::l) else none | _=>none
theorem zma{a:List V}{l}(h:zol a=some l):a=[.ptr 0 0,.d (.sl 1 l)]∧l ≠ []∧l.length<4294967296:=by
 unfold zol at h
 split at h
 ·rename_i x r
  cases hc:Nat.ble r.length 100 <;> rw [hc] at h
  ·cases h
  ·cases h
   have:=Nat.le_of_ble_eq_true hc
   exact ⟨rfl,by simp,by simp; omega⟩
 ·cases h
noncomputable def K38:CK R1:=prK 127 zol zz0 (CK.plain zm)
theorem z0t:knows cx K38.S (zh cx):=zak zo fun a q s u L h hs hr=>by
 obtain ⟨rfl,h1,h2⟩:=zma h
 obtain ⟨m,rfl,rfl⟩:=zli hs
 exact z6b u L m (by simpa using h2) (by intro e; rw [e] at h1; exact h1 rfl) hr
def zu(l:List (List UInt8))(sep:List UInt8):List UInt8:=Lib.join l sep
def z2y:List V→Option (D×List UInt8) | [.d x,.d (.str s)]=>some (x,s) | _=>none
def zcf(q:D×List UInt8):Option (List (List UInt8)×List UInt8):=match zfo q.1 with | some l=>bif decide ((Lib.join l q.2).length≤140737488355328) then some (l,q.2) else none | none=>none
theorem z9o(l:List (List UInt8))(sep:List UInt8)(h1:yi l=true)(h2:(Lib.join l sep).length≤140737488355328):zh cx 192 [.d (.sl 1 (l.map .str)),.d (.str sep)] []=some (.ret (.d (.str (zu l sep))),[]):=by
 refine zhd (n:=1) ?_
 have e:cx.nat 192 [.d (.sl 1 (l.map .str)),.d (.str sep)] []=some (.ret (.d (.str (Lib.join l sep))),[]):=by
  have e0:cx.nat 192 [.d (.sl 1 (l.map .str)),.d (.str sep)] []=zj1 [.d (.sl 1 (l.map .str)),.d (.str sep)] []:=by kernel_rfl
  rw [e0]
  simp only [zj1,zyx,zc]
  rw [decide_eq_true h2,decide_eq_true (by have:=yj h1; omega)]
  rfl
 show za8 cx (w8 cx 0) 0 192 _ []=_
 unfold za8
 rw [e]
 rfl
noncomputable def K90:CK R1:=zt 192 z2y zcf (fun q=>mkS (zu q.1 q.2)) K38
theorem z0j:knows cx K90.S (zh cx):=zj z0t fun a q b hd h hb=>by
 obtain ⟨x,s⟩:=q
 unfold z2y at h
 split at h
 ·cases h
  unfold zcf at hb
  split at hb
  ·rename_i l hl
   simp only at hl hb
   cases hc:decide ((Lib.join l s).length≤140737488355328) <;> rw [hc] at hb
   ·cases hb
   ·cases hb
    obtain ⟨rfl,h1,h2⟩:=zjx hl
    exact z9o l s h1 (of_decide_eq_true hc)
  ·cases hb
 ·cases h
end Go.Vai
end

section
namespace Go.Vai
open Go.Proofs
def zw(b:Bool)(s:List UInt8):List UInt8:=bif b then [40]++s++[41] else s
def ym(k:Int):Int:=bif decide (k=2)||decide (k=3)||decide (k=4)||decide (k=5) then 0 else bif decide (k=6)||decide (k=7) then 1 else 2
def y8(k:Int):Int:=bif decide (k=14) then 0 else bif decide (k=15) then 1 else 2
def Sp.at(l:List (List UInt8))(i:Nat):List UInt8:=l.getD i []
mutual
def y9:T→List UInt8
 | .mk k nm kids _ _=>bif decide (k=16) then [126]++Sp.at (zcy kids 2) 0 else bif decide (k=15) then Sp.at (zcy kids 1) 0++[32,47,92,32]++Sp.at (zcy kids 2) 1
   else bif decide (k=14) then Sp.at (zcy kids 0) 0++[32,92,47,32]++Sp.at (zcy kids 1) 1 else nm
def zcy:List T→Int→List (List UInt8)
 | [],_=>[]
 | t::l,a=>zw (decide (y8 t.k<a)) (y9 t)::zcy l a
end
def wl(t:T)(a:Int):List UInt8:=zw (decide (y8 t.k<a)) (y9 t)
def v7(t:T):List UInt8:=[40]++t.nm++[61]++Sp.at t.nms 0++[41]
def zei(t:T):List UInt8:=(bif t.kids.isEmpty then [49] else [])++(t.kids.map v7).flatten
def wt(l:List T):Bool:=match l with | .mk k _ (.mk k' _ _ _ _::_) _ _::_=>decide (k=9)&&decide (k'=1) | _=>false
mutual
def Sp.bare:T→List UInt8
 | .mk k nm kids nms _=>bif decide (k=1) then nm
  else bif decide (k=2) then [92]++zu nms [32]++[46,32]++Sp.at (Sp.texts kids 0) 0
  else bif decide (k=3) then [60]++zu nms [32]++[62,32]++Sp.at (Sp.texts kids 0) 0
  else bif decide (k=4) then (bif decide (nms.length=1) then [40]++Sp.at nms 0++[32,58,32]++Sp.at (Sp.texts kids 0) 0++[41] else zw (wt kids) (Sp.at (Sp.texts kids 1) 0))++[32,45,62,32]++Sp.at (Sp.texts kids 0) 1
  else bif decide (k=5) then (bif decide (nms.length=1) then [40]++Sp.at nms 0++[32,58,32]++Sp.at (Sp.texts kids 0) 0++[41] else zw (wt kids) (Sp.at (Sp.texts kids 1) 0))++[32,42,32]++Sp.at (Sp.texts kids 0) 1
  else bif decide (k=6) then Sp.at (Sp.texts kids 1) 0++[32]++Sp.at (Sp.texts kids 2) 1
  else bif decide (k=7) then Sp.at (Sp.texts kids 1) 0++[32,64,32]++(match kids with | _::b::_=>wl b 2 | _=>[])
  else bif decide (k=8) then [40]++Sp.at (Sp.texts kids 0) 0++[44,32]++Sp.at (Sp.texts kids 0) 1++[41]
  else bif decide (k=9) then [40]++Sp.at (Sp.texts kids 0) 0++[32,58,32]++Sp.at (Sp.texts kids 0) 1++[41]
  else [91]++zap true kids++[93]
def Sp.texts:List T→Int→List (List UInt8)
 | [],_=>[]
 | t::l,a=>zw (decide (ym t.k<a)) (Sp.bare t)::Sp.texts l a
def v8:T→List UInt8
 | .mk _ _ kids _ _=>(match kids with | f::_=>zei f | _=>[])++(bif decide (kids.length=2) then [32,45,62,32]++Sp.at (Sp.texts kids 0) 1 else [])
def zap:Bool→List T→List UInt8
 | _,[]=>[]
 | b,e::l=>(bif b then [] else [44,32])++v8 e++zap false l
end
def Sp.text(t:T)(a:Int):List UInt8:=zw (decide (ym t.k<a)) (Sp.bare t)
theorem yq:∀ (l:List T) (a:Int) (i:Nat) (t:T),l[i]?=some t→Sp.at (Sp.texts l a) i=Sp.text t a
 | [],_,_,_,h=>by simp at h
 | u::l,a,0,t,h=>by simp at h; subst h; rfl
 | u::l,a,i+1,t,h=>by rw [Sp.texts]; exact yq l a i t (by simpa using h)
theorem zea:∀ (l:List T) (a:Int) (i:Nat) (t:T),l[i]?=some t→Sp.at (zcy l a) i=wl t a
 | [],_,_,_,h=>by simp at h
 | u::l,a,0,t,h=>by simp at h; subst h; rfl
 | u::l,a,i+1,t,h=>by rw [zcy]; exact zea l a i t (by simpa using h)
def zl9:List V→Option (D×Int) | [.ptr 0 0,.d x,.d (.int .i64 a)]=>some (x,a) | _=>none
theorem zgf{a:List V}{x:D}{n:Int}(h:zl9 a=some (x,n)):a=[.ptr 0 0,.d x,.d (.int .i64 n)]:=by
 unfold zl9 at h
 split at h
 ·cases h; rfl
 ·cases h
def zrh:List V→Option D | [.ptr 0 0,.d x]=>some x | _=>none
theorem zok{a:List V}{x:D}(h:zrh a=some x):a=[.ptr 0 0,.d x]:=by
 unfold zrh at h
 split at h
 ·cases h; rfl
 ·cases h
def zu3:List V→Option (D×List UInt8) | [.ptr 0 0,.d x,.d (.str s)]=>some (x,s) | _=>none
theorem zoj{a:List V}{x:D}{s}(h:zu3 a=some (x,s)):a=[.ptr 0 0,.d x,.d (.str s)]:=by
 unfold zu3 at h
 split at h
 ·cases h; rfl
 ·cases h
def z1c(m:Nat):D×Int→Option (List UInt8) | (x,a)=>zc (zg m x) fun t=>zb (Sp.right t) (some (Sp.text t a))
def ycy(m:Nat):D×Int→Option (List UInt8) | (x,a)=>zc (zg m x) fun t=>zb (Sp.form t) (some (wl t a))
def zr4(u:Bool)(L:List D)(x:D):St:=[(0,.val 1 (.ptr 1 0)),(1,.val 187695107 (.agg [bif u then .ptr 1 0 else .d .nilptr,.sl 6291457 L 2,.d (.bool false)])),(2,.tok L.length),(3,.val 5 (.d x))]
def zfc(u:Bool)(L:List D)(x:D):St:=[(0,.val 5 (.d x)),(1,.val 1 (.ptr 2 0)),(2,.val 187695107 (.agg [bif u then .ptr 2 0 else .d .nilptr,.sl 6291457 L 3,.d (.bool false)])),(3,.tok L.length)]
def psB(u:Bool)(L:List D)(x:D):St:=psS u L++[(2,.val 1 (.ptr 0 0)),(3,.val 5 (.d x))]
def psF(u:Bool)(L:List D)(x:D):St:=psS u L++[(2,.val 5 (.d x)),(3,.val 1 (.ptr 0 0))]
def zlx:St→Option (D×List D×Nat)
 | [(0,.val 1 (.ptr 1 0)),(1,.val 187695107 (.agg [.ptr 1 0,.sl 6291457 L 2,.d (.bool false)])),(2,.tok n),(3,.val 5 (.d x))]=>some (x,L,n)
 | [(0,.val 1 (.ptr 1 0)),(1,.val 187695107 (.agg [.d .nilptr,.sl 6291457 L 2,.d (.bool false)])),(2,.tok n),(3,.val 5 (.d x))]=>some (x,L,n)
 | _=>none
def znd:St→Option (D×List D×Nat)
 | [(0,.val 5 (.d x)),(1,.val 1 (.ptr 2 0)),(2,.val 187695107 (.agg [.ptr 2 0,.sl 6291457 L 3,.d (.bool false)])),(3,.tok n)]=>some (x,L,n)
 | [(0,.val 5 (.d x)),(1,.val 1 (.ptr 2 0)),(2,.val 187695107 (.agg [.d .nilptr,.sl 6291457 L 3,.d (.bool false)])),(3,.tok n)]=>some (x,L,n)
 | _=>none
def z4h:St→Option (D×List D×Nat)
 | [a,b,(2,.val 1 (.ptr 0 0)),(3,.val 5 (.d x))]=>(match psD [a,b] with | some (L,n)=>some (x,L,n) | none=>none)
 | _=>none
def z6u:St→Option (D×List D×Nat)
 | [a,b,(2,.val 5 (.d x)),(3,.val 1 (.ptr 0 0))]=>(match psD [a,b] with | some (L,n)=>some (x,L,n) | none=>none)
 | _=>none
theorem znc{σ:St}{x:D}{L:List D}{n:Nat}(h:zlx σ=some (x,L,n))(hn:Sp.fit n L=true):∃ u,σ=zr4 u L x:=by
 simp only [Sp.fit,decide_eq_true_eq] at hn
 subst hn
 unfold zlx at h
 split at h
 ·cases h; exact ⟨true,rfl⟩
 ·cases h; exact ⟨false,rfl⟩
 ·cases h
theorem ztu{σ:St}{x:D}{L:List D}{n:Nat}(h:znd σ=some (x,L,n))(hn:Sp.fit n L=true):∃ u,σ=zfc u L x:=by
 simp only [Sp.fit,decide_eq_true_eq] at hn
 subst hn
 unfold znd at h
 split at h
 ·cases h; exact ⟨true,rfl⟩
 ·cases h; exact ⟨false,rfl⟩
 ·cases h
theorem zqa{σ:St}{x:D}{L:List D}{n:Nat}(h:z4h σ=some (x,L,n))(hn:Sp.fit n L=true):∃ u,σ=psB u L x:=by
 unfold z4h at h
 split at h
 ·split at h
  ·rename_i hp
   cases h
   obtain ⟨u,hu⟩:=zc5 hp hn
   refine ⟨u,?_⟩
   unfold psB
   rw [←hu]
   rfl
  ·cases h
 ·cases h
theorem zy5{σ:St}{x:D}{L:List D}{n:Nat}(h:z6u σ=some (x,L,n))(hn:Sp.fit n L=true):∃ u,σ=psF u L x:=by
 unfold z6u at h
 split at h
 ·split at h
  ·rename_i hp
   cases h
   obtain ⟨u,hu⟩:=zc5 hp hn
   refine ⟨u,?_⟩
   unfold psF
   rw [←hu]
   rfl
  ·cases h
 ·cases h
def clK(f:Nat)(dec:List V→Option Bool)(pd:St→Option (D×List D×Nat))(ps:Bool→List D→D→St)(sp:Bool→D→Option (List UInt8))(S:CK R1):CK R1:=
 more f (fun a σ=>match dec a,pd σ with | some b,some p=>some (b,p) | _,_=>none)
  (fun K q=>match q with | (b,x,L,n)=>zc (sp b x) fun s=>zb (Sp.fit n L) (zb (Sp.room L s) (K (.ret (.tup [])) (ps true (Sp.app L s) x))))
  (fun K q=>by
   obtain ⟨b,x,L,n⟩:=q
   simp only
   rw [za1]
   congr 1
   funext s
   simp only [zb,vh]
   rfl) S
theorem zd0{f:Nat}{dec:List V→Option Bool}{pd:St→Option (D×List D×Nat)}{ps:Bool→List D→D→St}{sp:Bool→D→Option (List UInt8)}{S:CK R1}(hS:knows cx S.S (zh cx))
  (hp:∀ {σ x L n},pd σ=some (x,L,n)→Sp.fit n L=true→∃ u,σ=ps u L x)
  (hf:∀ a b x s u L,dec a=some b→sp b x=some s→Sp.room L s=true→zh cx f a (ps u L x)=some (.ret (.tup []),ps true (Sp.app L s) x)):knows cx (clK f dec pd ps sp S).S (zh cx):=
 v6 hS fun a σ q r hd h=>by
  obtain ⟨b,x,L,n⟩:=q
  simp only at hd h
  split at hd
  ·rename_i b' p hb hpd
   cases hd
   obtain ⟨s,hs,h⟩:=zd h
   obtain ⟨h1,h⟩:=ze h
   obtain ⟨h2,h⟩:=ze h
   cases h
   obtain ⟨u,rfl⟩:=hp hpd h1
   exact hf a b x s u L hb hs h2
  ·cases hd
def zmc:List V→Option Bool | [.ptr 0 0,.ptr 3 0]=>some true | _=>none
def zoo:List V→Option Bool | [.ptr 0 0,.ptr 1 0]=>some true | _=>none
def zu7(g:Nat):List V→Option Bool | [.ptr 0 0,.d (.bool b),.func f [.ptr 2 0,.ptr 3 0]]=>bif Nat.beq f g then some b else none | _=>none
theorem zon{a:List V}{b}(h:zmc a=some b):a=[.ptr 0 0,.ptr 3 0]:=by
 unfold zmc at h
 split at h
 ·rfl
 ·cases h
theorem zu9{a:List V}{b}(h:zoo a=some b):a=[.ptr 0 0,.ptr 1 0]:=by
 unfold zoo at h
 split at h
 ·rfl
 ·cases h
theorem zi6{g:Nat}{a:List V}{b}(h:zu7 g a=some b):a=[.ptr 0 0,.d (.bool b),.func g [.ptr 2 0,.ptr 3 0]]:=by
 unfold zu7 at h
 split at h
 ·rename_i b' f
  cases hc:Nat.beq f g <;> rw [hc] at h
  ·cases h
  ·obtain rfl:=Nat.eq_of_beq_eq_true hc
   cases h; rfl
 ·cases h
def z2z:List V→Option Int | [.d (.int .i64 a)]=>some a | _=>none
noncomputable def K91:CK R1:=zt 161 vj Sp.toC (fun t=>mkI (ym t.k)) (zt 217 z2z some (fun k=>mkI (y8 k)) K90)
end Go.Vai
end

section
namespace Go.Vai
open Go.Proofs
def zds(t:T):Bool:=Sp.right t&&(decide (t.k=4)||decide (t.k=5))
def zdr(t:T):Bool:=Sp.right t&&(decide (t.k=8)||decide (t.k=9))
def zbl(t:T):Bool:=Sp.right t&&decide (t.k=10)
def zej:T→List UInt8→List UInt8 | .mk _ _ kids nms _,s=>(bif decide (nms.length=1) then [40]++Sp.at nms 0++[32,58,32]++Sp.at (Sp.texts kids 0) 0++[41] else zw (wt kids) (Sp.at (Sp.texts kids 1) 0))++s++Sp.at (Sp.texts kids 0) 1
def zeg:T→List UInt8→List UInt8 | .mk _ _ kids _ _,s=>[40]++Sp.at (Sp.texts kids 0) 0++s++Sp.at (Sp.texts kids 0) 1++[41]
def zcz:T→List UInt8 | .mk _ _ kids _ _=>[91]++zap true kids++[93]
def ycz(m:Nat):D×List UInt8→Option (List UInt8) | (x,s)=>zc (zg m x) fun t=>zb (zds t) (some (zej t s))
def z9b(m:Nat):D×List UInt8→Option (List UInt8) | (x,s)=>zc (zg m x) fun t=>zb (zdr t) (some (zeg t s))
def z9a(m:Nat)(x:D):Option (List UInt8):=zc (zg m x) fun t=>zb (zbl t) (some (zcz t))
def zyz(m:Nat)(x:D):Option (List UInt8):=zc (zg m x) fun t=>zb (Sp.right t) (some (Sp.bare t))
noncomputable def z5r:D×Int→Option (List UInt8) | (x,a)=>zc (Sp.toC x) fun t=>zb (Sp.form t) (some (wl t a))
def zxq(m:Nat)(x:D):Option (List UInt8):=zc (zg m x) fun t=>zb (Sp.form t) (some (y9 t))
noncomputable def KT(m:Nat):CK R1:=prK 128 zl9 (z1c m) K91
noncomputable def KM(m:Nat):CK R1:=prK 194 zl9 (ycy m) K91
noncomputable def yck(m:Nat):CK R1:=clK 160 (zu7 218) z6u psF (fun b x=>zc (zxq m x) fun s=>some (zw b s)) K91
noncomputable def ycl(m:Nat):CK R1:=clK 160 (zu7 216) z4h psB (fun b x=>zc (z1c m (x,1)) fun s=>some (zw b s)) (KT m)
noncomputable def K70(m:Nat):CK R1:=clK 160 (zu7 162) z4h psB (fun b x=>zc (zyz m x) fun s=>some (zw b s)) K91
noncomputable def K71(m:Nat):CK R1:=prK 193 zu3 (ycz (m+1)) (prK 195 zu3 (z9b (m+1)) (prK 196 zrh (z9a (m+1)) (prK 194 zl9 z5r (KT m))))
end Go.Vai
end

section
namespace Go.Vai
open Go.Proofs
theorem g69(n:Nat)(k:Int)(nm:List UInt8)(kids:List T)(nms:List (List UInt8))(pl:Int):zk cx (CK.plain zm) n 161 [.d (.agg [.int .i64 k,.str nm,.sl 5 (T.ds kids),.sl 1 (nms.map .str),.int .i64 pl])] []=bif decide (k=(2:Int)) then bif decide (k=(2:Int)) then some (Out.ret (V.d (D.int .i64 (0:Int))),[]) else bif decide (k=(6:Int)) then bif decide (k=(6:Int)) then some (Out.ret (V.d (D.int .i64 (1:Int))),[]) else some (Out.ret (V.d (D.int .i64 (2:Int))),[]) else bif decide (k=(7:Int)) then some (Out.ret (V.d (D.int .i64 (1:Int))),[]) else some (Out.ret (V.d (D.int .i64 (2:Int))),[]) else bif decide (k=(3:Int)) then bif decide (k=(3:Int)) then some (Out.ret (V.d (D.int .i64 (0:Int))),[]) else bif decide (k=(6:Int)) then bif decide (k=(6:Int)) then some (Out.ret (V.d (D.int .i64 (1:Int))),[]) else some (Out.ret (V.d (D.int .i64 (2:Int))),[]) else bif decide (k=(7:Int)) then some (Out.ret (V.d (D.int .i64 (1:Int))),[]) else some (Out.ret (V.d (D.int .i64 (2:Int))),[]) else bif decide (k=(4:Int)) then bif decide (k=(4:Int)) then some (Out.ret (V.d (D.int .i64 (0:Int))),[]) else bif decide (k=(6:Int)) then bif decide (k=(6:Int)) then some (Out.ret (V.d (D.int .i64 (1:Int))),[]) else some (Out.ret (V.d (D.int .i64 (2:Int))),[]) else bif decide (k=(7:Int)) then some (Out.ret (V.d (D.int .i64 (1:Int))),[]) else some (Out.ret (V.d (D.int .i64 (2:Int))),[]) else bif decide (k=(5:Int)) then some (Out.ret (V.d (D.int .i64 (0:Int))),[]) else bif decide (k=(6:Int)) then bif decide (k=(6:Int)) then some (Out.ret (V.d (D.int .i64 (1:Int))),[]) else some (Out.ret (V.d (D.int .i64 (2:Int))),[]) else bif decide (k=(7:Int)) then some (Out.ret (V.d (D.int .i64 (1:Int))),[]) else some (Out.ret (V.d (D.int .i64 (2:Int))),[]):=by kernel_rfl
theorem ydo(n:Nat)(k:Int):zk cx (CK.plain zm) n 217 [.d (.int .i64 k)] []=bif decide (k=(14:Int)) then some (Out.ret (V.d (D.int .i64 (0:Int))),[]) else bif decide (k=(15:Int)) then some (Out.ret (V.d (D.int .i64 (1:Int))),[]) else some (Out.ret (V.d (D.int .i64 (2:Int))),[]):=by kernel_rfl
theorem ybi(n m:Nat)(L:List D)(u:Bool)(k:Int)(nm:List UInt8)(kids:List T)(nms:List (List UInt8))(pl:Int):zk cx (KM m) n 218 [.ptr 0 0,.ptr 1 0] (zfc u L (.agg [.int .i64 k,.str nm,.sl 5 (T.ds kids),.sl 1 (nms.map .str),.int .i64 pl]))=bif decide (k=(16:Int)) then zb (Sp.fit L.length L) (zb (Sp.room L [126]) (zb (decide ((0:Int)<(↑(T.ds kids).length:Int))) (za (T.ds kids) (0:Int).toNat fun y=>za y.cells 0 fun c=>za y.cells 1 fun c_1=>za y.cells 2 fun c_2=>za y.cells 3 fun c_3=>za y.cells 4 fun c_4=>zc (zc (zg m (D.agg [c,c_1,c_2,c_3,c_4])) fun t=>zb (Sp.form t) (some (wl t (2:Int)))) fun s=>zb (Sp.fit (Sp.app L [126]).length (Sp.app L [126])) (zb (Sp.room (Sp.app L [126]) s) (some (Out.ret (V.tup []),[(0,Ob.val 5 (V.d (D.agg [D.int .i64 k,D.str nm,D.sl 5 (T.ds kids),D.sl 1 (List.map D.str nms),D.int .i64 pl]))),(1,Ob.val 1 (V.ptr 2 0)),(2,Ob.val 187695107 (V.agg [V.ptr 2 0,V.sl 6291457 (Sp.app (Sp.app L [126]) s) 3,V.d (D.bool false)])),(3,Ob.tok (Sp.app (Sp.app L [126]) s).length)])))))) else bif decide (k=(15:Int)) then zb (decide ((0:Int)<(↑(T.ds kids).length:Int))) (za (T.ds kids) (0:Int).toNat fun y=>za y.cells 0 fun c=>za y.cells 1 fun c_1=>za y.cells 2 fun c_2=>za y.cells 3 fun c_3=>za y.cells 4 fun c_4=>zc (zc (zg m (D.agg [c,c_1,c_2,c_3,c_4])) fun t=>zb (Sp.form t) (some (wl t (1:Int)))) fun s=>zb (Sp.fit L.length L) (zb (Sp.room L s) (zb (Sp.fit (Sp.app L s).length (Sp.app L s)) (zb (Sp.room (Sp.app L s) [32,47,92,32]) (zb (decide ((1:Int)<(↑(T.ds kids).length:Int))) (za (T.ds kids) (1:Int).toNat fun y=>za y.cells 0 fun c=>za y.cells 1 fun c_5=>za y.cells 2 fun c_6=>za y.cells 3 fun c_7=>za y.cells 4 fun c_8=>zc (zc (zg m (D.agg [c,c_5,c_6,c_7,c_8])) fun t=>zb (Sp.form t) (some (wl t (2:Int)))) fun s_1=>zb (Sp.fit (Sp.app (Sp.app L s) [32,47,92,32]).length (Sp.app (Sp.app L s) [32,47,92,32])) (zb (Sp.room (Sp.app (Sp.app L s) [32,47,92,32]) s_1) (some (Out.ret (V.tup []),[(0,Ob.val 5 (V.d (D.agg [D.int .i64 k,D.str nm,D.sl 5 (T.ds kids),D.sl 1 (List.map D.str nms),D.int .i64 pl]))),(1,Ob.val 1 (V.ptr 2 0)),(2,Ob.val 187695107 (V.agg [V.ptr 2 0,V.sl 6291457 (Sp.app (Sp.app (Sp.app L s) [32,47,92,32]) s_1) 3,V.d (D.bool false)])),(3,Ob.tok (Sp.app (Sp.app (Sp.app L s) [32,47,92,32]) s_1).length)]))))))))) else bif decide (k=(14:Int)) then zb (decide ((0:Int)<(↑(T.ds kids).length:Int))) (za (T.ds kids) (0:Int).toNat fun y=>za y.cells 0 fun c=>za y.cells 1 fun c_1=>za y.cells 2 fun c_2=>za y.cells 3 fun c_3=>za y.cells 4 fun c_4=>zc (zc (zg m (D.agg [c,c_1,c_2,c_3,c_4])) fun t=>zb (Sp.form t) (some (wl t (0:Int)))) fun s=>zb (Sp.fit L.length L) (zb (Sp.room L s) (zb (Sp.fit (Sp.app L s).length (Sp.app L s)) (zb (Sp.room (Sp.app L s) [32,92,47,32]) (zb (decide ((1:Int)<(↑(T.ds kids).length:Int))) (za (T.ds kids) (1:Int).toNat fun y=>za y.cells 0 fun c=>za y.cells 1 fun c_5=>za y.cells 2 fun c_6=>za y.cells 3 fun c_7=>za y.cells 4 fun c_8=>zc (zc (zg m (D.agg [c,c_5,c_6,c_7,c_8])) fun t=>zb (Sp.form t) (some (wl t (1:Int)))) fun s_1=>zb (Sp.fit (Sp.app (Sp.app L s) [32,92,47,32]).length (Sp.app (Sp.app L s) [32,92,47,32])) (zb (Sp.room (Sp.app (Sp.app L s) [32,92,47,32]) s_1) (some (Out.ret (V.tup []),[(0,Ob.val 5 (V.d (D.agg [D.int .i64 k,D.str nm,D.sl 5 (T.ds kids),D.sl 1 (List.map D.str nms),D.int .i64 pl]))),(1,Ob.val 1 (V.ptr 2 0)),(2,Ob.val 187695107 (V.agg [V.ptr 2 0,V.sl 6291457 (Sp.app (Sp.app (Sp.app L s) [32,92,47,32]) s_1) 3,V.d (D.bool false)])),(3,Ob.tok (Sp.app (Sp.app (Sp.app L s) [32,92,47,32]) s_1).length)]))))))))) else zb (Sp.fit L.length L) (zb (Sp.room L (nm++[])) (some (Out.ret (V.tup []),[(0,Ob.val 5 (V.d (D.agg [D.int .i64 k,D.str nm,D.sl 5 (T.ds kids),D.sl 1 (List.map D.str nms),D.int .i64 pl]))),(1,Ob.val 1 (V.ptr 2 0)),(2,Ob.val 187695107 (V.agg [V.ptr 2 0,V.sl 6291457 (Sp.app L (nm++[])) 3,V.d (D.bool false)])),(3,Ob.tok (Sp.app L (nm++[])).length)]))):=by cases u <;> kernel_rfl
theorem ydg(n m:Nat)(L:List D)(u:Bool)(k:Int)(nm:List UInt8)(kids:List T)(nms:List (List UInt8))(pl:Int):zk cx (prK 163 zrh (zyz m) K91) n 162 [.ptr 0 0,.ptr 3 0] (zr4 u L (.agg [.int .i64 k,.str nm,.sl 5 (T.ds kids),.sl 1 (nms.map .str),.int .i64 pl]))=zc (zc (zg m (D.agg [D.int .i64 k,D.str nm,D.sl 5 (T.ds kids),D.sl 1 (List.map D.str nms),D.int .i64 pl])) fun t=>zb (Sp.right t) (some (Sp.bare t))) fun s=>zb (Sp.fit L.length L) (zb (Sp.room L s) (some (Out.ret (V.tup []),[(0,Ob.val 1 (V.ptr 1 0)),(1,Ob.val 187695107 (V.agg [V.ptr 1 0,V.sl 6291457 (Sp.app L s) 2,V.d (D.bool false)])),(2,Ob.tok (Sp.app L s).length),(3,Ob.val 5 (V.d (D.agg [D.int .i64 k,D.str nm,D.sl 5 (T.ds kids),D.sl 1 (List.map D.str nms),D.int .i64 pl])))]))):=by cases u <;> kernel_rfl
theorem ybj(n m:Nat)(L:List D)(u:Bool)(k:Int)(nm:List UInt8)(kids:List T)(nms:List (List UInt8))(pl:Int):zk cx (KT m) n 216 [.ptr 0 0,.ptr 3 0] (zr4 u L (.agg [.int .i64 k,.str nm,.sl 5 (T.ds kids),.sl 1 (nms.map .str),.int .i64 pl]))=zc (zc (zg m (D.agg [D.int .i64 k,D.str nm,D.sl 5 (T.ds kids),D.sl 1 (List.map D.str nms),D.int .i64 pl])) fun t=>zb (Sp.right t) (some (Sp.text t (1:Int)))) fun s=>zb (Sp.fit L.length L) (zb (Sp.room L s) (some (Out.ret (V.tup []),[(0,Ob.val 1 (V.ptr 1 0)),(1,Ob.val 187695107 (V.agg [V.ptr 1 0,V.sl 6291457 (Sp.app L s) 2,V.d (D.bool false)])),(2,Ob.tok (Sp.app L s).length),(3,Ob.val 5 (V.d (D.agg [D.int .i64 k,D.str nm,D.sl 5 (T.ds kids),D.sl 1 (List.map D.str nms),D.int .i64 pl])))]))):=by cases u <;> kernel_rfl
theorem ydc(n m:Nat)(L:List D)(u:Bool)(k:Int)(nm:List UInt8)(kids:List T)(nms:List (List UInt8))(pl:Int)(s:List UInt8):zk cx (KT m) n 195 [.ptr 0 0,.d (.agg [.int .i64 k,.str nm,.sl 5 (T.ds kids),.sl 1 (nms.map .str),.int .i64 pl]),.d (.str s)] (psS u L)=zb (Sp.fit L.length L) (zb (Sp.room L [40]) (zb (decide ((0:Int)<(↑(T.ds kids).length:Int))) (za (T.ds kids) (0:Int).toNat fun y=>za y.cells 0 fun c=>za y.cells 1 fun c_1=>za y.cells 2 fun c_2=>za y.cells 3 fun c_3=>za y.cells 4 fun c_4=>zc (zc (zg m (D.agg [c,c_1,c_2,c_3,c_4])) fun t=>zb (Sp.right t) (some (Sp.text t (0:Int)))) fun s_1=>zb (Sp.fit (Sp.app L [40]).length (Sp.app L [40])) (zb (Sp.room (Sp.app L [40]) s_1) (zb (Sp.fit (Sp.app (Sp.app L [40]) s_1).length (Sp.app (Sp.app L [40]) s_1)) (zb (Sp.room (Sp.app (Sp.app L [40]) s_1) (s++[])) (zb (decide ((1:Int)<(↑(T.ds kids).length:Int))) (za (T.ds kids) (1:Int).toNat fun y=>za y.cells 0 fun c=>za y.cells 1 fun c_5=>za y.cells 2 fun c_6=>za y.cells 3 fun c_7=>za y.cells 4 fun c_8=>zc (zc (zg m (D.agg [c,c_5,c_6,c_7,c_8])) fun t=>zb (Sp.right t) (some (Sp.text t (0:Int)))) fun s_2=>zb (Sp.fit (Sp.app (Sp.app (Sp.app L [40]) s_1) (s++[])).length (Sp.app (Sp.app (Sp.app L [40]) s_1) (s++[]))) (zb (Sp.room (Sp.app (Sp.app (Sp.app L [40]) s_1) (s++[])) s_2) (zb (Sp.fit (Sp.app (Sp.app (Sp.app (Sp.app L [40]) s_1) (s++[])) s_2).length (Sp.app (Sp.app (Sp.app (Sp.app L [40]) s_1) (s++[])) s_2)) (zb (Sp.room (Sp.app (Sp.app (Sp.app (Sp.app L [40]) s_1) (s++[])) s_2) [41]) (some (Out.ret (V.tup []),[(0,Ob.val 187695107 (V.agg [V.ptr 0 0,V.sl 6291457 (Sp.app (Sp.app (Sp.app (Sp.app (Sp.app L [40]) s_1) (s++[])) s_2) [41]) 1,V.d (D.bool false)])),(1,Ob.tok (Sp.app (Sp.app (Sp.app (Sp.app (Sp.app L [40]) s_1) (s++[])) s_2) [41]).length)]))))))))))))):=by cases u <;> kernel_rfl
theorem ya8(n m:Nat)(L:List D)(u:Bool)(k:Int)(nm:List UInt8)(kids:List T)(nms:List (List UInt8))(pl:Int)(b:Bool):zk cx (clK 162 zmc zlx zr4 (fun _ x=>zyz m x) K91) n 160 [.ptr 0 0,.d (.bool b),.func 162 [.ptr 2 0,.ptr 3 0]] (psB u L (.agg [.int .i64 k,.str nm,.sl 5 (T.ds kids),.sl 1 (nms.map .str),.int .i64 pl]))=bif b then zb (Sp.fit L.length L) (zb (Sp.room L [40]) (zc (zc (zg m (D.agg [D.int .i64 k,D.str nm,D.sl 5 (T.ds kids),D.sl 1 (List.map D.str nms),D.int .i64 pl])) fun t=>zb (Sp.right t) (some (Sp.bare t))) fun s=>zb (Sp.fit (Sp.app L [40]).length (Sp.app L [40])) (zb (Sp.room (Sp.app L [40]) s) (bif b then zb (Sp.fit (Sp.app (Sp.app L [40]) s).length (Sp.app (Sp.app L [40]) s)) (zb (Sp.room (Sp.app (Sp.app L [40]) s) [41]) (some (Out.ret (V.tup []),[(0,Ob.val 187695107 (V.agg [V.ptr 0 0,V.sl 6291457 (Sp.app (Sp.app (Sp.app L [40]) s) [41]) 1,V.d (D.bool false)])),(1,Ob.tok (Sp.app (Sp.app (Sp.app L [40]) s) [41]).length),(2,Ob.val 1 (V.ptr 0 0)),(3,Ob.val 5 (V.d (D.agg [D.int .i64 k,D.str nm,D.sl 5 (T.ds kids),D.sl 1 (List.map D.str nms),D.int .i64 pl])))]))) else some (Out.ret (V.tup []),[(0,Ob.val 187695107 (V.agg [V.ptr 0 0,V.sl 6291457 (Sp.app (Sp.app L [40]) s) 1,V.d (D.bool false)])),(1,Ob.tok (Sp.app (Sp.app L [40]) s).length),(2,Ob.val 1 (V.ptr 0 0)),(3,Ob.val 5 (V.d (D.agg [D.int .i64 k,D.str nm,D.sl 5 (T.ds kids),D.sl 1 (List.map D.str nms),D.int .i64 pl])))]))))) else zc (zc (zg m (D.agg [D.int .i64 k,D.str nm,D.sl 5 (T.ds kids),D.sl 1 (List.map D.str nms),D.int .i64 pl])) fun t=>zb (Sp.right t) (some (Sp.bare t))) fun s=>zb (Sp.fit L.length L) (zb (Sp.room L s) (bif b then zb (Sp.fit (Sp.app L s).length (Sp.app L s)) (zb (Sp.room (Sp.app L s) [41]) (some (Out.ret (V.tup []),[(0,Ob.val 187695107 (V.agg [V.ptr 0 0,V.sl 6291457 (Sp.app (Sp.app L s) [41]) 1,V.d (D.bool false)])),(1,Ob.tok (Sp.app (Sp.app L s) [41]).length),(2,Ob.val 1 (V.ptr 0 0)),(3,Ob.val 5 (V.d (D.agg [D.int .i64 k,D.str nm,D.sl 5 (T.ds kids),D.sl 1 (List.map D.str nms),D.int .i64 pl])))]))) else some (Out.ret (V.tup []),[(0,Ob.val 187695107 (V.agg [V.ptr 0 0,V.sl 6291457 (Sp.app L s) 1,V.d (D.bool false)])),(1,Ob.tok (Sp.app L s).length),(2,Ob.val 1 (V.ptr 0 0)),(3,Ob.val 5 (V.d (D.agg [D.int .i64 k,D.str nm,D.sl 5 (T.ds kids),D.sl 1 (List.map D.str nms),D.int .i64 pl])))]))):=by cases u <;> kernel_rfl
theorem ya7(n m:Nat)(L:List D)(u:Bool)(k:Int)(nm:List UInt8)(kids:List T)(nms:List (List UInt8))(pl:Int)(b:Bool):zk cx (clK 216 zmc zlx zr4 (fun _ x=>z1c m (x,1)) K91) n 160 [.ptr 0 0,.d (.bool b),.func 216 [.ptr 2 0,.ptr 3 0]] (psB u L (.agg [.int .i64 k,.str nm,.sl 5 (T.ds kids),.sl 1 (nms.map .str),.int .i64 pl]))=bif b then zb (Sp.fit L.length L) (zb (Sp.room L [40]) (zc (zc (zg m (D.agg [D.int .i64 k,D.str nm,D.sl 5 (T.ds kids),D.sl 1 (List.map D.str nms),D.int .i64 pl])) fun t=>zb (Sp.right t) (some (Sp.text t 1))) fun s=>zb (Sp.fit (Sp.app L [40]).length (Sp.app L [40])) (zb (Sp.room (Sp.app L [40]) s) (bif b then zb (Sp.fit (Sp.app (Sp.app L [40]) s).length (Sp.app (Sp.app L [40]) s)) (zb (Sp.room (Sp.app (Sp.app L [40]) s) [41]) (some (Out.ret (V.tup []),[(0,Ob.val 187695107 (V.agg [V.ptr 0 0,V.sl 6291457 (Sp.app (Sp.app (Sp.app L [40]) s) [41]) 1,V.d (D.bool false)])),(1,Ob.tok (Sp.app (Sp.app (Sp.app L [40]) s) [41]).length),(2,Ob.val 1 (V.ptr 0 0)),(3,Ob.val 5 (V.d (D.agg [D.int .i64 k,D.str nm,D.sl 5 (T.ds kids),D.sl 1 (List.map D.str nms),D.int .i64 pl])))]))) else some (Out.ret (V.tup []),[(0,Ob.val 187695107 (V.agg [V.ptr 0 0,V.sl 6291457 (Sp.app (Sp.app L [40]) s) 1,V.d (D.bool false)])),(1,Ob.tok (Sp.app (Sp.app L [40]) s).length),(2,Ob.val 1 (V.ptr 0 0)),(3,Ob.val 5 (V.d (D.agg [D.int .i64 k,D.str nm,D.sl 5 (T.ds kids),D.sl 1 (List.map D.str nms),D.int .i64 pl])))]))))) else zc (zc (zg m (D.agg [D.int .i64 k,D.str nm,D.sl 5 (T.ds kids),D.sl 1 (List.map D.str nms),D.int .i64 pl])) fun t=>zb (Sp.right t) (some (Sp.text t 1))) fun s=>zb (Sp.fit L.length L) (zb (Sp.room L s) (bif b then zb (Sp.fit (Sp.app L s).length (Sp.app L s)) (zb (Sp.room (Sp.app L s) [41]) (some (Out.ret (V.tup []),[(0,Ob.val 187695107 (V.agg [V.ptr 0 0,V.sl 6291457 (Sp.app (Sp.app L s) [41]) 1,V.d (D.bool false)])),(1,Ob.tok (Sp.app (Sp.app L s) [41]).length),(2,Ob.val 1 (V.ptr 0 0)),(3,Ob.val 5 (V.d (D.agg [D.int .i64 k,D.str nm,D.sl 5 (T.ds kids),D.sl 1 (List.map D.str nms),D.int .i64 pl])))]))) else some (Out.ret (V.tup []),[(0,Ob.val 187695107 (V.agg [V.ptr 0 0,V.sl 6291457 (Sp.app L s) 1,V.d (D.bool false)])),(1,Ob.tok (Sp.app L s).length),(2,Ob.val 1 (V.ptr 0 0)),(3,Ob.val 5 (V.d (D.agg [D.int .i64 k,D.str nm,D.sl 5 (T.ds kids),D.sl 1 (List.map D.str nms),D.int .i64 pl])))]))):=by cases u <;> kernel_rfl
theorem ya6(n m:Nat)(L:List D)(u:Bool)(k:Int)(nm:List UInt8)(kids:List T)(nms:List (List UInt8))(pl:Int)(b:Bool):zk cx (clK 218 zoo znd zfc (fun _ x=>zxq m x) K91) n 160 [.ptr 0 0,.d (.bool b),.func 218 [.ptr 2 0,.ptr 3 0]] (psF u L (.agg [.int .i64 k,.str nm,.sl 5 (T.ds kids),.sl 1 (nms.map .str),.int .i64 pl]))=bif b then zb (Sp.fit L.length L) (zb (Sp.room L [40]) (zc (zc (zg m (D.agg [D.int .i64 k,D.str nm,D.sl 5 (T.ds kids),D.sl 1 (List.map D.str nms),D.int .i64 pl])) fun t=>zb (Sp.form t) (some (y9 t))) fun s=>zb (Sp.fit (Sp.app L [40]).length (Sp.app L [40])) (zb (Sp.room (Sp.app L [40]) s) (bif b then zb (Sp.fit (Sp.app (Sp.app L [40]) s).length (Sp.app (Sp.app L [40]) s)) (zb (Sp.room (Sp.app (Sp.app L [40]) s) [41]) (some (Out.ret (V.tup []),[(0,Ob.val 187695107 (V.agg [V.ptr 0 0,V.sl 6291457 (Sp.app (Sp.app (Sp.app L [40]) s) [41]) 1,V.d (D.bool false)])),(1,Ob.tok (Sp.app (Sp.app (Sp.app L [40]) s) [41]).length),(2,Ob.val 5 (V.d (D.agg [D.int .i64 k,D.str nm,D.sl 5 (T.ds kids),D.sl 1 (List.map D.str nms),D.int .i64 pl]))),(3,Ob.val 1 (V.ptr 0 0))]))) else some (Out.ret (V.tup []),[(0,Ob.val 187695107 (V.agg [V.ptr 0 0,V.sl 6291457 (Sp.app (Sp.app L [40]) s) 1,V.d (D.bool false)])),(1,Ob.tok (Sp.app (Sp.app L [40]) s).length),(2,Ob.val 5 (V.d (D.agg [D.int .i64 k,D.str nm,D.sl 5 (T.ds kids),D.sl 1 (List.map D.str nms),D.int .i64 pl]))),(3,Ob.val 1 (V.ptr 0 0))]))))) else zc (zc (zg m (D.agg [D.int .i64 k,D.str nm,D.sl 5 (T.ds kids),D.sl 1 (List.map D.str nms),D.int .i64 pl])) fun t=>zb (Sp.form t) (some (y9 t))) fun s=>zb (Sp.fit L.length L) (zb (Sp.room L s) (bif b then zb (Sp.fit (Sp.app L s).length (Sp.app L s)) (zb (Sp.room (Sp.app L s) [41]) (some (Out.ret (V.tup []),[(0,Ob.val 187695107 (V.agg [V.ptr 0 0,V.sl 6291457 (Sp.app (Sp.app L s) [41]) 1,V.d (D.bool false)])),(1,Ob.tok (Sp.app (Sp.app L s) [41]).length),(2,Ob.val 5 (V.d (D.agg [D.int .i64 k,D.str nm,D.sl 5 (T.ds kids),D.sl 1 (List.map D.str nms),D.int .i64 pl]))),(3,Ob.val 1 (V.ptr 0 0))]))) else some (Out.ret (V.tup []),[(0,Ob.val 187695107 (V.agg [V.ptr 0 0,V.sl 6291457 (Sp.app L s) 1,V.d (D.bool false)])),(1,Ob.tok (Sp.app L s).length),(2,Ob.val 5 (V.d (D.agg [D.int .i64 k,D.str nm,D.sl 5 (T.ds kids),D.sl 1 (List.map D.str nms),D.int .i64 pl]))),(3,Ob.val 1 (V.ptr 0 0))]))):=by cases u <;> kernel_rfl
theorem ydd(n m:Nat)(L:List D)(u:Bool)(k:Int)(nm:List UInt8)(kids:List T)(nms:List (List UInt8))(pl a:Int):zk cx (yck m) n 194 [.ptr 0 0,.d (.agg [.int .i64 k,.str nm,.sl 5 (T.ds kids),.sl 1 (nms.map .str),.int .i64 pl]),.d (.int .i64 a)] (psS u L)=zc (zc (zc (zg m (D.agg [D.int .i64 k,D.str nm,D.sl 5 (T.ds kids),D.sl 1 (List.map D.str nms),D.int .i64 pl])) fun t=>zb (Sp.form t) (some (y9 t))) fun s=>some (zw (decide (y8 k<a)) s)) fun s=>zb (Sp.fit L.length L) (zb (Sp.room L s) (some (Out.ret (V.tup []),[(0,Ob.val 187695107 (V.agg [V.ptr 0 0,V.sl 6291457 (Sp.app L s) 1,V.d (D.bool false)])),(1,Ob.tok (Sp.app L s).length)]))):=by cases u <;> kernel_rfl
theorem ydm(n m:Nat)(L:List D)(u:Bool)(k:Int)(nm:List UInt8)(kids:List T)(nms:List (List UInt8))(pl a:Int):zk cx (K70 m) n 128 [.ptr 0 0,.d (.agg [.int .i64 k,.str nm,.sl 5 (T.ds kids),.sl 1 (nms.map .str),.int .i64 pl]),.d (.int .i64 a)] (psS u L)=zc (Sp.toC (D.agg [D.int .i64 k,D.str nm,D.sl 5 (T.ds kids),D.sl 1 (List.map D.str nms),D.int .i64 pl])) fun b=>zc (zc (zc (zg m (D.agg [D.int .i64 k,D.str nm,D.sl 5 (T.ds kids),D.sl 1 (List.map D.str nms),D.int .i64 pl])) fun t=>zb (Sp.right t) (some (Sp.bare t))) fun s=>some (zw (decide (ym b.k<a)) s)) fun s=>zb (Sp.fit L.length L) (zb (Sp.room L s) (some (Out.ret (V.tup []),[(0,Ob.val 187695107 (V.agg [V.ptr 0 0,V.sl 6291457 (Sp.app L s) 1,V.d (D.bool false)])),(1,Ob.tok (Sp.app L s).length)]))):=by cases u <;> kernel_rfl
theorem yde(n m:Nat)(L:List D)(u:Bool)(k:Int)(nm:List UInt8)(kids:List T)(nms:List (List UInt8))(pl:Int)(s:List UInt8):zk cx (ycl m) n 193 [.ptr 0 0,.d (.agg [.int .i64 k,.str nm,.sl 5 (T.ds kids),.sl 1 (nms.map .str),.int .i64 pl]),.d (.str s)] (psS u L)=zb (decide ((0:Int)<(↑(T.ds kids).length:Int))) (za (T.ds kids) (0:Int).toNat fun y=>za y.cells 0 fun c=>za y.cells 1 fun c_1=>za y.cells 2 fun c_2=>za y.cells 3 fun c_3=>za y.cells 4 fun c_4=>bif decide ((↑(List.map D.str nms).length:Int)=(1:Int)) then zb (decide ((0:Int)<(↑(List.map D.str nms).length:Int))) (za (List.map D.str nms) (0:Int).toNat fun y=>za y.cells 0 fun c_5=>match c_5 with
 | D.str s_1=>zb (Sp.fit L.length L) (zb (Sp.room L (40::(s_1++([32,58,32]++[])))) (zc (zc (zg m (D.agg [c,c_1,c_2,c_3,c_4])) fun t=>zb (Sp.right t) (some (Sp.text t (0:Int)))) fun s_2=>zb (Sp.fit (Sp.app L (40::(s_1++([32,58,32]++[])))).length (Sp.app L (40::(s_1++([32,58,32]++[]))))) (zb (Sp.room (Sp.app L (40::(s_1++([32,58,32]++[])))) s_2) (zb (Sp.fit (Sp.app (Sp.app L (40::(s_1++([32,58,32]++[])))) s_2).length (Sp.app (Sp.app L (40::(s_1++([32,58,32]++[])))) s_2)) (zb (Sp.room (Sp.app (Sp.app L (40::(s_1++([32,58,32]++[])))) s_2) [41]) (zb (Sp.fit (Sp.app (Sp.app (Sp.app L (40::(s_1++([32,58,32]++[])))) s_2) [41]).length (Sp.app (Sp.app (Sp.app L (40::(s_1++([32,58,32]++[])))) s_2) [41])) (zb (Sp.room (Sp.app (Sp.app (Sp.app L (40::(s_1++([32,58,32]++[])))) s_2) [41]) (s++[])) (zb (decide ((1:Int)<(↑(T.ds kids).length:Int))) (za (T.ds kids) (1:Int).toNat fun y=>za y.cells 0 fun c=>za y.cells 1 fun c_6=>za y.cells 2 fun c_7=>za y.cells 3 fun c_8=>za y.cells 4 fun c_9=>zc (zc (zg m (D.agg [c,c_6,c_7,c_8,c_9])) fun t=>zb (Sp.right t) (some (Sp.text t (0:Int)))) fun s_3=>zb (Sp.fit (Sp.app (Sp.app (Sp.app (Sp.app L (40::(s_1++([32,58,32]++[])))) s_2) [41]) (s++[])).length (Sp.app (Sp.app (Sp.app (Sp.app L (40::(s_1++([32,58,32]++[])))) s_2) [41]) (s++[]))) (zb (Sp.room (Sp.app (Sp.app (Sp.app (Sp.app L (40::(s_1++([32,58,32]++[])))) s_2) [41]) (s++[])) s_3) (some (Out.ret (V.tup []),[(0,Ob.val 187695107 (V.agg [V.ptr 0 0,V.sl 6291457 (Sp.app (Sp.app (Sp.app (Sp.app (Sp.app L (40::(s_1++([32,58,32]++[])))) s_2) [41]) (s++[])) s_3) 1,V.d (D.bool false)])),(1,Ob.tok (Sp.app (Sp.app (Sp.app (Sp.app (Sp.app L (40::(s_1++([32,58,32]++[])))) s_2) [41]) (s++[])) s_3).length)]))))))))))))
 | x=>none) else match c with
 | D.int k' n=>bif decide (k'=IntKind.i64) then bif decide (n=(9:Int)) then match c_2 with
  | D.sl s_1 l=>bif s_1.beq (cx.P.cellsOf 26)||l.isEmpty then zb (decide ((0:Int)<(↑l.length:Int))) (za l (0:Int).toNat fun y=>za y.cells 0 fun c_5=>match c_5 with
   | D.int k' n=>bif decide (k'=IntKind.i64) then zc (zc (zc (zg m (D.agg [c,c_1,c_2,c_3,c_4])) fun t=>zb (Sp.right t) (some (Sp.text t 1))) fun s=>some (zw (decide (n=(1:Int))) s)) fun s_2=>zb (Sp.fit L.length L) (zb (Sp.room L s_2) (zb (Sp.fit (Sp.app L s_2).length (Sp.app L s_2)) (zb (Sp.room (Sp.app L s_2) (s++[])) (zb (decide ((1:Int)<(↑(T.ds kids).length:Int))) (za (T.ds kids) (1:Int).toNat fun y=>za y.cells 0 fun c=>za y.cells 1 fun c_6=>za y.cells 2 fun c_7=>za y.cells 3 fun c_8=>za y.cells 4 fun c_9=>zc (zc (zg m (D.agg [c,c_6,c_7,c_8,c_9])) fun t=>zb (Sp.right t) (some (Sp.text t (0:Int)))) fun s_3=>zb (Sp.fit (Sp.app (Sp.app L s_2) (s++[])).length (Sp.app (Sp.app L s_2) (s++[]))) (zb (Sp.room (Sp.app (Sp.app L s_2) (s++[])) s_3) (some (Out.ret (V.tup []),[(0,Ob.val 187695107 (V.agg [V.ptr 0 0,V.sl 6291457 (Sp.app (Sp.app (Sp.app L s_2) (s++[])) s_3) 1,V.d (D.bool false)])),(1,Ob.tok (Sp.app (Sp.app (Sp.app L s_2) (s++[])) s_3).length)])))))))) else none
   | x=>none) else none
  | x=>none else zc (zc (zc (zg m (D.agg [c,c_1,c_2,c_3,c_4])) fun t=>zb (Sp.right t) (some (Sp.text t 1))) fun s=>some s) fun s_1=>zb (Sp.fit L.length L) (zb (Sp.room L s_1) (zb (Sp.fit (Sp.app L s_1).length (Sp.app L s_1)) (zb (Sp.room (Sp.app L s_1) (s++[])) (zb (decide ((1:Int)<(↑(T.ds kids).length:Int))) (za (T.ds kids) (1:Int).toNat fun y=>za y.cells 0 fun c=>za y.cells 1 fun c_5=>za y.cells 2 fun c_6=>za y.cells 3 fun c_7=>za y.cells 4 fun c_8=>zc (zc (zg m (D.agg [c,c_5,c_6,c_7,c_8])) fun t=>zb (Sp.right t) (some (Sp.text t (0:Int)))) fun s_2=>zb (Sp.fit (Sp.app (Sp.app L s_1) (s++[])).length (Sp.app (Sp.app L s_1) (s++[]))) (zb (Sp.room (Sp.app (Sp.app L s_1) (s++[])) s_2) (some (Out.ret (V.tup []),[(0,Ob.val 187695107 (V.agg [V.ptr 0 0,V.sl 6291457 (Sp.app (Sp.app (Sp.app L s_1) (s++[])) s_2) 1,V.d (D.bool false)])),(1,Ob.tok (Sp.app (Sp.app (Sp.app L s_1) (s++[])) s_2).length)])))))))) else none
 | x=>none):=by cases u <;> kernel_rfl
theorem z8b(n m:Nat)(L:List D)(u:Bool)(nm:List UInt8)(kids:List T)(nms:List (List UInt8))(pl:Int):zk cx (K71 m) n 163 [.ptr 0 0,.d (.agg [.int .i64 1,.str nm,.sl 5 (T.ds kids),.sl 1 (nms.map .str),.int .i64 pl])] (psS u L)=zb (Sp.fit L.length L) (zb (Sp.room L (nm++[])) (some (Out.ret (V.tup []),[(0,Ob.val 187695107 (V.agg [V.ptr 0 0,V.sl 6291457 (Sp.app L (nm++[])) 1,V.d (D.bool false)])),(1,Ob.tok (Sp.app L (nm++[])).length)]))):=by cases u <;> kernel_rfl
theorem z8a(n m:Nat)(L:List D)(u:Bool)(nm:List UInt8)(kids:List T)(nms:List (List UInt8))(pl:Int):zk cx (K71 m) n 163 [.ptr 0 0,.d (.agg [.int .i64 2,.str nm,.sl 5 (T.ds kids),.sl 1 (nms.map .str),.int .i64 pl])] (psS u L)=zc (zcf (D.sl 1 (List.map D.str nms),[32])) fun b=>zb (Sp.fit L.length L) (zb (Sp.room L (92::(zu b.fst b.snd++([46,32]++[])))) (zb (decide ((0:Int)<(↑(T.ds kids).length:Int))) (za (T.ds kids) (0:Int).toNat fun y=>za y.cells 0 fun c=>za y.cells 1 fun c_1=>za y.cells 2 fun c_2=>za y.cells 3 fun c_3=>za y.cells 4 fun c_4=>zc (zc (zg m (D.agg [c,c_1,c_2,c_3,c_4])) fun t=>zb (Sp.right t) (some (Sp.text t (0:Int)))) fun s=>zb (Sp.fit (Sp.app L (92::(zu b.fst b.snd++([46,32]++[])))).length (Sp.app L (92::(zu b.fst b.snd++([46,32]++[]))))) (zb (Sp.room (Sp.app L (92::(zu b.fst b.snd++([46,32]++[])))) s) (some (Out.ret (V.tup []),[(0,Ob.val 187695107 (V.agg [V.ptr 0 0,V.sl 6291457 (Sp.app (Sp.app L (92::(zu b.fst b.snd++([46,32]++[])))) s) 1,V.d (D.bool false)])),(1,Ob.tok (Sp.app (Sp.app L (92::(zu b.fst b.snd++([46,32]++[])))) s).length)])))))):=by cases u <;> kernel_rfl
theorem z79(n m:Nat)(L:List D)(u:Bool)(nm:List UInt8)(kids:List T)(nms:List (List UInt8))(pl:Int):zk cx (K71 m) n 163 [.ptr 0 0,.d (.agg [.int .i64 3,.str nm,.sl 5 (T.ds kids),.sl 1 (nms.map .str),.int .i64 pl])] (psS u L)=zc (zcf (D.sl 1 (List.map D.str nms),[32])) fun b=>zb (Sp.fit L.length L) (zb (Sp.room L (60::(zu b.fst b.snd++([62,32]++[])))) (zb (decide ((0:Int)<(↑(T.ds kids).length:Int))) (za (T.ds kids) (0:Int).toNat fun y=>za y.cells 0 fun c=>za y.cells 1 fun c_1=>za y.cells 2 fun c_2=>za y.cells 3 fun c_3=>za y.cells 4 fun c_4=>zc (zc (zg m (D.agg [c,c_1,c_2,c_3,c_4])) fun t=>zb (Sp.right t) (some (Sp.text t (0:Int)))) fun s=>zb (Sp.fit (Sp.app L (60::(zu b.fst b.snd++([62,32]++[])))).length (Sp.app L (60::(zu b.fst b.snd++([62,32]++[]))))) (zb (Sp.room (Sp.app L (60::(zu b.fst b.snd++([62,32]++[])))) s) (some (Out.ret (V.tup []),[(0,Ob.val 187695107 (V.agg [V.ptr 0 0,V.sl 6291457 (Sp.app (Sp.app L (60::(zu b.fst b.snd++([62,32]++[])))) s) 1,V.d (D.bool false)])),(1,Ob.tok (Sp.app (Sp.app L (60::(zu b.fst b.snd++([62,32]++[])))) s).length)])))))):=by cases u <;> kernel_rfl
theorem z78(n m:Nat)(L:List D)(u:Bool)(nm:List UInt8)(kids:List T)(nms:List (List UInt8))(pl:Int):zk cx (K71 m) n 163 [.ptr 0 0,.d (.agg [.int .i64 4,.str nm,.sl 5 (T.ds kids),.sl 1 (nms.map .str),.int .i64 pl])] (psS u L)=zc (zc (zg (m+1) (D.agg [D.int .i64 (4:Int),D.str nm,D.sl 5 (T.ds kids),D.sl 1 (List.map D.str nms),D.int .i64 pl])) fun t=>zb (zds t) (some (zej t [32,45,62,32]))) fun s=>zb (Sp.fit L.length L) (zb (Sp.room L s) (some (Out.ret (V.tup []),[(0,Ob.val 187695107 (V.agg [V.ptr 0 0,V.sl 6291457 (Sp.app L s) 1,V.d (D.bool false)])),(1,Ob.tok (Sp.app L s).length)]))):=by cases u <;> kernel_rfl
theorem z77(n m:Nat)(L:List D)(u:Bool)(nm:List UInt8)(kids:List T)(nms:List (List UInt8))(pl:Int):zk cx (K71 m) n 163 [.ptr 0 0,.d (.agg [.int .i64 5,.str nm,.sl 5 (T.ds kids),.sl 1 (nms.map .str),.int .i64 pl])] (psS u L)=zc (zc (zg (m+1) (D.agg [D.int .i64 (5:Int),D.str nm,D.sl 5 (T.ds kids),D.sl 1 (List.map D.str nms),D.int .i64 pl])) fun t=>zb (zds t) (some (zej t [32,42,32]))) fun s=>zb (Sp.fit L.length L) (zb (Sp.room L s) (some (Out.ret (V.tup []),[(0,Ob.val 187695107 (V.agg [V.ptr 0 0,V.sl 6291457 (Sp.app L s) 1,V.d (D.bool false)])),(1,Ob.tok (Sp.app L s).length)]))):=by cases u <;> kernel_rfl
theorem z74(n m:Nat)(L:List D)(u:Bool)(nm:List UInt8)(kids:List T)(nms:List (List UInt8))(pl:Int):zk cx (K71 m) n 163 [.ptr 0 0,.d (.agg [.int .i64 6,.str nm,.sl 5 (T.ds kids),.sl 1 (nms.map .str),.int .i64 pl])] (psS u L)=zb (decide ((0:Int)<(↑(T.ds kids).length:Int))) (za (T.ds kids) (0:Int).toNat fun y=>za y.cells 0 fun c=>za y.cells 1 fun c_1=>za y.cells 2 fun c_2=>za y.cells 3 fun c_3=>za y.cells 4 fun c_4=>zc (zc (zg m (D.agg [c,c_1,c_2,c_3,c_4])) fun t=>zb (Sp.right t) (some (Sp.text t (1:Int)))) fun s=>zb (Sp.fit L.length L) (zb (Sp.room L s) (zb (Sp.fit (Sp.app L s).length (Sp.app L s)) (zb (Sp.room (Sp.app L s) [32]) (zb (decide ((1:Int)<(↑(T.ds kids).length:Int))) (za (T.ds kids) (1:Int).toNat fun y=>za y.cells 0 fun c=>za y.cells 1 fun c_5=>za y.cells 2 fun c_6=>za y.cells 3 fun c_7=>za y.cells 4 fun c_8=>zc (zc (zg m (D.agg [c,c_5,c_6,c_7,c_8])) fun t=>zb (Sp.right t) (some (Sp.text t (2:Int)))) fun s_1=>zb (Sp.fit (Sp.app (Sp.app L s) [32]).length (Sp.app (Sp.app L s) [32])) (zb (Sp.room (Sp.app (Sp.app L s) [32]) s_1) (some (Out.ret (V.tup []),[(0,Ob.val 187695107 (V.agg [V.ptr 0 0,V.sl 6291457 (Sp.app (Sp.app (Sp.app L s) [32]) s_1) 1,V.d (D.bool false)])),(1,Ob.tok (Sp.app (Sp.app (Sp.app L s) [32]) s_1).length)]))))))))):=by cases u <;> kernel_rfl
theorem z73(n m:Nat)(L:List D)(u:Bool)(nm:List UInt8)(kids:List T)(nms:List (List UInt8))(pl:Int):zk cx (K71 m) n 163 [.ptr 0 0,.d (.agg [.int .i64 7,.str nm,.sl 5 (T.ds kids),.sl 1 (nms.map .str),.int .i64 pl])] (psS u L)=zb (decide ((0:Int)<(↑(T.ds kids).length:Int))) (za (T.ds kids) (0:Int).toNat fun y=>za y.cells 0 fun c=>za y.cells 1 fun c_1=>za y.cells 2 fun c_2=>za y.cells 3 fun c_3=>za y.cells 4 fun c_4=>zc (zc (zg m (D.agg [c,c_1,c_2,c_3,c_4])) fun t=>zb (Sp.right t) (some (Sp.text t (1:Int)))) fun s=>zb (Sp.fit L.length L) (zb (Sp.room L s) (zb (Sp.fit (Sp.app L s).length (Sp.app L s)) (zb (Sp.room (Sp.app L s) [32,64,32]) (zb (decide ((1:Int)<(↑(T.ds kids).length:Int))) (za (T.ds kids) (1:Int).toNat fun y=>za y.cells 0 fun c=>za y.cells 1 fun c_5=>za y.cells 2 fun c_6=>za y.cells 3 fun c_7=>za y.cells 4 fun c_8=>zc (zc (Sp.toC (D.agg [c,c_5,c_6,c_7,c_8])) fun t=>zb (Sp.form t) (some (wl t (2:Int)))) fun s_1=>zb (Sp.fit (Sp.app (Sp.app L s) [32,64,32]).length (Sp.app (Sp.app L s) [32,64,32])) (zb (Sp.room (Sp.app (Sp.app L s) [32,64,32]) s_1) (some (Out.ret (V.tup []),[(0,Ob.val 187695107 (V.agg [V.ptr 0 0,V.sl 6291457 (Sp.app (Sp.app (Sp.app L s) [32,64,32]) s_1) 1,V.d (D.bool false)])),(1,Ob.tok (Sp.app (Sp.app (Sp.app L s) [32,64,32]) s_1).length)]))))))))):=by cases u <;> kernel_rfl
theorem z71(n m:Nat)(L:List D)(u:Bool)(nm:List UInt8)(kids:List T)(nms:List (List UInt8))(pl:Int):zk cx (K71 m) n 163 [.ptr 0 0,.d (.agg [.int .i64 8,.str nm,.sl 5 (T.ds kids),.sl 1 (nms.map .str),.int .i64 pl])] (psS u L)=zc (zc (zg (m+1) (D.agg [D.int .i64 (8:Int),D.str nm,D.sl 5 (T.ds kids),D.sl 1 (List.map D.str nms),D.int .i64 pl])) fun t=>zb (zdr t) (some (zeg t [44,32]))) fun s=>zb (Sp.fit L.length L) (zb (Sp.room L s) (some (Out.ret (V.tup []),[(0,Ob.val 187695107 (V.agg [V.ptr 0 0,V.sl 6291457 (Sp.app L s) 1,V.d (D.bool false)])),(1,Ob.tok (Sp.app L s).length)]))):=by cases u <;> kernel_rfl
theorem z7z(n m:Nat)(L:List D)(u:Bool)(nm:List UInt8)(kids:List T)(nms:List (List UInt8))(pl:Int):zk cx (K71 m) n 163 [.ptr 0 0,.d (.agg [.int .i64 9,.str nm,.sl 5 (T.ds kids),.sl 1 (nms.map .str),.int .i64 pl])] (psS u L)=zc (zc (zg (m+1) (D.agg [D.int .i64 (9:Int),D.str nm,D.sl 5 (T.ds kids),D.sl 1 (List.map D.str nms),D.int .i64 pl])) fun t=>zb (zdr t) (some (zeg t [32,58,32]))) fun s=>zb (Sp.fit L.length L) (zb (Sp.room L s) (some (Out.ret (V.tup []),[(0,Ob.val 187695107 (V.agg [V.ptr 0 0,V.sl 6291457 (Sp.app L s) 1,V.d (D.bool false)])),(1,Ob.tok (Sp.app L s).length)]))):=by cases u <;> kernel_rfl
theorem z40(n m:Nat)(L:List D)(u:Bool)(nm:List UInt8)(kids:List T)(nms:List (List UInt8))(pl:Int):zk cx (K71 m) n 163 [.ptr 0 0,.d (.agg [.int .i64 10,.str nm,.sl 5 (T.ds kids),.sl 1 (nms.map .str),.int .i64 pl])] (psS u L)=zc (zc (zg (m+1) (D.agg [D.int .i64 (10:Int),D.str nm,D.sl 5 (T.ds kids),D.sl 1 (List.map D.str nms),D.int .i64 pl])) fun t=>zb (zbl t) (some (zcz t))) fun s=>zb (Sp.fit L.length L) (zb (Sp.room L s) (some (Out.ret (V.tup []),[(0,Ob.val 187695107 (V.agg [V.ptr 0 0,V.sl 6291457 (Sp.app L s) 1,V.d (D.bool false)])),(1,Ob.tok (Sp.app L s).length)]))):=by cases u <;> kernel_rfl
theorem wg{L:List D}{s:List UInt8}(h:L.length+s.length≤65536):Sp.room L s=true:=decide_eq_true h
theorem room_le{L:List D}{s:List UInt8}(h:Sp.room L s=true):L.length+s.length≤65536:=of_decide_eq_true h
theorem zck{k:Int}{nm:List UInt8}{kids:List T}{nms:List (List UInt8)}{pl:Int}(h:Sp.right (.mk k nm kids nms pl)=true)(hk:k=4∨k=5∨k=6∨k=8∨k=9) :
  ∃ a b,kids=[a,b]∧Sp.right a=true∧Sp.right b=true:=by
 rcases kids with _ | ⟨a,_ | ⟨b,_ | ⟨c,l⟩⟩⟩ <;> rcases hk with rfl | rfl | rfl | rfl | rfl <;> simp [Sp.right] at h ⊢
 all_goals exact ⟨a,b,⟨rfl,rfl⟩,h.2.1.2,h.2.2⟩
theorem z9m{m:Nat}(hm:knows cx (KT m).S (zh cx)){u:Bool}{L:List D}{t:T}{s:List UInt8}(hd:t.depth≤m+1)(ho:t.ok=true)(hi:zdr t=true)(hr:Sp.room L (zeg t s)=true) :
  zh cx 195 [.ptr 0 0,.d t.d,.d (.str s)] (psS u L)=some (.ret (.tup []),psS true (Sp.app L (zeg t s))):=by
 obtain ⟨k,nm,kids,nms,pl⟩:=t
 obtain ⟨h1,h2,h3,h4,h5⟩:=wi ho
 have hkd:=vi hd
 simp only [zdr,zla,Bool.and_eq_true,Bool.or_eq_true] at hi
 obtain ⟨a,b,rfl,ha,hb⟩:=zck hi.1 (by rcases hi.2 with h | h <;> have:=of_decide_eq_true h <;> omega)
 have hT:∀ t∈[a,b],zg m t.d=some t:=fun t h=>qy hkd h5 h
 have hlen:=room_le hr
 simp only [zeg,qx,yq [a,b] 0 0 a rfl,yq [a,b] 0 1 b rfl,List.length_append,List.length_cons,List.length_nil] at hlen
 refine zl hm (N:=0) ?_
 refine (ydc 0 m L u k nm [a,b] nms pl s).trans ?_
 simp only [zeg,qx,yq [a,b] 0 0 a rfl,yq [a,b] 0 1 b rfl]
 have e0:decide ((0:Int)<((T.ds [a,b]).length:Int))=true:=by rw [zq]; rfl
 have e1:decide ((1:Int)<((T.ds [a,b]).length:Int))=true:=by rw [zq]; rfl
 have n0:[a,b][(0:Int).toNat]?=some a:=rfl
 have n1:[a,b][(1:Int).toNat]?=some b:=rfl
 simp only [e0,e1,z6,n0,n1,yc,x5,w7,w0,wz,wy,wd,hT a (by simp),hT b (by simp),zc,zb,cond_true,yb,ha,hb]
 simp (disch:=(simp only [xz,List.length_append,List.length_cons,List.length_nil]; omega)) only [wg,cond_true]
 simp [xm,psS,adV]
end Go.Vai
end

section
namespace Go.Vai
open Go.Proofs
theorem z9x(t:T)(h:t.ok=true):zh cx 161 [.d t.d] []=some (.ret (mkI (ym t.k)),[]):=by
 obtain ⟨k,nm,kids,nms,pl⟩:=t
 refine zl zo (N:=0) ?_
 refine (g69 0 k nm kids nms pl).trans ?_
 simp only [zla,mkI,ym]
 have hk:k=2∨k=3∨k=4∨k=5∨k=6∨k=7∨(k ≠ 2∧k ≠ 3∧k ≠ 4∧k ≠ 5∧k ≠ 6∧k ≠ 7):=by omega
 rcases hk with rfl | rfl | rfl | rfl | rfl | rfl | ⟨q1,q2,q3,q4,q5,q6⟩ <;> simp [*]
theorem z7e(k:Int):zh cx 217 [.d (.int .i64 k)] []=some (.ret (mkI (y8 k)),[]):=by
 refine zl zo (N:=0) ?_
 refine (ydo 0 k).trans ?_
 simp only [mkI,y8]
 cases decide (k=14) <;> cases decide (k=15) <;> rfl
theorem zb0:knows cx K91.S (zh cx):=by
 have h107:=zj (f:=217) (dec:=z2z) (sp:=some) (mk:=fun k=>mkI (y8 k)) z0j fun a q b hd h hb=>by
  cases hb
  unfold z2z at h
  split at h
  ·cases h; exact z7e _
  ·cases h
 exact zj h107 fun a q b hd h hb=>by
  obtain rfl:=xu h
  obtain ⟨rfl,h1⟩:=xe hb
  exact z9x b h1
theorem zq6{k:Int}{nm:List UInt8}{kids:List T}{nms:List (List UInt8)}{pl:Int}(h:Sp.form (.mk k nm kids nms pl)=true) :
  (kids=[]∧(k=1∨k=17))∨(∃ a,kids=[a]∧k=16∧Sp.form a=true)∨(∃ a b,kids=[a,b]∧(k=14∨k=15)∧Sp.form a=true∧Sp.form b=true):=by
 rcases kids with _ | ⟨a,_ | ⟨b,_ | ⟨c,l⟩⟩⟩ <;> simp [Sp.form] at h ⊢
 ·rcases h.2 with h | h <;> simp [h.1]
 ·exact ⟨h.1.1.1,h.2⟩
 ·exact ⟨a,b,⟨rfl,rfl⟩,h.1.1.1.1,h.1.2,h.2⟩
theorem z7d{m:Nat}(hm:knows cx (KM m).S (zh cx)){u:Bool}{L:List D}{t:T}(hd:t.depth≤m+1)(ho:t.ok=true)(hi:Sp.form t=true)(hr:Sp.room L (y9 t)=true) :
  zh cx 218 [.ptr 0 0,.ptr 1 0] (zfc u L t.d)=some (.ret (.tup []),zfc true (Sp.app L (y9 t)) t.d):=by
 obtain ⟨k,nm,kids,nms,pl⟩:=t
 obtain ⟨h1,h2,h3,h4,h5⟩:=wi ho
 have hkd:=vi hd
 have hT:∀ t∈kids,zg m t.d=some t:=fun t h=>qy hkd h5 h
 have hlen:=room_le hr
 refine zl hm (N:=0) ?_
 refine (ybi 0 m L u k nm kids nms pl).trans ?_
 rcases zq6 hi with ⟨rfl,hk⟩ | ⟨a,rfl,rfl,ha⟩ | ⟨a,b,rfl,hk,ha,hb⟩
 ·have e:y9 (.mk k nm [] nms pl)=nm:=by rcases hk with rfl | rfl <;> simp [y9]
  rw [e] at hlen ⊢
  rw [decide_eq_false (p:=k=16) (by omega),decide_eq_false (p:=k=15) (by omega),decide_eq_false (p:=k=14) (by omega)]
  simp only [cond_false,yb,zb,cond_true,List.append_nil]
  rw [wg hlen]
  simp [zfc,T.d,T.ds]
 ·have e:y9 (.mk 16 nm [a] nms pl)=[126]++wl a 2:=by simp [y9,←zea [a] 2 0 a rfl]
  rw [e] at hlen ⊢
  simp only [List.length_append,List.length_cons,List.length_nil] at hlen
  have e0:decide ((0:Int)<((T.ds [a]).length:Int))=true:=by rw [zq]; rfl
  have n0:[a][(0:Int).toNat]?=some a:=rfl
  simp only [decide_true,e0,z6,n0,yc,x5,w7,w0,wz,wy,wd,hT a (by simp),zc,zb,cond_true,yb,ha]
  simp (disch:=((try simp only [xz,List.length_append,List.length_cons,List.length_nil]); omega)) only [wg,cond_true]
  simp [xm,zfc,T.d]
 ·have e0:decide ((0:Int)<((T.ds [a,b]).length:Int))=true:=by rw [zq]; rfl
  have e1:decide ((1:Int)<((T.ds [a,b]).length:Int))=true:=by rw [zq]; rfl
  have n0:[a,b][(0:Int).toNat]?=some a:=rfl
  have n1:[a,b][(1:Int).toNat]?=some b:=rfl
  rcases hk with rfl | rfl
  ·have e:y9 (.mk 14 nm [a,b] nms pl)=wl a 0++[32,92,47,32]++wl b 1:=by simp [y9,←zea [a,b] 0 0 a rfl,←zea [a,b] 1 1 b rfl]
   rw [e] at hlen ⊢
   simp only [List.length_append,List.length_cons,List.length_nil] at hlen
   simp only [Int.reduceEq,decide_false,cond_false,decide_true,e0,e1,z6,n0,n1,yc,x5,w7,w0,wz,wy,wd,hT a (by simp),hT b (by simp),zc,zb,cond_true,yb,ha,hb]
   simp (disch:=((try simp only [xz,List.length_append,List.length_cons,List.length_nil]); omega)) only [wg,cond_true]
   simp [xm,zfc,T.d]
  ·have e:y9 (.mk 15 nm [a,b] nms pl)=wl a 1++[32,47,92,32]++wl b 2:=by simp [y9,←zea [a,b] 1 0 a rfl,←zea [a,b] 2 1 b rfl]
   rw [e] at hlen ⊢
   simp only [List.length_append,List.length_cons,List.length_nil] at hlen
   simp only [Int.reduceEq,decide_false,cond_false,decide_true,e0,e1,z6,n0,n1,yc,x5,w7,w0,wz,wy,wd,hT a (by simp),hT b (by simp),zc,zb,cond_true,yb,ha,hb]
   simp (disch:=((try simp only [xz,List.length_append,List.length_cons,List.length_nil]); omega)) only [wg,cond_true]
   simp [xm,zfc,T.d]
theorem zgr(b:Bool)(s:List UInt8):(zw b s).length=s.length+bif b then 2 else 0:=by cases b <;> simp [zw]
theorem z66{m:Nat}(hc:knows cx (clK 218 zoo znd zfc (fun _ x=>zxq m x) K91).S (zh cx)){u b:Bool}{L:List D}{t:T}(hd:t.depth≤m)(ho:t.ok=true)(hi:Sp.form t=true)(hr:Sp.room L (zw b (y9 t))=true) :
  zh cx 160 [.ptr 0 0,.d (.bool b),.func 218 [.ptr 2 0,.ptr 3 0]] (psF u L t.d)=some (.ret (.tup []),psF true (Sp.app L (zw b (y9 t))) t.d):=by
 have hT:=zde hd ho
 have hlen:=room_le hr
 rw [zgr] at hlen
 refine zl hc (N:=0) ?_
 obtain ⟨k,nm,kids,nms,pl⟩:=t
 refine (ya6 0 m L u k nm kids nms pl b).trans ?_
 simp only [T.d] at hT
 cases b
 ·simp only [cond_false] at hlen
  simp only [hT,zc,zb,hi,cond_true,cond_false,yb]
  simp (disch:=((try simp only [xz,List.length_append,List.length_cons,List.length_nil]); omega)) only [wg,cond_true]
  simp [xm,psF,psS,adV,T.d,zw]
 ·simp only [cond_true] at hlen
  simp only [hT,zc,zb,hi,cond_true,cond_false,yb]
  simp (disch:=((try simp only [xz,List.length_append,List.length_cons,List.length_nil]); omega)) only [wg,cond_true]
  simp [xm,psF,psS,adV,T.d,zw]
theorem zxi{m:Nat}(h:∀ {u L t},t.depth≤m→t.ok=true→Sp.form t=true→Sp.room L (y9 t)=true→zh cx 218 [.ptr 0 0,.ptr 1 0] (zfc u L t.d)=some (.ret (.tup []),zfc true (Sp.app L (y9 t)) t.d)) :
  knows cx (yck m).S (zh cx):=by
 have hc:knows cx (clK 218 zoo znd zfc (fun _ x=>zxq m x) K91).S (zh cx):=zd0 zb0 ztu fun a b x s u L ha hs hr=>by
  obtain rfl:=zu9 ha
  obtain ⟨t,ht,hs⟩:=zd hs
  obtain ⟨hf,hs⟩:=ze hs
  cases hs
  obtain ⟨rfl,h1,h2⟩:=yx ht
  exact h h1 h2 hf hr
 exact zd0 zb0 zy5 fun a b x s u L ha hs hr=>by
  obtain rfl:=zi6 ha
  obtain ⟨s',hs',hs⟩:=zd hs
  cases hs
  obtain ⟨t,ht,hs'⟩:=zd hs'
  obtain ⟨hf,hs'⟩:=ze hs'
  cases hs'
  obtain ⟨rfl,h1,h2⟩:=yx ht
  exact z66 hc h1 h2 hf hr
theorem z54:∀ (m:Nat) (u:Bool) (L:List D) (t:T) (a:Int),t.depth≤m→t.ok=true→Sp.form t=true→Sp.room L (wl t a)=true →
  zh cx 194 [.ptr 0 0,.d t.d,.d (.int .i64 a)] (psS u L)=some (.ret (.tup []),psS true (Sp.app L (wl t a)))
 | 0,_,_,.mk ..,_,h,_,_,_=>by simp [T.depth] at h
 | m+1,u,L,t,a,hd,ho,hi,hr=>by
  have hm:knows cx (KM m).S (zh cx):=zak zb0 fun a q s u L ha hs hr=>by
   obtain ⟨x,n⟩:=q
   obtain rfl:=zgf ha
   obtain ⟨t,ht,hs⟩:=zd hs
   obtain ⟨hf,hs⟩:=ze hs
   cases hs
   obtain ⟨rfl,h1,h2⟩:=yx ht
   exact z54 m u L t n h1 h2 hf hr
  have hK:=zxi (m:=m+1) fun h1 h2 h3 h4=>z7d hm h1 h2 h3 h4
  have hT:=zde hd ho
  refine zl hK (N:=0) ?_
  obtain ⟨k,nm,kids,nms,pl⟩:=t
  refine (ydd 0 (m+1) L u k nm kids nms pl a).trans ?_
  simp only [T.d] at hT
  have hr:Sp.room L (zw (decide (y8 k<a)) (y9 (.mk k nm kids nms pl)))=true:=hr
  show _=some (Out.ret (V.tup []),psS true (Sp.app L (zw (decide (y8 k<a)) (y9 (.mk k nm kids nms pl)))))
  simp only [hT,zc,zb,hi,cond_true,yb,hr]
  rfl
end Go.Vai
end

section
namespace Go.Vai
open Go.Proofs
theorem zah{k:Int}{nm:List UInt8}{kids:List T}{nms:List (List UInt8)}{pl:Int}:(T.mk k nm kids nms pl).d.cells=[.int .i64 k,.str nm,.sl 5 (T.ds kids),.sl 1 (nms.map .str),.int .i64 pl]:=rfl
theorem zbz(s:List UInt8):(D.str s).cells=[.str s]:=rfl
theorem zhc(t:T):T.mk t.k t.nm t.kids t.nms t.pl=t:=by cases t; rfl
theorem zhq{k:Int}{nm:List UInt8}{kids:List T}{nms:List (List UInt8)}{pl:Int}:D.agg [.int .i64 k,.str nm,.sl 5 (T.ds kids),.sl 1 (nms.map .str),.int .i64 pl]=(T.mk k nm kids nms pl).d:=rfl
theorem zkt{k : Int}{nm : List UInt8}{kids : List T}{nms : List (List UInt8)}{pl : Int}(h : Sp.right (.mk k nm kids nms pl) = true)(hk : k = 4 ∨ k = 5) : nms = [] ∨ ∃ x, nms = [x] := by
  rcases kids with _ | ⟨a, _ | ⟨b, _ | ⟨c, l⟩⟩⟩ <;> rcases hk with rfl | rfl <;> simp [Sp.right] at h
  all_goals (rcases nms with _ | ⟨x, _ | ⟨y, r⟩⟩
             · exact .inl rfl
             · exact .inr ⟨x, rfl⟩
             · have := h.2.1.1.1; simp at this; omega)
theorem z67{m:Nat}(hc:knows cx (clK 216 zmc zlx zr4 (fun _ x=>z1c m (x,1)) K91).S (zh cx)){u b:Bool}{L:List D}{t:T}(hd:t.depth≤m)(ho:t.ok=true)(hi:Sp.right t=true)(hr:Sp.room L (zw b (Sp.text t 1))=true) :
  zh cx 160 [.ptr 0 0,.d (.bool b),.func 216 [.ptr 2 0,.ptr 3 0]] (psB u L t.d)=some (.ret (.tup []),psB true (Sp.app L (zw b (Sp.text t 1))) t.d):=by
 have hT:=zde hd ho
 have hlen:=room_le hr
 rw [zgr] at hlen
 refine zl hc (N:=0) ?_
 obtain ⟨k,nm,kids,nms,pl⟩:=t
 refine (ya7 0 m L u k nm kids nms pl b).trans ?_
 simp only [T.d] at hT
 cases b
 ·simp only [cond_false] at hlen
  simp only [hT,zc,zb,hi,cond_true,cond_false,yb]
  simp (disch:=((try simp only [xz,List.length_append,List.length_cons,List.length_nil]); omega)) only [wg,cond_true]
  simp [xm,psB,psS,adV,T.d,zw]
 ·simp only [cond_true] at hlen
  simp only [hT,zc,zb,hi,cond_true,cond_false,yb]
  simp (disch:=((try simp only [xz,List.length_append,List.length_cons,List.length_nil]); omega)) only [wg,cond_true]
  simp [xm,psB,psS,adV,T.d,zw]
theorem zxj{m:Nat}(hm:knows cx (KT m).S (zh cx)):knows cx (ycl m).S (zh cx):=by
 have hc:knows cx (clK 216 zmc zlx zr4 (fun _ x=>z1c m (x,1)) K91).S (zh cx):=zd0 zb0 znc fun a b x s u L ha hs hr=>by
  obtain rfl:=zon ha
  obtain ⟨t,ht,hs⟩:=zd hs
  obtain ⟨hf,hs⟩:=ze hs
  cases hs
  obtain ⟨rfl,h1,h2⟩:=yx ht
  have hT:=zde h1 h2
  refine zl hm (N:=0) ?_
  obtain ⟨k,nm,kids,nms,pl⟩:=t
  refine (ybj 0 m L u k nm kids nms pl).trans ?_
  simp only [T.d] at hT
  simp only [hT,zc,zb,hf,cond_true,yb,hr]
  rfl
 exact zd0 hm zqa fun a b x s u L ha hs hr=>by
  obtain rfl:=zi6 ha
  obtain ⟨s',hs',hs⟩:=zd hs
  cases hs
  obtain ⟨t,ht,hs'⟩:=zd hs'
  obtain ⟨hf,hs'⟩:=ze hs'
  cases hs'
  obtain ⟨rfl,h1,h2⟩:=yx ht
  exact z67 hc h1 h2 hf hr
theorem z9n{m:Nat}(hm:knows cx (KT m).S (zh cx)){u:Bool}{L:List D}{t:T}{s:List UInt8}(hd:t.depth≤m+1)(ho:t.ok=true)(hi:zds t=true)(hr:Sp.room L (zej t s)=true) :
  zh cx 193 [.ptr 0 0,.d t.d,.d (.str s)] (psS u L)=some (.ret (.tup []),psS true (Sp.app L (zej t s))):=by
 obtain ⟨k,nm,kids,nms,pl⟩:=t
 obtain ⟨h1,h2,h3,h4,h5⟩:=wi ho
 have hkd:=vi hd
 simp only [zds,zla,Bool.and_eq_true,Bool.or_eq_true] at hi
 have hk:k=4∨k=5:=by rcases hi.2 with h | h <;> have:=of_decide_eq_true h <;> omega
 obtain ⟨a,b,rfl,ha,hb⟩:=zck hi.1 (by omega)
 have hT:∀ t∈[a,b],zg m t.d=some t:=fun t h=>qy hkd h5 h
 have hlen:=room_le hr
 simp only [zej,yq [a,b] 0 0 a rfl,yq [a,b] 1 0 a rfl,yq [a,b] 0 1 b rfl] at hlen
 refine zl (zxj hm) (N:=0) ?_
 refine (yde 0 m L u k nm [a,b] nms pl s).trans ?_
 simp only [zej,yq [a,b] 0 0 a rfl,yq [a,b] 1 0 a rfl,yq [a,b] 0 1 b rfl]
 have e0:decide ((0:Int)<((T.ds [a,b]).length:Int))=true:=by rw [zq]; rfl
 have e1:decide ((1:Int)<((T.ds [a,b]).length:Int))=true:=by rw [zq]; rfl
 have n0:[a,b][(0:Int).toNat]?=some a:=rfl
 have n1:[a,b][(1:Int).toNat]?=some b:=rfl
 rcases zkt hi.1 hk with rfl | ⟨x,rfl⟩
 ·have hl0:decide ((([]:List (List UInt8)).map D.str).length=(1:Int))=false:=rfl
  simp only [List.length_nil,Nat.zero_ne_one,decide_false,cond_false,List.length_append,zgr] at hlen ⊢
  by_cases h9:a.k=9
  ·obtain ⟨k',nm',kids',nms',pl'⟩:=a
   simp only [zla] at h9
   subst h9
   obtain ⟨c,d,rfl,_,_⟩:=zck ha (by omega)
   have e2:decide ((0:Int)<((T.ds [c,d]).length:Int))=true:=by rw [zq]; rfl
   have n2:[c,d][(0:Int).toNat]?=some c:=rfl
   have ea:wt [.mk 9 nm' [c,d] nms' pl',b]=decide (c.k=1):=by
    obtain ⟨k3,_,_,_,_⟩:=c
    simp only [wt,decide_true,Bool.true_and]; rfl
   simp only [hl0,e0,e1,e2,z6,n0,n1,n2,↓zah,yc,x5,w7,w0,wz,wy,zhq,zhc,hT _ (List.mem_cons_self ..),hT b (by simp),zc,zb,cond_true,cond_false,yb,ha,hb,decide_true,zfa,Bool.true_or]
   rw [ea] at hlen ⊢
   generalize decide (c.k=1)=q at hlen ⊢
   cases q
   ·simp only [cond_false,zw] at hlen ⊢
    simp (disch:=((try simp only [xz,List.length_append,List.length_cons,List.length_nil]); omega)) only [wg,cond_true]
    simp [xm,psS,adV]
   ·simp only [cond_true,zw] at hlen ⊢
    simp (disch:=((try simp only [xz,List.length_append,List.length_cons,List.length_nil]); omega)) only [wg,cond_true]
    simp [xm,psS,adV]
  ·have ea:wt [a,b]=false:=by
    obtain ⟨k',nm',kids',nms',pl'⟩:=a
    simp only [zla] at h9
    rcases kids' with _ | ⟨⟨_,_,_,_,_⟩,_⟩ <;> simp [wt,h9]
   simp only [hl0,e0,e1,z6,n0,n1,yc,x5,w7,w0,wz,wy,wd,hT a (by simp),hT b (by simp),zc,zb,cond_true,cond_false,yb,ha,hb,decide_true]
   rw [ea] at hlen ⊢
   rw [decide_eq_false h9]
   simp only [decide_true,cond_true,cond_false,zw] at hlen ⊢
   simp (disch:=((try simp only [xz,List.length_append,List.length_cons,List.length_nil]); omega)) only [wg,cond_true]
   simp [xm,psS,adV]
 ·simp only [List.length_cons,List.length_nil,Nat.zero_add,decide_true,cond_true,List.length_append] at hlen ⊢
  have nx:[x][(0:Int).toNat]?=some x:=rfl
  have ex:Sp.at [x] 0=x:=rfl
  rw [ex] at hlen ⊢
  simp only [e0,e1,z6,n0,n1,yc,x5,w7,w0,wz,wy,wd,hT a (by simp),hT b (by simp),zc,zb,cond_true,yb,ha,hb,List.length_map,zk6,zj3,xi,nx,List.length_cons,List.length_nil,Nat.lt_add_one,decide_true,zbz]
  simp (disch:=((try simp only [xz,List.length_append,List.length_cons,List.length_nil]); omega)) only [wg,cond_true]
  simp [xm,psS,adV]
end Go.Vai
end

section
namespace Go.Vai
open Go.Proofs
theorem ydb(n m:Nat)(L:List D)(u:Bool)(k:Int)(nm:List UInt8)(kids:List T)(nms:List (List UInt8))(pl:Int):zk cx (KT m) n 196 [.ptr 0 0,.d (.agg [.int .i64 k,.str nm,.sl 5 (T.ds kids),.sl 1 (nms.map .str),.int .i64 pl])] (psS u L)=zb (Sp.fit L.length L) (zb (Sp.room L [91]) (LP cx (KT m) n 196 2 3 n [(0,V.ptr 0 0),(12,V.d (D.sl 5 (T.ds kids))),(13,V.d (D.int .i64 (↑(T.ds kids).length:Int))),(14,V.d (D.int .i64 (0:Int)))] [(0,Ob.val 187695107 (V.agg [V.ptr 0 0,V.sl 6291457 (Sp.app L [91]) 1,V.d (D.bool false)])),(1,Ob.tok (Sp.app L [91]).length)] (AK cx (KT m) n 196 2 3 (EK cx 196 2)))):=by cases u <;> kernel_rfl
theorem l94(n m r:Nat)(L:List D)(kids:List T)(i:Int):LP cx (KT m) n 196 2 3 (r+1) [(0,V.ptr 0 0),(12,V.d (D.sl 5 (T.ds kids))),(13,V.d (D.int .i64 (kids.length:Int))),(14,V.d (D.int .i64 i))] (psS true L) (AK cx (KT m) n 196 2 3 (EK cx 196 2))=bif decide (i<(↑kids.length:Int)) then zb (decide (0≤i)&&decide (i<(↑(T.ds kids).length:Int))) (za (T.ds kids) i.toNat fun y=>za y.cells 0 fun c=>za y.cells 1 fun c_1=>za y.cells 2 fun c_2=>za y.cells 3 fun c_3=>za y.cells 4 fun c_4=>bif decide ((0:Int)<i) then zb (Sp.fit L.length L) (zb (Sp.room L [44,32]) (match c_2 with
 | D.sl s l=>bif s.beq (cx.P.cellsOf 26)||l.isEmpty then zb (decide ((0:Int)<(↑l.length:Int))) (za l (0:Int).toNat fun y=>za y.cells 2 fun c_5=>match c_5 with
  | D.sl s l=>bif s.beq (cx.P.cellsOf 26)||l.isEmpty then bif decide ((↑l.length:Int)=(0:Int)) then zb (Sp.fit (Sp.app L [44,32]).length (Sp.app L [44,32])) (zb (Sp.room (Sp.app L [44,32]) [49]) (match c_2 with
   | D.sl s l=>bif s.beq (cx.P.cellsOf 26)||l.isEmpty then zb (decide ((0:Int)<(↑l.length:Int))) (za l (0:Int).toNat fun y=>za y.cells 2 fun c_6=>match c_6 with
    | D.sl s l=>bif s.beq (cx.P.cellsOf 26)||l.isEmpty then LP cx (KT m) n 196 2 10 n [(0,V.ptr 0 0),(5,V.ptr 7 0),(12,V.d (D.sl 5 (T.ds kids))),(13,V.d (D.int .i64 (↑kids.length:Int))),(14,V.d (D.int .i64 i)),(38,V.d (D.sl 5 l)),(39,V.d (D.int .i64 (↑l.length:Int))),(40,V.d (D.int .i64 (0:Int)))] [(0,Ob.val 187695107 (V.agg [V.ptr 0 0,V.sl 6291457 (Sp.app (Sp.app L [44,32]) [49]) 1,V.d (D.bool false)])),(1,Ob.tok (Sp.app (Sp.app L [44,32]) [49]).length),(7,Ob.val 5 (V.d (D.agg [c,c_1,c_2,c_3,c_4])))] (AL cx (KT m) n 196 2 3 10 (inK cx (KT m) n 196 2 3 r (AK cx (KT m) n 196 2 3 (EK cx 196 2)))) else none
    | x=>none) else none
   | x=>none)) else match c_2 with
   | D.sl s l=>bif s.beq (cx.P.cellsOf 26)||l.isEmpty then zb (decide ((0:Int)<(↑l.length:Int))) (za l (0:Int).toNat fun y=>za y.cells 2 fun c_6=>match c_6 with
    | D.sl s l=>bif s.beq (cx.P.cellsOf 26)||l.isEmpty then LP cx (KT m) n 196 2 10 n [(0,V.ptr 0 0),(5,V.ptr 7 0),(12,V.d (D.sl 5 (T.ds kids))),(13,V.d (D.int .i64 (↑kids.length:Int))),(14,V.d (D.int .i64 i)),(38,V.d (D.sl 5 l)),(39,V.d (D.int .i64 (↑l.length:Int))),(40,V.d (D.int .i64 (0:Int)))] [(0,Ob.val 187695107 (V.agg [V.ptr 0 0,V.sl 6291457 (Sp.app L [44,32]) 1,V.d (D.bool false)])),(1,Ob.tok (Sp.app L [44,32]).length),(7,Ob.val 5 (V.d (D.agg [c,c_1,c_2,c_3,c_4])))] (AL cx (KT m) n 196 2 3 10 (inK cx (KT m) n 196 2 3 r (AK cx (KT m) n 196 2 3 (EK cx 196 2)))) else none
    | x=>none) else none
   | x=>none else none
  | x=>none) else none
 | x=>none)) else match c_2 with
 | D.sl s l=>bif s.beq (cx.P.cellsOf 26)||l.isEmpty then zb (decide ((0:Int)<(↑l.length:Int))) (za l (0:Int).toNat fun y=>za y.cells 2 fun c_5=>match c_5 with
  | D.sl s l=>bif s.beq (cx.P.cellsOf 26)||l.isEmpty then bif decide ((↑l.length:Int)=(0:Int)) then zb (Sp.fit L.length L) (zb (Sp.room L [49]) (match c_2 with
   | D.sl s l=>bif s.beq (cx.P.cellsOf 26)||l.isEmpty then zb (decide ((0:Int)<(↑l.length:Int))) (za l (0:Int).toNat fun y=>za y.cells 2 fun c_6=>match c_6 with
    | D.sl s l=>bif s.beq (cx.P.cellsOf 26)||l.isEmpty then LP cx (KT m) n 196 2 10 n [(0,V.ptr 0 0),(5,V.ptr 7 0),(12,V.d (D.sl 5 (T.ds kids))),(13,V.d (D.int .i64 (↑kids.length:Int))),(14,V.d (D.int .i64 i)),(38,V.d (D.sl 5 l)),(39,V.d (D.int .i64 (↑l.length:Int))),(40,V.d (D.int .i64 (0:Int)))] [(0,Ob.val 187695107 (V.agg [V.ptr 0 0,V.sl 6291457 (Sp.app L [49]) 1,V.d (D.bool false)])),(1,Ob.tok (Sp.app L [49]).length),(7,Ob.val 5 (V.d (D.agg [c,c_1,c_2,c_3,c_4])))] (AL cx (KT m) n 196 2 3 10 (inK cx (KT m) n 196 2 3 r (AK cx (KT m) n 196 2 3 (EK cx 196 2)))) else none
    | x=>none) else none
   | x=>none)) else match c_2 with
   | D.sl s l=>bif s.beq (cx.P.cellsOf 26)||l.isEmpty then zb (decide ((0:Int)<(↑l.length:Int))) (za l (0:Int).toNat fun y=>za y.cells 2 fun c_6=>match c_6 with
    | D.sl s l=>bif s.beq (cx.P.cellsOf 26)||l.isEmpty then LP cx (KT m) n 196 2 10 n [(0,V.ptr 0 0),(5,V.ptr 7 0),(12,V.d (D.sl 5 (T.ds kids))),(13,V.d (D.int .i64 (↑kids.length:Int))),(14,V.d (D.int .i64 i)),(38,V.d (D.sl 5 l)),(39,V.d (D.int .i64 (↑l.length:Int))),(40,V.d (D.int .i64 (0:Int)))] [(0,Ob.val 187695107 (V.agg [V.ptr 0 0,V.sl 6291457 L 1,V.d (D.bool false)])),(1,Ob.tok L.length),(7,Ob.val 5 (V.d (D.agg [c,c_1,c_2,c_3,c_4])))] (AL cx (KT m) n 196 2 3 10 (inK cx (KT m) n 196 2 3 r (AK cx (KT m) n 196 2 3 (EK cx 196 2)))) else none
    | x=>none) else none
   | x=>none else none
  | x=>none) else none
 | x=>none) else zb (Sp.fit L.length L) (zb (Sp.room L [93]) (some (Out.ret (V.tup []),[(0,Ob.val 187695107 (V.agg [V.ptr 0 0,V.sl 6291457 (Sp.app L [93]) 1,V.d (D.bool false)])),(1,Ob.tok (Sp.app L [93]).length)]))):=by kernel_rfl
theorem i94(n m r q:Nat)(L:List D)(kids qs kids':List T)(i j k' pl':Int)(nm':List UInt8)(nms':List (List UInt8)):LP cx (KT m) n 196 2 10 (q+1) [(0,V.ptr 0 0),(5,V.ptr 7 0),(12,V.d (D.sl 5 (T.ds kids))),(13,V.d (D.int .i64 (kids.length:Int))),(14,V.d (D.int .i64 i)),(38,V.d (D.sl 5 (T.ds qs))),(39,V.d (D.int .i64 (qs.length:Int))),(40,V.d (D.int .i64 j))] [(0,Ob.val 187695107 (V.agg [V.ptr 0 0,V.sl 6291457 L 1,V.d (D.bool false)])),(1,Ob.tok L.length),(7,Ob.val 5 (V.d (D.agg [D.int .i64 k',D.str nm',D.sl 5 (T.ds kids'),D.sl 1 (nms'.map .str),D.int .i64 pl'])))] (AL cx (KT m) n 196 2 3 10 (inK cx (KT m) n 196 2 3 r (AK cx (KT m) n 196 2 3 (EK cx 196 2))))=bif decide (j<(↑qs.length:Int)) then zb (decide (0≤j)&&decide (j<(↑(T.ds qs).length:Int))) (za (T.ds qs) j.toNat fun y=>za y.cells 0 fun c=>za y.cells 1 fun c=>za y.cells 2 fun c_1=>za y.cells 3 fun c_2=>za y.cells 4 fun c_3=>match c with
 | D.str s=>match c_2 with
  | D.sl s_1 l=>bif s_1.beq (cx.P.cellsOf 9)||l.isEmpty then zb (decide ((0:Int)<(↑l.length:Int))) (za l (0:Int).toNat fun y=>za y.cells 0 fun c=>match c with
   | D.str s_2=>zb (Sp.fit L.length L) (zb (Sp.room L (40::(s++([61]++(s_2++([41]++[])))))) (LP cx (KT m) n 196 2 10 q [(0,V.ptr 0 0),(5,V.ptr 7 0),(12,V.d (D.sl 5 (T.ds kids))),(13,V.d (D.int .i64 (↑kids.length:Int))),(14,V.d (D.int .i64 i)),(38,V.d (D.sl 5 (T.ds qs))),(39,V.d (D.int .i64 (↑qs.length:Int))),(40,V.d (D.int .i64 (IntKind.i64.wrap (j+(1:Int)))))] [(0,Ob.val 187695107 (V.agg [V.ptr 0 0,V.sl 6291457 (Sp.app L (40::(s++([61]++(s_2++([41]++[])))))) 1,V.d (D.bool false)])),(1,Ob.tok (Sp.app L (40::(s++([61]++(s_2++([41]++[])))))).length),(7,Ob.val 5 (V.d (D.agg [D.int .i64 k',D.str nm',D.sl 5 (T.ds kids'),D.sl 1 (List.map D.str nms'),D.int .i64 pl'])))] (AL cx (KT m) n 196 2 3 10 (inK cx (KT m) n 196 2 3 r (AK cx (KT m) n 196 2 3 (EK cx 196 2))))))
   | x=>none) else none
  | x=>none
 | x=>none) else bif decide ((↑(T.ds kids').length:Int)=(2:Int)) then zb (Sp.fit L.length L) (zb (Sp.room L [32,45,62,32]) (zb (decide ((1:Int)<(↑(T.ds kids').length:Int))) (za (T.ds kids') (1:Int).toNat fun y=>za y.cells 0 fun c=>za y.cells 1 fun c_1=>za y.cells 2 fun c_2=>za y.cells 3 fun c_3=>za y.cells 4 fun c_4=>zc (zc (zg m (D.agg [c,c_1,c_2,c_3,c_4])) fun t=>zb (Sp.right t) (some (Sp.text t (0:Int)))) fun s=>zb (Sp.fit (Sp.app L [32,45,62,32]).length (Sp.app L [32,45,62,32])) (zb (Sp.room (Sp.app L [32,45,62,32]) s) (LP cx (KT m) n 196 2 3 r [(0,V.ptr 0 0),(12,V.d (D.sl 5 (T.ds kids))),(13,V.d (D.int .i64 (↑kids.length:Int))),(14,V.d (D.int .i64 (IntKind.i64.wrap (i+(1:Int)))))] [(0,Ob.val 187695107 (V.agg [V.ptr 0 0,V.sl 6291457 (Sp.app (Sp.app L [32,45,62,32]) s) 1,V.d (D.bool false)])),(1,Ob.tok (Sp.app (Sp.app L [32,45,62,32]) s).length)] (AK cx (KT m) n 196 2 3 (EK cx 196 2))))))) else LP cx (KT m) n 196 2 3 r [(0,V.ptr 0 0),(12,V.d (D.sl 5 (T.ds kids))),(13,V.d (D.int .i64 (↑kids.length:Int))),(14,V.d (D.int .i64 (IntKind.i64.wrap (i+(1:Int)))))] [(0,Ob.val 187695107 (V.agg [V.ptr 0 0,V.sl 6291457 L 1,V.d (D.bool false)])),(1,Ob.tok L.length)] (AK cx (KT m) n 196 2 3 (EK cx 196 2)):=by kernel_rfl
noncomputable abbrev O94 (m n r:Nat) (L:List D) (kids:List T) (i:Int):Option R1:=
 LP cx (KT m) n 196 2 3 r [(0,V.ptr 0 0),(12,V.d (D.sl 5 (T.ds kids))),(13,V.d (D.int .i64 (kids.length:Int))),(14,V.d (D.int .i64 i))] [(0,Ob.val 187695107 (V.agg [V.ptr 0 0,V.sl 6291457 L 1,V.d (D.bool false)])),(1,Ob.tok L.length)] (AK cx (KT m) n 196 2 3 (EK cx 196 2))
noncomputable abbrev I94 (m n r q:Nat) (L:List D) (kids qs kids':List T) (i j k' pl':Int) (nm':List UInt8) (nms':List (List UInt8)):Option R1:=
 LP cx (KT m) n 196 2 10 q [(0,V.ptr 0 0),(5,V.ptr 7 0),(12,V.d (D.sl 5 (T.ds kids))),(13,V.d (D.int .i64 (kids.length:Int))),(14,V.d (D.int .i64 i)),(38,V.d (D.sl 5 (T.ds qs))),(39,V.d (D.int .i64 (qs.length:Int))),(40,V.d (D.int .i64 j))] [(0,Ob.val 187695107 (V.agg [V.ptr 0 0,V.sl 6291457 L 1,V.d (D.bool false)])),(1,Ob.tok L.length),(7,Ob.val 5 (V.d (D.agg [D.int .i64 k',D.str nm',D.sl 5 (T.ds kids'),D.sl 1 (nms'.map .str),D.int .i64 pl'])))] (AL cx (KT m) n 196 2 3 10 (inK cx (KT m) n 196 2 3 r (AK cx (KT m) n 196 2 3 (EK cx 196 2))))
def vv(kids:List T):List UInt8:=bif decide (kids.length=2) then [32,45,62,32]++Sp.at (Sp.texts kids 0) 1 else []
theorem zyi{t:T}(h:ql t=true):∃ nm x pl,t=.mk 13 nm [] [x] pl∧Sp.named nm=true∧Sp.bit x=true:=by
 obtain ⟨k,nm,kids,nms,pl⟩:=t
 rcases kids with _ | ⟨a,kids⟩ <;> rcases nms with _ | ⟨x,_ | ⟨y,nms⟩⟩ <;> simp [ql] at h
 obtain ⟨⟨rfl,h1⟩,h2⟩:=h
 exact ⟨nm,x,pl,rfl,h1,h2⟩
theorem zyb{m n r:Nat}{kids qs kids':List T}{i k' pl':Int}{nm':List UInt8}{nms':List (List UInt8)}(hq:∀ t∈qs,ql t=true)(hl:qs.length<4294967296)
  (hk:kids'.length=2→∃ t,kids'[1]?=some t∧zg m t.d=some t∧Sp.right t=true) :
  ∀ (rest:List T) (j q:Nat) (L:List D),qs.drop j=rest→j≤qs.length→rest.length<q→Sp.room L ((rest.map v7).flatten++vv kids')=true →
   I94 m n r q L kids qs kids' i j k' pl' nm' nms'=O94 m n r (Sp.app L ((rest.map v7).flatten++vv kids')) kids (IntKind.i64.wrap (i+1))
 | [],j,q,L,hd,hj,hk',hr=>by
  obtain ⟨q,rfl⟩:∃ i,q=i+1:=⟨q - 1,by omega⟩
  have:qs.length≤j:=by simpa using hd
  obtain rfl:j=qs.length:=by omega
  simp only [List.map_nil,List.flatten_nil,List.nil_append] at hr ⊢
  have hlen:=room_le hr
  simp only [I94,O94]
  rw [i94,yy,cond_false,zq,zsi]
  by_cases h2:kids'.length=2
  ·obtain ⟨t,ht,hT,hrt⟩:=hk h2
   have n1:kids'[(1:Int).toNat]?=some t:=ht
   have e:vv kids'=[32,45,62,32]++Sp.text t 0:=by
    unfold vv
    rw [decide_eq_true h2,cond_true,yq kids' 0 1 t ht]
   rw [e] at hlen ⊢
   have e1:decide ((1:Int)<(kids'.length:Int))=true:=decide_eq_true (by omega)
   simp only [List.length_append,List.length_cons,List.length_nil] at hlen
   rw [decide_eq_true h2]
   simp only [cond_true,e1,z6,n1,yc,x5,w7,w0,wz,wy,wd,hT,zc,zb,hrt,yb]
   simp (disch:=((try simp only [xz,List.length_append,List.length_cons,List.length_nil]); omega)) only [wg,cond_true]
   simp [xm]
  ·have e:vv kids'=[]:=by unfold vv; rw [decide_eq_false h2]; rfl
   rw [decide_eq_false h2,cond_false,e,zmu]
 | t::rest,j,q,L,hd,hj,hk',hr=>by
  obtain ⟨q,rfl⟩:∃ i,q=i+1:=⟨q - 1,by omega⟩
  obtain ⟨h1,h2,h3⟩:=zcb hd
  obtain ⟨nm,x,pl,rfl,_,_⟩:=zyi (hq t (List.mem_of_getElem? h2))
  have et:v7 (.mk 13 nm [] [x] pl)=40::(nm++([61]++(x++([41]++[])))):=by simp [v7,T.nm,T.nms,Sp.at]
  simp only [List.map_cons,List.flatten_cons,List.append_assoc] at hr ⊢
  obtain ⟨hr1,hr2⟩:=zfb hr
  have ih:=zyb (n:=n) (r:=r) (kids:=kids) (i:=i) (k':=k') (pl':=pl') (nm':=nm') (nms':=nms') hq hl hk rest (j+1) q (Sp.app L (v7 (.mk 13 nm [] [x] pl))) h3 h1 (by simp at hk'; omega) hr2
  rw [xm] at ih
  rw [←ih,et]
  rw [et] at hr1
  simp only [I94]
  have nx:[x][(0:Int).toNat]?=some x:=rfl
  have ex:decide ((0:Int)<(([x].map D.str).length:Int))=true:=rfl
  rw [i94,ye h1,zq,ye h1,xd,z6,Int.toNat_natCast,h2,qd h1 hl]
  simp only [cond_true,zb,zc,Bool.and_self,zah,x5,w7,w0,wz,wy,zvw,Bool.true_or,ex,xi,nx,zbz,yb,hr1]
theorem zu1{t:T}(h:Sp.elem t=true):∃ qs plf r pl,t=.mk 11 [] (.mk 12 [] qs [] plf::r) [] pl∧(∀ q∈qs,ql q=true)∧(r=[]∨∃ u,r=[u]∧Sp.right u=true):=by
 obtain ⟨k,nm,kids,nms,pl⟩:=t
 rcases kids with _ | ⟨f,_ | ⟨u,_ | ⟨c,l⟩⟩⟩ <;> simp [Sp.elem] at h
 ·obtain ⟨k',nm',kids',nms',pl'⟩:=f
  simp [qk] at h
  obtain ⟨⟨⟨rfl,rfl⟩,rfl⟩,⟨⟨rfl,rfl⟩,rfl⟩,h⟩:=h
  exact ⟨kids',pl',[],pl,rfl,h,.inl rfl⟩
 ·obtain ⟨k',nm',kids',nms',pl'⟩:=f
  simp [qk] at h
  obtain ⟨⟨⟨⟨rfl,rfl⟩,rfl⟩,⟨⟨rfl,rfl⟩,rfl⟩,h⟩,hu⟩:=h
  exact ⟨kids',pl',[u],pl,rfl,h,.inr ⟨u,rfl,hu⟩⟩
theorem zwq(k:Int)(nm:List UInt8)(f:T)(r:List T)(nms:List (List UInt8))(pl:Int):v8 (.mk k nm (f::r) nms pl)=zei f++vv (f::r):=rfl
theorem zxy{m n:Nat}{kids:List T}(hn:4294967296<n)(hl:kids.length<4294967296)(ho:T.oks kids=true)(hd0:T.depths kids≤m)(he:∀ t∈kids,Sp.elem t=true) :
  ∀ (rest:List T) (j r:Nat) (L:List D),kids.drop j=rest→j≤kids.length→rest.length<r→Sp.room L (zap (decide (j=0)) rest++[93])=true →
   O94 m n r L kids j=some (.ret (.tup []),psS true (Sp.app L (zap (decide (j=0)) rest++[93])))
 | [],j,r,L,hd,hj,hk',hr=>by
  obtain ⟨r,rfl⟩:∃ i,r=i+1:=⟨r - 1,by omega⟩
  have:kids.length≤j:=by simpa using hd
  obtain rfl:j=kids.length:=by omega
  have e:zap (decide (kids.length=0)) []++[93]=[93]:=by cases decide (kids.length=0) <;> rfl
  rw [e] at hr ⊢
  simp only [O94]
  refine (l94 n m r L kids kids.length).trans ?_
  rw [yy,cond_false]
  simp only [yb,zb,cond_true,hr]
  rfl
 | t::rest,j,r,L,hd,hj,hk',hr=>by
  obtain ⟨r,rfl⟩:∃ i,r=i+1:=⟨r - 1,by omega⟩
  obtain ⟨h1,h2,h3⟩:=zcb hd
  have htm:=List.mem_of_getElem? h2
  obtain ⟨qs,plf,r',pl,rfl,hq,hr'⟩:=zu1 (he t htm)
  obtain ⟨_,o2,_,_,o5⟩:=wi (wn ho htm)
  have hdx:T.depths (.mk 12 [] qs [] plf::r')≤m:=by
   have:=zfl htm
   simp only [T.depth] at this; omega
  have hql:qs.length<4294967296:=by
   obtain ⟨_,q2,_,_,_⟩:=wi (wn o5 (List.mem_cons_self ..))
   exact yj q2
  have hkt:(T.mk 12 [] qs [] plf::r').length=2→∃ t,(T.mk 12 [] qs [] plf::r')[1]?=some t∧zg m t.d=some t∧Sp.right t=true:=by
   intro h
   rcases hr' with rfl | ⟨u,rfl,hu⟩
   ·simp at h
   ·exact ⟨u,rfl,qy hdx o5 (by simp),hu⟩
  have step:∀ s:List UInt8,zap (decide (j=0)) (.mk 11 [] (.mk 12 [] qs [] plf::r') [] pl::rest)++[93]=(bif decide (j=0) then [] else [44,32])++(bif qs.isEmpty then [49] else [])++((qs.map v7).flatten++vv (.mk 12 [] qs [] plf::r'))++(zap (decide (j+1=0)) rest++[93]):=by
   intro _
   rw [zap,zwq,zei,qx,decide_eq_false (p:=j+1=0) (by omega)]
   simp only [List.append_assoc]
  rw [step []] at hr ⊢
  generalize hP:(bif decide (j=0) then [] else [44,32]:List UInt8)=P at hr ⊢
  generalize hQ:(bif qs.isEmpty then [49] else []:List UInt8)=Q at hr ⊢
  obtain ⟨r1,r2⟩:=zfb hr
  obtain ⟨r3,r4⟩:=zfb r1
  obtain ⟨r5,r6⟩:=zfb r3
  have h_in:=zyb (n:=n) (r:=r) (kids:=kids) (i:=(j:Int)) (k':=11) (pl':=pl) (nm':=[]) (nms':=[]) hq hql hkt qs 0 n (Sp.app L (P++Q)) rfl (Nat.zero_le _) (by omega) r4
  have h_out:=zxy hn hl ho hd0 he rest (j+1) r (Sp.app L (P++Q++((qs.map v7).flatten++vv (.mk 12 [] qs [] plf::r')))) h3 h1 (by simp at hk'; omega) r2
  rw [xm,qd h1 hl] at h_in
  have h:=h_in.trans h_out
  rw [xm] at h
  rw [←h]
  have f0:(T.mk 12 [] qs [] plf::r')[(0:Int).toNat]?=some (T.mk 12 [] qs [] plf):=rfl
  have g0:decide ((0:Int)<((T.ds (T.mk 12 [] qs [] plf::r')).length:Int))=true:=decide_eq_true (by rw [zq]; simp)
  simp only [O94,I94]
  refine (l94 n m r L kids j).trans ?_
  rw [ye h1,zq,ye h1,xd,z6,Int.toNat_natCast,h2]
  simp only [cond_true,zb,zc,Bool.and_self,zah,x5,w7,w0,wz,wy,zfa,Bool.true_or,z6,f0,g0,yb]
  rw [zq,znw]
  rcases j with _ | j
  ·simp only [decide_true,cond_true] at hP
   subst hP
   rcases qs with _ | ⟨q,qs⟩
   ·simp only [List.isEmpty_nil,cond_true] at hQ
    subst hQ
    simp only [List.nil_append] at r6 ⊢
    rw [zmu] at r6
    simp [r6]
   ·simp only [List.isEmpty_cons,cond_false] at hQ
    subst hQ
    simp [zmu]
  ·simp only [Nat.succ_ne_zero,decide_false,cond_false] at hP
   subst hP
   have hj0:decide ((0:Int)<((j+1:Nat):Int))=true:=decide_eq_true (by omega)
   rw [hj0]
   rcases qs with _ | ⟨q,qs⟩
   ·simp only [List.isEmpty_nil,cond_true] at hQ
    subst hQ
    simp [r5,r6,xm]
   ·simp only [List.isEmpty_cons,cond_false] at hQ
    subst hQ
    simp [r5]
theorem zp7{nm:List UInt8}{kids:List T}{nms:List (List UInt8)}{pl:Int}(h:Sp.right (.mk 10 nm kids nms pl)=true):∀ t∈kids,Sp.elem t=true:=by
 rcases kids with _ | ⟨a,_ | ⟨b,_ | ⟨c,l⟩⟩⟩ <;> simp [Sp.right,zfj] at h ⊢ <;> simp_all
theorem z9l{m:Nat}(hm:knows cx (KT m).S (zh cx)){u:Bool}{L:List D}{t:T}(hd:t.depth≤m+1)(ho:t.ok=true)(hi:zbl t=true)(hr:Sp.room L (zcz t)=true) :
  zh cx 196 [.ptr 0 0,.d t.d] (psS u L)=some (.ret (.tup []),psS true (Sp.app L (zcz t))):=by
 obtain ⟨k,nm,kids,nms,pl⟩:=t
 obtain ⟨h1,h2,h3,h4,h5⟩:=wi ho
 have hkd:=vi hd
 simp only [zbl,Bool.and_eq_true] at hi
 have hk:k=10:=of_decide_eq_true hi.2
 subst hk
 refine zl hm (N:=4294967297) ?_
 refine (ydb _ m L u 10 nm kids nms pl).trans ?_
 simp only [zcz,List.append_assoc] at hr ⊢
 obtain ⟨r1,r2⟩:=zfb hr
 have h:=zxy (m:=m) (n:=4294967297) (kids:=kids) (by omega) (yj h2) h5 hkd (zp7 hi.1) kids 0 4294967297 (Sp.app L [91]) rfl (Nat.zero_le _) (by have:=yj h2; omega) r2
 rw [xm] at h
 simp only [yb,zb,cond_true,r1,zq]
 exact h
end Go.Vai
end

section
namespace Go.Vai
open Go.Proofs
theorem zxv{k:Int}{nm:List UInt8}{kids:List T}{nms:List (List UInt8)}{pl:Int}(h:Sp.right (.mk k nm kids nms pl)=true) :
  k=1∨((k=2∨k=3)∧∃ a,kids=[a]∧Sp.right a=true)∨(k=4∨k=5)∨(k=6∧∃ a b,kids=[a,b]∧Sp.right a=true∧Sp.right b=true)∨(k=7∧∃ a b,kids=[a,b]∧Sp.right a=true∧Sp.form b=true)∨(k=8∨k=9)∨k=10:=by
 rcases kids with _ | ⟨a,_ | ⟨b,_ | ⟨c,l⟩⟩⟩
 ·simp [Sp.right] at h
  rcases h.2 with h | h <;> simp [h.1]
 ·simp [Sp.right] at h
  rcases h.2 with h | h
  ·refine .inr (.inl ⟨h.1.1.1,a,rfl,h.2⟩)
  ·simp [h.1.1]
 ·simp [Sp.right] at h
  rcases h.2 with ((h | h) | h) | h
  ·rcases h.1.1.1.1 with rfl | rfl <;> simp
  ·rcases h.1.1.1 with (hk | hk) | hk
   ·exact .inr (.inr (.inr (.inl ⟨hk,a,b,rfl,h.1.2,h.2⟩)))
   ·simp [hk]
   ·simp [hk]
  ·exact .inr (.inr (.inr (.inr (.inl ⟨h.1.1.1,a,b,rfl,h.1.2,h.2⟩))))
  ·simp [h.1.1.1]
 ·simp [Sp.right] at h
  simp [h]
theorem zsc{nms:List (List UInt8)}{sep:List UInt8}(h3:yi nms=true)(h4:nms.all yi=true)(h:(zu nms sep).length≤140737488355328):zcf (D.sl 1 (nms.map D.str),sep)=some (nms,sep):=by
 unfold zcf
 simp only [zt0 h3 h4]
 rw [decide_eq_true (by unfold zu at h; omega)]
 rfl
theorem z0o{m:Nat}(hm:knows cx (KT m).S (zh cx)):knows cx (K71 m).S (zh cx):=by
 have h92:=zak (f:=194) (dec:=zl9) (sp:=z5r) hm fun a q s u L ha hs hr=>by
  obtain ⟨x,n⟩:=q
  obtain rfl:=zgf ha
  obtain ⟨t,ht,hs⟩:=zd hs
  obtain ⟨hf,hs⟩:=ze hs
  cases hs
  obtain ⟨rfl,h2⟩:=xe ht
  exact z54 t.depth u L t n (Nat.le_refl _) h2 hf hr
 have h94:=zak (f:=196) (dec:=zrh) (sp:=z9a (m+1)) h92 fun a x s u L ha hs hr=>by
  obtain rfl:=zok ha
  obtain ⟨t,ht,hs⟩:=zd hs
  obtain ⟨hf,hs⟩:=ze hs
  cases hs
  obtain ⟨rfl,h1,h2⟩:=yx ht
  exact z9l hm h1 h2 hf hr
 have h93:=zak (f:=195) (dec:=zu3) (sp:=z9b (m+1)) h94 fun a q s u L ha hs hr=>by
  obtain ⟨x,g⟩:=q
  obtain rfl:=zoj ha
  obtain ⟨t,ht,hs⟩:=zd hs
  obtain ⟨hf,hs⟩:=ze hs
  cases hs
  obtain ⟨rfl,h1,h2⟩:=yx ht
  exact z9m hm h1 h2 hf hr
 exact zak h93 fun a q s u L ha hs hr=>by
  obtain ⟨x,g⟩:=q
  obtain rfl:=zoj ha
  obtain ⟨t,ht,hs⟩:=zd hs
  obtain ⟨hf,hs⟩:=ze hs
  cases hs
  obtain ⟨rfl,h1,h2⟩:=yx ht
  exact z9n hm h1 h2 hf hr
theorem z9w{m:Nat}(hm:knows cx (KT m).S (zh cx)){u:Bool}{L:List D}{t:T}(hd:t.depth≤m+1)(ho:t.ok=true)(hi:Sp.right t=true)(hr:Sp.room L (Sp.bare t)=true) :
  zh cx 163 [.ptr 0 0,.d t.d] (psS u L)=some (.ret (.tup []),psS true (Sp.app L (Sp.bare t))):=by
 have hTt:=zde hd ho
 obtain ⟨k,nm,kids,nms,pl⟩:=t
 obtain ⟨h1,h2,h3,h4,h5⟩:=wi ho
 have hkd:=vi hd
 have hT:∀ t∈kids,zg m t.d=some t:=fun t h=>qy hkd h5 h
 simp only [T.d] at hTt
 refine zl (z0o hm) (N:=0) ?_
 rcases zxv hi with rfl | ⟨hk,a,rfl,ha⟩ | hk | ⟨rfl,a,b,rfl,ha,hb⟩ | ⟨rfl,a,b,rfl,ha,hb⟩ | hk | rfl
 ·refine (z8b 0 m L u nm kids nms pl).trans ?_
  have e:Sp.bare (.mk 1 nm kids nms pl)=nm:=by simp [Sp.bare]
  rw [e] at hr ⊢
  simp only [yb,zb,cond_true,List.append_nil,hr]
  rfl
 ·have e0:decide ((0:Int)<((T.ds [a]).length:Int))=true:=by rw [zq]; rfl
  have n0:[a][(0:Int).toNat]?=some a:=rfl
  rcases hk with rfl | rfl
  ·have e:Sp.bare (.mk 2 nm [a] nms pl)=[92]++zu nms [32]++[46,32]++Sp.text a 0:=by simp [Sp.bare,←yq [a] 0 0 a rfl]
   rw [e] at hr ⊢
   have hlen:=room_le hr
   simp only [List.length_append,List.length_cons,List.length_nil] at hlen
   refine (z8a 0 m L u nm [a] nms pl).trans ?_
   simp only [zsc h3 h4 (sep:=[32]) (by omega),e0,z6,n0,yc,x5,w7,w0,wz,wy,wd,hT a (by simp),zc,zb,cond_true,yb,ha]
   simp (disch:=((try simp only [xz,List.length_append,List.length_cons,List.length_nil]); omega)) only [wg,cond_true]
   simp [xm,psS,adV]
  ·have e:Sp.bare (.mk 3 nm [a] nms pl)=[60]++zu nms [32]++[62,32]++Sp.text a 0:=by simp [Sp.bare,←yq [a] 0 0 a rfl]
   rw [e] at hr ⊢
   have hlen:=room_le hr
   simp only [List.length_append,List.length_cons,List.length_nil] at hlen
   refine (z79 0 m L u nm [a] nms pl).trans ?_
   simp only [zsc h3 h4 (sep:=[32]) (by omega),e0,z6,n0,yc,x5,w7,w0,wz,wy,wd,hT a (by simp),zc,zb,cond_true,yb,ha]
   simp (disch:=((try simp only [xz,List.length_append,List.length_cons,List.length_nil]); omega)) only [wg,cond_true]
   simp [xm,psS,adV]
 ·rcases hk with rfl | rfl
  ·have hB:zds (.mk 4 nm kids nms pl)=true:=by unfold zds; rw [hi]; rfl
   have e:Sp.bare (.mk 4 nm kids nms pl)=zej (.mk 4 nm kids nms pl) [32,45,62,32]:=by simp [Sp.bare,zej]
   rw [e] at hr ⊢
   refine (z78 0 m L u nm kids nms pl).trans ?_
   simp only [hTt,hB,zc,zb,cond_true,yb,hr]
   rfl
  ·have hB:zds (.mk 5 nm kids nms pl)=true:=by unfold zds; rw [hi]; rfl
   have e:Sp.bare (.mk 5 nm kids nms pl)=zej (.mk 5 nm kids nms pl) [32,42,32]:=by simp [Sp.bare,zej]
   rw [e] at hr ⊢
   refine (z77 0 m L u nm kids nms pl).trans ?_
   simp only [hTt,hB,zc,zb,cond_true,yb,hr]
   rfl
 ·have e0:decide ((0:Int)<((T.ds [a,b]).length:Int))=true:=by rw [zq]; rfl
  have e1:decide ((1:Int)<((T.ds [a,b]).length:Int))=true:=by rw [zq]; rfl
  have n0:[a,b][(0:Int).toNat]?=some a:=rfl
  have n1:[a,b][(1:Int).toNat]?=some b:=rfl
  have e:Sp.bare (.mk 6 nm [a,b] nms pl)=Sp.text a 1++[32]++Sp.text b 2:=by simp [Sp.bare,←yq [a,b] 1 0 a rfl,←yq [a,b] 2 1 b rfl]
  rw [e] at hr ⊢
  have hlen:=room_le hr
  simp only [List.length_append,List.length_cons,List.length_nil] at hlen
  refine (z74 0 m L u nm [a,b] nms pl).trans ?_
  simp only [e0,e1,z6,n0,n1,yc,x5,w7,w0,wz,wy,wd,hT a (by simp),hT b (by simp),zc,zb,cond_true,yb,ha,hb]
  simp (disch:=((try simp only [xz,List.length_append,List.length_cons,List.length_nil]); omega)) only [wg,cond_true]
  simp [xm,psS,adV]
 ·have e0:decide ((0:Int)<((T.ds [a,b]).length:Int))=true:=by rw [zq]; rfl
  have e1:decide ((1:Int)<((T.ds [a,b]).length:Int))=true:=by rw [zq]; rfl
  have n0:[a,b][(0:Int).toNat]?=some a:=rfl
  have n1:[a,b][(1:Int).toNat]?=some b:=rfl
  have e:Sp.bare (.mk 7 nm [a,b] nms pl)=Sp.text a 1++[32,64,32]++wl b 2:=by simp [Sp.bare,←yq [a,b] 1 0 a rfl]
  rw [e] at hr ⊢
  have hlen:=room_le hr
  simp only [List.length_append,List.length_cons,List.length_nil] at hlen
  refine (z73 0 m L u nm [a,b] nms pl).trans ?_
  simp only [e0,e1,z6,n0,n1,yc,x5,w7,w0,wz,wy,wd,hT a (by simp),zc1 h5 (t:=b) (by simp),zc,zb,cond_true,yb,ha,hb]
  simp (disch:=((try simp only [xz,List.length_append,List.length_cons,List.length_nil]); omega)) only [wg,cond_true]
  simp [xm,psS,adV]
 ·rcases hk with rfl | rfl
  ·have hB:zdr (.mk 8 nm kids nms pl)=true:=by unfold zdr; rw [hi]; rfl
   have e:Sp.bare (.mk 8 nm kids nms pl)=zeg (.mk 8 nm kids nms pl) [44,32]:=by simp [Sp.bare,zeg]
   rw [e] at hr ⊢
   refine (z71 0 m L u nm kids nms pl).trans ?_
   simp only [hTt,hB,zc,zb,cond_true,yb,hr]
   rfl
  ·have hB:zdr (.mk 9 nm kids nms pl)=true:=by unfold zdr; rw [hi]; rfl
   have e:Sp.bare (.mk 9 nm kids nms pl)=zeg (.mk 9 nm kids nms pl) [32,58,32]:=by simp [Sp.bare,zeg]
   rw [e] at hr ⊢
   refine (z7z 0 m L u nm kids nms pl).trans ?_
   simp only [hTt,hB,zc,zb,cond_true,yb,hr]
   rfl
 ·have hB:zbl (.mk 10 nm kids nms pl)=true:=by unfold zbl; rw [hi]; rfl
  have e:Sp.bare (.mk 10 nm kids nms pl)=zcz (.mk 10 nm kids nms pl):=by simp [Sp.bare,zcz]
  rw [e] at hr ⊢
  refine (z40 0 m L u nm kids nms pl).trans ?_
  simp only [hTt,hB,zc,zb,cond_true,yb,hr]
  rfl
theorem z68{m:Nat}(hc:knows cx (clK 162 zmc zlx zr4 (fun _ x=>zyz m x) K91).S (zh cx)){u b:Bool}{L:List D}{t:T}(hd:t.depth≤m)(ho:t.ok=true)(hi:Sp.right t=true)(hr:Sp.room L (zw b (Sp.bare t))=true) :
  zh cx 160 [.ptr 0 0,.d (.bool b),.func 162 [.ptr 2 0,.ptr 3 0]] (psB u L t.d)=some (.ret (.tup []),psB true (Sp.app L (zw b (Sp.bare t))) t.d):=by
 have hT:=zde hd ho
 have hlen:=room_le hr
 rw [zgr] at hlen
 refine zl hc (N:=0) ?_
 obtain ⟨k,nm,kids,nms,pl⟩:=t
 refine (ya8 0 m L u k nm kids nms pl b).trans ?_
 simp only [T.d] at hT
 cases b
 ·simp only [cond_false] at hlen
  simp only [hT,zc,zb,hi,cond_true,cond_false,yb]
  simp (disch:=((try simp only [xz,List.length_append,List.length_cons,List.length_nil]); omega)) only [wg,cond_true]
  simp [xm,psB,psS,adV,T.d,zw]
 ·simp only [cond_true] at hlen
  simp only [hT,zc,zb,hi,cond_true,cond_false,yb]
  simp (disch:=((try simp only [xz,List.length_append,List.length_cons,List.length_nil]); omega)) only [wg,cond_true]
  simp [xm,psB,psS,adV,T.d,zw]
theorem z0p{m:Nat}(hm:knows cx (KT m).S (zh cx)):knows cx (K70 (m+1)).S (zh cx):=by
 have h71:knows cx (prK 163 zrh (zyz (m+1)) K91).S (zh cx):=zak zb0 fun a x s u L ha hs hr=>by
  obtain rfl:=zok ha
  obtain ⟨t,ht,hs⟩:=zd hs
  obtain ⟨hf,hs⟩:=ze hs
  cases hs
  obtain ⟨rfl,h1,h2⟩:=yx ht
  exact z9w hm h1 h2 hf hr
 have hc:knows cx (clK 162 zmc zlx zr4 (fun _ x=>zyz (m+1) x) K91).S (zh cx):=zd0 zb0 znc fun a b x s u L ha hs hr=>by
  obtain rfl:=zon ha
  obtain ⟨t,ht,hs⟩:=zd hs
  obtain ⟨hf,hs⟩:=ze hs
  cases hs
  obtain ⟨rfl,h1,h2⟩:=yx ht
  have hT:=zde h1 h2
  refine zl h71 (N:=0) ?_
  obtain ⟨k,nm,kids,nms,pl⟩:=t
  refine (ydg 0 (m+1) L u k nm kids nms pl).trans ?_
  simp only [T.d] at hT
  simp only [hT,zc,zb,hf,cond_true,yb,hr]
  rfl
 exact zd0 zb0 zqa fun a b x s u L ha hs hr=>by
  obtain rfl:=zi6 ha
  obtain ⟨s',hs',hs⟩:=zd hs
  cases hs
  obtain ⟨t,ht,hs'⟩:=zd hs'
  obtain ⟨hf,hs'⟩:=ze hs'
  cases hs'
  obtain ⟨rfl,h1,h2⟩:=yx ht
  exact z68 hc h1 h2 hf hr
theorem z6a:∀ (m:Nat) (u:Bool) (L:List D) (t:T) (a:Int),t.depth≤m→t.ok=true→Sp.right t=true→Sp.room L (Sp.text t a)=true →
  zh cx 128 [.ptr 0 0,.d t.d,.d (.int .i64 a)] (psS u L)=some (.ret (.tup []),psS true (Sp.app L (Sp.text t a)))
 | 0,_,_,.mk ..,_,h,_,_,_=>by simp [T.depth] at h
 | m+1,u,L,t,a,hd,ho,hi,hr=>by
  have hm:knows cx (KT m).S (zh cx):=zak zb0 fun a q s u L ha hs hr=>by
   obtain ⟨x,n⟩:=q
   obtain rfl:=zgf ha
   obtain ⟨t,ht,hs⟩:=zd hs
   obtain ⟨hf,hs⟩:=ze hs
   cases hs
   obtain ⟨rfl,h1,h2⟩:=yx ht
   exact z6a m u L t n h1 h2 hf hr
  have hT:=zde hd ho
  have hC:=zdf ho
  refine zl (z0p hm) (N:=0) ?_
  obtain ⟨k,nm,kids,nms,pl⟩:=t
  refine (ydm 0 (m+1) L u k nm kids nms pl a).trans ?_
  simp only [T.d] at hT hC
  unfold Sp.text at hr ⊢
  simp only [hT,hC,zc,zb,hi,cond_true,yb,hr]
  rfl
end Go.Vai
end

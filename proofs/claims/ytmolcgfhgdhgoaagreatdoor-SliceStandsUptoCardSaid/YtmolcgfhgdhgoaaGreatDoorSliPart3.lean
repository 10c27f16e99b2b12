/-
  Show: the printer's functions, called. To: The library's contracts that are leaned on, at this program: strings.Builder's String, strings.Join, slices.Sort, slices.Clone, slices.Grow.
-/
import Derived.Test.YtmolcgfhgdhgoaaGreatDoorSliPart2
import Derived.Shelf.Spec.SlicesGrow
import Derived.Shelf.Strings.Builder1
import Derived.Shelf.Strings.Builder2
import Derived.Shelf.Strings.OnBuilder
import Derived.Shelf.Strings.BuilderF
import Derived.Shelf.Strings.BuilderK
import Derived.Shelf.Strings.Builder2Cap
import Derived.Shelf.Sort.Plain
import Derived.Shelf.Slices.Clone
import Derived.Test.YtmolcgfhgdhgoaaGreatDoorProg
set_option linter.all false
noncomputable section
namespace Go.Vai
open Go.Proofs
def zda(t:T):Bool:=Sp.right t&&(decide (t.k=4)||decide (t.k=5))
def zc9(t:T):Bool:=Sp.right t&&(decide (t.k=8)||decide (t.k=9))
def zh4(t:T):Bool:=Sp.right t&&decide (t.k=10)
def zd2:T→List UInt8→List UInt8 | .mk _ _ kids nms _,s=>(bif decide (nms.length=1) then [40]++Sp.at nms 0++[32,58,32]++Sp.at (Sp.texts kids 0) 0++[41] else yw (zbo kids) (Sp.at (Sp.texts kids 1) 0))++s++Sp.at (Sp.texts kids 0) 1
def zdy:T→List UInt8→List UInt8 | .mk _ _ kids _ _,s=>[40]++Sp.at (Sp.texts kids 0) 0++s++Sp.at (Sp.texts kids 0) 1++[41]
def zi8:T→List UInt8 | .mk _ _ kids _ _=>[91]++zas true kids++[93]
def ybt(m:Nat):D×List UInt8→Option (List UInt8) | (x,s)=>zd (zi m x) λ t=>za (zda t) (some (zd2 t s))
def z8z(m:Nat):D×List UInt8→Option (List UInt8) | (x,s)=>zd (zi m x) λ t=>za (zc9 t) (some (zdy t s))
def z8y(m:Nat)(x:D):Option (List UInt8):=zd (zi m x) λ t=>za (zh4 t) (some (zi8 t))
def zyw(m:Nat)(x:D):Option (List UInt8):=zd (zi m x) λ t=>za (Sp.right t) (some (Sp.bare t))
def z5r:D×Int→Option (List UInt8) | (x,a)=>zd (Sp.toC x) λ t=>za (Sp.form t) (some (za5 t a))
def zxn(m:Nat)(x:D):Option (List UInt8):=zd (zi m x) λ t=>za (Sp.form t) (some (xz t))
def KT(m:Nat):CK R1:=prK 128 zl0 (z1o m) K91
def KM(m:Nat):CK R1:=prK 194 zl0 (ybs m) K91
def ybp(m:Nat):CK R1:=clK 160 (zu1 218) z6o psF (λ b x=>zd (zxn m x) λ s=>some (yw b s)) K91
def ybq(m:Nat):CK R1:=clK 160 (zu1 216) z4i psB (λ b x=>zd (z1o m (x,1)) λ s=>some (yw b s)) (KT m)
def K70(m:Nat):CK R1:=clK 160 (zu1 162) z4i psB (λ b x=>zd (zyw m x) λ s=>some (yw b s)) K91
def K71(m:Nat):CK R1:=prK 193 zux (ybt (m+1)) (prK 195 zux (z8z (m+1)) (prK 196 zrd (z8y (m+1)) (prK 194 zl0 z5r (KT m))))
theorem g69(n:Nat)(k:Int)(nm:List UInt8)(kids:List T)(nms:List (List UInt8))(pl:Int):zk cx (CK.plain zo) n 161 [.d (.agg [.int .i64 k,.str nm,.sl 5 (T.ds kids),.sl 1 (nms.map .str),.int .i64 pl])] []=bif decide (k=(2:Int)) then bif decide (k=(2:Int)) then some (Out.ret (V.d (D.int .i64 (0:Int))),[]) else bif decide (k=(6:Int)) then bif decide (k=(6:Int)) then some (Out.ret (V.d (D.int .i64 (1:Int))),[]) else some (Out.ret (V.d (D.int .i64 (2:Int))),[]) else bif decide (k=(7:Int)) then some (Out.ret (V.d (D.int .i64 (1:Int))),[]) else some (Out.ret (V.d (D.int .i64 (2:Int))),[]) else bif decide (k=(3:Int)) then bif decide (k=(3:Int)) then some (Out.ret (V.d (D.int .i64 (0:Int))),[]) else bif decide (k=(6:Int)) then bif decide (k=(6:Int)) then some (Out.ret (V.d (D.int .i64 (1:Int))),[]) else some (Out.ret (V.d (D.int .i64 (2:Int))),[]) else bif decide (k=(7:Int)) then some (Out.ret (V.d (D.int .i64 (1:Int))),[]) else some (Out.ret (V.d (D.int .i64 (2:Int))),[]) else bif decide (k=(4:Int)) then bif decide (k=(4:Int)) then some (Out.ret (V.d (D.int .i64 (0:Int))),[]) else bif decide (k=(6:Int)) then bif decide (k=(6:Int)) then some (Out.ret (V.d (D.int .i64 (1:Int))),[]) else some (Out.ret (V.d (D.int .i64 (2:Int))),[]) else bif decide (k=(7:Int)) then some (Out.ret (V.d (D.int .i64 (1:Int))),[]) else some (Out.ret (V.d (D.int .i64 (2:Int))),[]) else bif decide (k=(5:Int)) then some (Out.ret (V.d (D.int .i64 (0:Int))),[]) else bif decide (k=(6:Int)) then bif decide (k=(6:Int)) then some (Out.ret (V.d (D.int .i64 (1:Int))),[]) else some (Out.ret (V.d (D.int .i64 (2:Int))),[]) else bif decide (k=(7:Int)) then some (Out.ret (V.d (D.int .i64 (1:Int))),[]) else some (Out.ret (V.d (D.int .i64 (2:Int))),[]):=by kernel_rfl
theorem ycf(n:Nat)(k:Int):zk cx (CK.plain zo) n 217 [.d (.int .i64 k)] []=bif decide (k=(14:Int)) then some (Out.ret (V.d (D.int .i64 (0:Int))),[]) else bif decide (k=(15:Int)) then some (Out.ret (V.d (D.int .i64 (1:Int))),[]) else some (Out.ret (V.d (D.int .i64 (2:Int))),[]):=by kernel_rfl
theorem yap(n m:Nat)(L:List D)(u:Bool)(k:Int)(nm:List UInt8)(kids:List T)(nms:List (List UInt8))(pl:Int):zk cx (KM m) n 218 [.ptr 0 0,.ptr 1 0] (ze0 u L (.agg [.int .i64 k,.str nm,.sl 5 (T.ds kids),.sl 1 (nms.map .str),.int .i64 pl]))=bif decide (k=(16:Int)) then za (Sp.fit L.length L) (za (Sp.room L [126]) (za (decide ((0:Int)<(↑(T.ds kids).length:Int))) (ze (T.ds kids) (0:Int).toNat λ y=>ze y.cells 0 λ c=>ze y.cells 1 λ c_1=>ze y.cells 2 λ c_2=>ze y.cells 3 λ c_3=>ze y.cells 4 λ c_4=>zd (zd (zi m (D.agg [c,c_1,c_2,c_3,c_4])) λ t=>za (Sp.form t) (some (za5 t (2:Int)))) λ s=>za (Sp.fit (Sp.app L [126]).length (Sp.app L [126])) (za (Sp.room (Sp.app L [126]) s) (some (Out.ret (V.tup []),[(0,Ob.val 5 (V.d (D.agg [D.int .i64 k,D.str nm,D.sl 5 (T.ds kids),D.sl 1 (List.map D.str nms),D.int .i64 pl]))),(1,Ob.val 1 (V.ptr 2 0)),(2,Ob.val 187695107 (V.agg [V.ptr 2 0,V.sl 6291457 (Sp.app (Sp.app L [126]) s) 3,V.d (D.bool false)])),(3,Ob.tok (Sp.app (Sp.app L [126]) s).length)])))))) else bif decide (k=(15:Int)) then za (decide ((0:Int)<(↑(T.ds kids).length:Int))) (ze (T.ds kids) (0:Int).toNat λ y=>ze y.cells 0 λ c=>ze y.cells 1 λ c_1=>ze y.cells 2 λ c_2=>ze y.cells 3 λ c_3=>ze y.cells 4 λ c_4=>zd (zd (zi m (D.agg [c,c_1,c_2,c_3,c_4])) λ t=>za (Sp.form t) (some (za5 t (1:Int)))) λ s=>za (Sp.fit L.length L) (za (Sp.room L s) (za (Sp.fit (Sp.app L s).length (Sp.app L s)) (za (Sp.room (Sp.app L s) [32,47,92,32]) (za (decide ((1:Int)<(↑(T.ds kids).length:Int))) (ze (T.ds kids) (1:Int).toNat λ y=>ze y.cells 0 λ c=>ze y.cells 1 λ c_5=>ze y.cells 2 λ c_6=>ze y.cells 3 λ c_7=>ze y.cells 4 λ c_8=>zd (zd (zi m (D.agg [c,c_5,c_6,c_7,c_8])) λ t=>za (Sp.form t) (some (za5 t (2:Int)))) λ s_1=>za (Sp.fit (Sp.app (Sp.app L s) [32,47,92,32]).length (Sp.app (Sp.app L s) [32,47,92,32])) (za (Sp.room (Sp.app (Sp.app L s) [32,47,92,32]) s_1) (some (Out.ret (V.tup []),[(0,Ob.val 5 (V.d (D.agg [D.int .i64 k,D.str nm,D.sl 5 (T.ds kids),D.sl 1 (List.map D.str nms),D.int .i64 pl]))),(1,Ob.val 1 (V.ptr 2 0)),(2,Ob.val 187695107 (V.agg [V.ptr 2 0,V.sl 6291457 (Sp.app (Sp.app (Sp.app L s) [32,47,92,32]) s_1) 3,V.d (D.bool false)])),(3,Ob.tok (Sp.app (Sp.app (Sp.app L s) [32,47,92,32]) s_1).length)]))))))))) else bif decide (k=(14:Int)) then za (decide ((0:Int)<(↑(T.ds kids).length:Int))) (ze (T.ds kids) (0:Int).toNat λ y=>ze y.cells 0 λ c=>ze y.cells 1 λ c_1=>ze y.cells 2 λ c_2=>ze y.cells 3 λ c_3=>ze y.cells 4 λ c_4=>zd (zd (zi m (D.agg [c,c_1,c_2,c_3,c_4])) λ t=>za (Sp.form t) (some (za5 t (0:Int)))) λ s=>za (Sp.fit L.length L) (za (Sp.room L s) (za (Sp.fit (Sp.app L s).length (Sp.app L s)) (za (Sp.room (Sp.app L s) [32,92,47,32]) (za (decide ((1:Int)<(↑(T.ds kids).length:Int))) (ze (T.ds kids) (1:Int).toNat λ y=>ze y.cells 0 λ c=>ze y.cells 1 λ c_5=>ze y.cells 2 λ c_6=>ze y.cells 3 λ c_7=>ze y.cells 4 λ c_8=>zd (zd (zi m (D.agg [c,c_5,c_6,c_7,c_8])) λ t=>za (Sp.form t) (some (za5 t (1:Int)))) λ s_1=>za (Sp.fit (Sp.app (Sp.app L s) [32,92,47,32]).length (Sp.app (Sp.app L s) [32,92,47,32])) (za (Sp.room (Sp.app (Sp.app L s) [32,92,47,32]) s_1) (some (Out.ret (V.tup []),[(0,Ob.val 5 (V.d (D.agg [D.int .i64 k,D.str nm,D.sl 5 (T.ds kids),D.sl 1 (List.map D.str nms),D.int .i64 pl]))),(1,Ob.val 1 (V.ptr 2 0)),(2,Ob.val 187695107 (V.agg [V.ptr 2 0,V.sl 6291457 (Sp.app (Sp.app (Sp.app L s) [32,92,47,32]) s_1) 3,V.d (D.bool false)])),(3,Ob.tok (Sp.app (Sp.app (Sp.app L s) [32,92,47,32]) s_1).length)]))))))))) else za (Sp.fit L.length L) (za (Sp.room L (nm++[])) (some (Out.ret (V.tup []),[(0,Ob.val 5 (V.d (D.agg [D.int .i64 k,D.str nm,D.sl 5 (T.ds kids),D.sl 1 (List.map D.str nms),D.int .i64 pl]))),(1,Ob.val 1 (V.ptr 2 0)),(2,Ob.val 187695107 (V.agg [V.ptr 2 0,V.sl 6291457 (Sp.app L (nm++[])) 3,V.d (D.bool false)])),(3,Ob.tok (Sp.app L (nm++[])).length)]))):=by cases u <;> kernel_rfl
theorem yb7(n m:Nat)(L:List D)(u:Bool)(k:Int)(nm:List UInt8)(kids:List T)(nms:List (List UInt8))(pl:Int):zk cx (prK 163 zrd (zyw m) K91) n 162 [.ptr 0 0,.ptr 3 0] (zrx u L (.agg [.int .i64 k,.str nm,.sl 5 (T.ds kids),.sl 1 (nms.map .str),.int .i64 pl]))=zd (zd (zi m (D.agg [D.int .i64 k,D.str nm,D.sl 5 (T.ds kids),D.sl 1 (List.map D.str nms),D.int .i64 pl])) λ t=>za (Sp.right t) (some (Sp.bare t))) λ s=>za (Sp.fit L.length L) (za (Sp.room L s) (some (Out.ret (V.tup []),[(0,Ob.val 1 (V.ptr 1 0)),(1,Ob.val 187695107 (V.agg [V.ptr 1 0,V.sl 6291457 (Sp.app L s) 2,V.d (D.bool false)])),(2,Ob.tok (Sp.app L s).length),(3,Ob.val 5 (V.d (D.agg [D.int .i64 k,D.str nm,D.sl 5 (T.ds kids),D.sl 1 (List.map D.str nms),D.int .i64 pl])))]))):=by cases u <;> kernel_rfl
theorem yaq(n m:Nat)(L:List D)(u:Bool)(k:Int)(nm:List UInt8)(kids:List T)(nms:List (List UInt8))(pl:Int):zk cx (KT m) n 216 [.ptr 0 0,.ptr 3 0] (zrx u L (.agg [.int .i64 k,.str nm,.sl 5 (T.ds kids),.sl 1 (nms.map .str),.int .i64 pl]))=zd (zd (zi m (D.agg [D.int .i64 k,D.str nm,D.sl 5 (T.ds kids),D.sl 1 (List.map D.str nms),D.int .i64 pl])) λ t=>za (Sp.right t) (some (Sp.text t (1:Int)))) λ s=>za (Sp.fit L.length L) (za (Sp.room L s) (some (Out.ret (V.tup []),[(0,Ob.val 1 (V.ptr 1 0)),(1,Ob.val 187695107 (V.agg [V.ptr 1 0,V.sl 6291457 (Sp.app L s) 2,V.d (D.bool false)])),(2,Ob.tok (Sp.app L s).length),(3,Ob.val 5 (V.d (D.agg [D.int .i64 k,D.str nm,D.sl 5 (T.ds kids),D.sl 1 (List.map D.str nms),D.int .i64 pl])))]))):=by cases u <;> kernel_rfl
theorem yb3(n m:Nat)(L:List D)(u:Bool)(k:Int)(nm:List UInt8)(kids:List T)(nms:List (List UInt8))(pl:Int)(s:List UInt8):zk cx (KT m) n 195 [.ptr 0 0,.d (.agg [.int .i64 k,.str nm,.sl 5 (T.ds kids),.sl 1 (nms.map .str),.int .i64 pl]),.d (.str s)] (psS u L)=za (Sp.fit L.length L) (za (Sp.room L [40]) (za (decide ((0:Int)<(↑(T.ds kids).length:Int))) (ze (T.ds kids) (0:Int).toNat λ y=>ze y.cells 0 λ c=>ze y.cells 1 λ c_1=>ze y.cells 2 λ c_2=>ze y.cells 3 λ c_3=>ze y.cells 4 λ c_4=>zd (zd (zi m (D.agg [c,c_1,c_2,c_3,c_4])) λ t=>za (Sp.right t) (some (Sp.text t (0:Int)))) λ s_1=>za (Sp.fit (Sp.app L [40]).length (Sp.app L [40])) (za (Sp.room (Sp.app L [40]) s_1) (za (Sp.fit (Sp.app (Sp.app L [40]) s_1).length (Sp.app (Sp.app L [40]) s_1)) (za (Sp.room (Sp.app (Sp.app L [40]) s_1) (s++[])) (za (decide ((1:Int)<(↑(T.ds kids).length:Int))) (ze (T.ds kids) (1:Int).toNat λ y=>ze y.cells 0 λ c=>ze y.cells 1 λ c_5=>ze y.cells 2 λ c_6=>ze y.cells 3 λ c_7=>ze y.cells 4 λ c_8=>zd (zd (zi m (D.agg [c,c_5,c_6,c_7,c_8])) λ t=>za (Sp.right t) (some (Sp.text t (0:Int)))) λ s_2=>za (Sp.fit (Sp.app (Sp.app (Sp.app L [40]) s_1) (s++[])).length (Sp.app (Sp.app (Sp.app L [40]) s_1) (s++[]))) (za (Sp.room (Sp.app (Sp.app (Sp.app L [40]) s_1) (s++[])) s_2) (za (Sp.fit (Sp.app (Sp.app (Sp.app (Sp.app L [40]) s_1) (s++[])) s_2).length (Sp.app (Sp.app (Sp.app (Sp.app L [40]) s_1) (s++[])) s_2)) (za (Sp.room (Sp.app (Sp.app (Sp.app (Sp.app L [40]) s_1) (s++[])) s_2) [41]) (some (Out.ret (V.tup []),[(0,Ob.val 187695107 (V.agg [V.ptr 0 0,V.sl 6291457 (Sp.app (Sp.app (Sp.app (Sp.app (Sp.app L [40]) s_1) (s++[])) s_2) [41]) 1,V.d (D.bool false)])),(1,Ob.tok (Sp.app (Sp.app (Sp.app (Sp.app (Sp.app L [40]) s_1) (s++[])) s_2) [41]).length)]))))))))))))):=by cases u <;> kernel_rfl
theorem yao(n m:Nat)(L:List D)(u:Bool)(k:Int)(nm:List UInt8)(kids:List T)(nms:List (List UInt8))(pl:Int)(b:Bool):zk cx (clK 162 zl4 zlq zrx (λ _ x=>zyw m x) K91) n 160 [.ptr 0 0,.d (.bool b),.func 162 [.ptr 2 0,.ptr 3 0]] (psB u L (.agg [.int .i64 k,.str nm,.sl 5 (T.ds kids),.sl 1 (nms.map .str),.int .i64 pl]))=bif b then za (Sp.fit L.length L) (za (Sp.room L [40]) (zd (zd (zi m (D.agg [D.int .i64 k,D.str nm,D.sl 5 (T.ds kids),D.sl 1 (List.map D.str nms),D.int .i64 pl])) λ t=>za (Sp.right t) (some (Sp.bare t))) λ s=>za (Sp.fit (Sp.app L [40]).length (Sp.app L [40])) (za (Sp.room (Sp.app L [40]) s) (bif b then za (Sp.fit (Sp.app (Sp.app L [40]) s).length (Sp.app (Sp.app L [40]) s)) (za (Sp.room (Sp.app (Sp.app L [40]) s) [41]) (some (Out.ret (V.tup []),[(0,Ob.val 187695107 (V.agg [V.ptr 0 0,V.sl 6291457 (Sp.app (Sp.app (Sp.app L [40]) s) [41]) 1,V.d (D.bool false)])),(1,Ob.tok (Sp.app (Sp.app (Sp.app L [40]) s) [41]).length),(2,Ob.val 1 (V.ptr 0 0)),(3,Ob.val 5 (V.d (D.agg [D.int .i64 k,D.str nm,D.sl 5 (T.ds kids),D.sl 1 (List.map D.str nms),D.int .i64 pl])))]))) else some (Out.ret (V.tup []),[(0,Ob.val 187695107 (V.agg [V.ptr 0 0,V.sl 6291457 (Sp.app (Sp.app L [40]) s) 1,V.d (D.bool false)])),(1,Ob.tok (Sp.app (Sp.app L [40]) s).length),(2,Ob.val 1 (V.ptr 0 0)),(3,Ob.val 5 (V.d (D.agg [D.int .i64 k,D.str nm,D.sl 5 (T.ds kids),D.sl 1 (List.map D.str nms),D.int .i64 pl])))]))))) else zd (zd (zi m (D.agg [D.int .i64 k,D.str nm,D.sl 5 (T.ds kids),D.sl 1 (List.map D.str nms),D.int .i64 pl])) λ t=>za (Sp.right t) (some (Sp.bare t))) λ s=>za (Sp.fit L.length L) (za (Sp.room L s) (bif b then za (Sp.fit (Sp.app L s).length (Sp.app L s)) (za (Sp.room (Sp.app L s) [41]) (some (Out.ret (V.tup []),[(0,Ob.val 187695107 (V.agg [V.ptr 0 0,V.sl 6291457 (Sp.app (Sp.app L s) [41]) 1,V.d (D.bool false)])),(1,Ob.tok (Sp.app (Sp.app L s) [41]).length),(2,Ob.val 1 (V.ptr 0 0)),(3,Ob.val 5 (V.d (D.agg [D.int .i64 k,D.str nm,D.sl 5 (T.ds kids),D.sl 1 (List.map D.str nms),D.int .i64 pl])))]))) else some (Out.ret (V.tup []),[(0,Ob.val 187695107 (V.agg [V.ptr 0 0,V.sl 6291457 (Sp.app L s) 1,V.d (D.bool false)])),(1,Ob.tok (Sp.app L s).length),(2,Ob.val 1 (V.ptr 0 0)),(3,Ob.val 5 (V.d (D.agg [D.int .i64 k,D.str nm,D.sl 5 (T.ds kids),D.sl 1 (List.map D.str nms),D.int .i64 pl])))]))):=by cases u <;> kernel_rfl
theorem yan(n m:Nat)(L:List D)(u:Bool)(k:Int)(nm:List UInt8)(kids:List T)(nms:List (List UInt8))(pl:Int)(b:Bool):zk cx (clK 216 zl4 zlq zrx (λ _ x=>z1o m (x,1)) K91) n 160 [.ptr 0 0,.d (.bool b),.func 216 [.ptr 2 0,.ptr 3 0]] (psB u L (.agg [.int .i64 k,.str nm,.sl 5 (T.ds kids),.sl 1 (nms.map .str),.int .i64 pl]))=bif b then za (Sp.fit L.length L) (za (Sp.room L [40]) (zd (zd (zi m (D.agg [D.int .i64 k,D.str nm,D.sl 5 (T.ds kids),D.sl 1 (List.map D.str nms),D.int .i64 pl])) λ t=>za (Sp.right t) (some (Sp.text t 1))) λ s=>za (Sp.fit (Sp.app L [40]).length (Sp.app L [40])) (za (Sp.room (Sp.app L [40]) s) (bif b then za (Sp.fit (Sp.app (Sp.app L [40]) s).length (Sp.app (Sp.app L [40]) s)) (za (Sp.room (Sp.app (Sp.app L [40]) s) [41]) (some (Out.ret (V.tup []),[(0,Ob.val 187695107 (V.agg [V.ptr 0 0,V.sl 6291457 (Sp.app (Sp.app (Sp.app L [40]) s) [41]) 1,V.d (D.bool false)])),(1,Ob.tok (Sp.app (Sp.app (Sp.app L [40]) s) [41]).length),(2,Ob.val 1 (V.ptr 0 0)),(3,Ob.val 5 (V.d (D.agg [D.int .i64 k,D.str nm,D.sl 5 (T.ds kids),D.sl 1 (List.map D.str nms),D.int .i64 pl])))]))) else some (Out.ret (V.tup []),[(0,Ob.val 187695107 (V.agg [V.ptr 0 0,V.sl 6291457 (Sp.app (Sp.app L [40]) s) 1,V.d (D.bool false)])),(1,Ob.tok (Sp.app (Sp.app L [40]) s).length),(2,Ob.val 1 (V.ptr 0 0)),(3,Ob.val 5 (V.d (D.agg [D.int .i64 k,D.str nm,D.sl 5 (T.ds kids),D.sl 1 (List.map D.str nms),D.int .i64 pl])))]))))) else zd (zd (zi m (D.agg [D.int .i64 k,D.str nm,D.sl 5 (T.ds kids),D.sl 1 (List.map D.str nms),D.int .i64 pl])) λ t=>za (Sp.right t) (some (Sp.text t 1))) λ s=>za (Sp.fit L.length L) (za (Sp.room L s) (bif b then za (Sp.fit (Sp.app L s).length (Sp.app L s)) (za (Sp.room (Sp.app L s) [41]) (some (Out.ret (V.tup []),[(0,Ob.val 187695107 (V.agg [V.ptr 0 0,V.sl 6291457 (Sp.app (Sp.app L s) [41]) 1,V.d (D.bool false)])),(1,Ob.tok (Sp.app (Sp.app L s) [41]).length),(2,Ob.val 1 (V.ptr 0 0)),(3,Ob.val 5 (V.d (D.agg [D.int .i64 k,D.str nm,D.sl 5 (T.ds kids),D.sl 1 (List.map D.str nms),D.int .i64 pl])))]))) else some (Out.ret (V.tup []),[(0,Ob.val 187695107 (V.agg [V.ptr 0 0,V.sl 6291457 (Sp.app L s) 1,V.d (D.bool false)])),(1,Ob.tok (Sp.app L s).length),(2,Ob.val 1 (V.ptr 0 0)),(3,Ob.val 5 (V.d (D.agg [D.int .i64 k,D.str nm,D.sl 5 (T.ds kids),D.sl 1 (List.map D.str nms),D.int .i64 pl])))]))):=by cases u <;> kernel_rfl
theorem yam(n m:Nat)(L:List D)(u:Bool)(k:Int)(nm:List UInt8)(kids:List T)(nms:List (List UInt8))(pl:Int)(b:Bool):zk cx (clK 218 zog zm3 ze0 (λ _ x=>zxn m x) K91) n 160 [.ptr 0 0,.d (.bool b),.func 218 [.ptr 2 0,.ptr 3 0]] (psF u L (.agg [.int .i64 k,.str nm,.sl 5 (T.ds kids),.sl 1 (nms.map .str),.int .i64 pl]))=bif b then za (Sp.fit L.length L) (za (Sp.room L [40]) (zd (zd (zi m (D.agg [D.int .i64 k,D.str nm,D.sl 5 (T.ds kids),D.sl 1 (List.map D.str nms),D.int .i64 pl])) λ t=>za (Sp.form t) (some (xz t))) λ s=>za (Sp.fit (Sp.app L [40]).length (Sp.app L [40])) (za (Sp.room (Sp.app L [40]) s) (bif b then za (Sp.fit (Sp.app (Sp.app L [40]) s).length (Sp.app (Sp.app L [40]) s)) (za (Sp.room (Sp.app (Sp.app L [40]) s) [41]) (some (Out.ret (V.tup []),[(0,Ob.val 187695107 (V.agg [V.ptr 0 0,V.sl 6291457 (Sp.app (Sp.app (Sp.app L [40]) s) [41]) 1,V.d (D.bool false)])),(1,Ob.tok (Sp.app (Sp.app (Sp.app L [40]) s) [41]).length),(2,Ob.val 5 (V.d (D.agg [D.int .i64 k,D.str nm,D.sl 5 (T.ds kids),D.sl 1 (List.map D.str nms),D.int .i64 pl]))),(3,Ob.val 1 (V.ptr 0 0))]))) else some (Out.ret (V.tup []),[(0,Ob.val 187695107 (V.agg [V.ptr 0 0,V.sl 6291457 (Sp.app (Sp.app L [40]) s) 1,V.d (D.bool false)])),(1,Ob.tok (Sp.app (Sp.app L [40]) s).length),(2,Ob.val 5 (V.d (D.agg [D.int .i64 k,D.str nm,D.sl 5 (T.ds kids),D.sl 1 (List.map D.str nms),D.int .i64 pl]))),(3,Ob.val 1 (V.ptr 0 0))]))))) else zd (zd (zi m (D.agg [D.int .i64 k,D.str nm,D.sl 5 (T.ds kids),D.sl 1 (List.map D.str nms),D.int .i64 pl])) λ t=>za (Sp.form t) (some (xz t))) λ s=>za (Sp.fit L.length L) (za (Sp.room L s) (bif b then za (Sp.fit (Sp.app L s).length (Sp.app L s)) (za (Sp.room (Sp.app L s) [41]) (some (Out.ret (V.tup []),[(0,Ob.val 187695107 (V.agg [V.ptr 0 0,V.sl 6291457 (Sp.app (Sp.app L s) [41]) 1,V.d (D.bool false)])),(1,Ob.tok (Sp.app (Sp.app L s) [41]).length),(2,Ob.val 5 (V.d (D.agg [D.int .i64 k,D.str nm,D.sl 5 (T.ds kids),D.sl 1 (List.map D.str nms),D.int .i64 pl]))),(3,Ob.val 1 (V.ptr 0 0))]))) else some (Out.ret (V.tup []),[(0,Ob.val 187695107 (V.agg [V.ptr 0 0,V.sl 6291457 (Sp.app L s) 1,V.d (D.bool false)])),(1,Ob.tok (Sp.app L s).length),(2,Ob.val 5 (V.d (D.agg [D.int .i64 k,D.str nm,D.sl 5 (T.ds kids),D.sl 1 (List.map D.str nms),D.int .i64 pl]))),(3,Ob.val 1 (V.ptr 0 0))]))):=by cases u <;> kernel_rfl
theorem yb4(n m:Nat)(L:List D)(u:Bool)(k:Int)(nm:List UInt8)(kids:List T)(nms:List (List UInt8))(pl a:Int):zk cx (ybp m) n 194 [.ptr 0 0,.d (.agg [.int .i64 k,.str nm,.sl 5 (T.ds kids),.sl 1 (nms.map .str),.int .i64 pl]),.d (.int .i64 a)] (psS u L)=zd (zd (zd (zi m (D.agg [D.int .i64 k,D.str nm,D.sl 5 (T.ds kids),D.sl 1 (List.map D.str nms),D.int .i64 pl])) λ t=>za (Sp.form t) (some (xz t))) λ s=>some (yw (decide (zb5 k<a)) s)) λ s=>za (Sp.fit L.length L) (za (Sp.room L s) (some (Out.ret (V.tup []),[(0,Ob.val 187695107 (V.agg [V.ptr 0 0,V.sl 6291457 (Sp.app L s) 1,V.d (D.bool false)])),(1,Ob.tok (Sp.app L s).length)]))):=by cases u <;> kernel_rfl
theorem ycd(n m:Nat)(L:List D)(u:Bool)(k:Int)(nm:List UInt8)(kids:List T)(nms:List (List UInt8))(pl a:Int):zk cx (K70 m) n 128 [.ptr 0 0,.d (.agg [.int .i64 k,.str nm,.sl 5 (T.ds kids),.sl 1 (nms.map .str),.int .i64 pl]),.d (.int .i64 a)] (psS u L)=zd (Sp.toC (D.agg [D.int .i64 k,D.str nm,D.sl 5 (T.ds kids),D.sl 1 (List.map D.str nms),D.int .i64 pl])) λ b=>zd (zd (zd (zi m (D.agg [D.int .i64 k,D.str nm,D.sl 5 (T.ds kids),D.sl 1 (List.map D.str nms),D.int .i64 pl])) λ t=>za (Sp.right t) (some (Sp.bare t))) λ s=>some (yw (decide (zex b.k<a)) s)) λ s=>za (Sp.fit L.length L) (za (Sp.room L s) (some (Out.ret (V.tup []),[(0,Ob.val 187695107 (V.agg [V.ptr 0 0,V.sl 6291457 (Sp.app L s) 1,V.d (D.bool false)])),(1,Ob.tok (Sp.app L s).length)]))):=by cases u <;> kernel_rfl
theorem yb5(n m:Nat)(L:List D)(u:Bool)(k:Int)(nm:List UInt8)(kids:List T)(nms:List (List UInt8))(pl:Int)(s:List UInt8):zk cx (ybq m) n 193 [.ptr 0 0,.d (.agg [.int .i64 k,.str nm,.sl 5 (T.ds kids),.sl 1 (nms.map .str),.int .i64 pl]),.d (.str s)] (psS u L)=za (decide ((0:Int)<(↑(T.ds kids).length:Int))) (ze (T.ds kids) (0:Int).toNat λ y=>ze y.cells 0 λ c=>ze y.cells 1 λ c_1=>ze y.cells 2 λ c_2=>ze y.cells 3 λ c_3=>ze y.cells 4 λ c_4=>bif decide ((↑(List.map D.str nms).length:Int)=(1:Int)) then za (decide ((0:Int)<(↑(List.map D.str nms).length:Int))) (ze (List.map D.str nms) (0:Int).toNat λ y=>ze y.cells 0 λ c_5=>match c_5 with
 | D.str s_1=>za (Sp.fit L.length L) (za (Sp.room L (40::(s_1++([32,58,32]++[])))) (zd (zd (zi m (D.agg [c,c_1,c_2,c_3,c_4])) λ t=>za (Sp.right t) (some (Sp.text t (0:Int)))) λ s_2=>za (Sp.fit (Sp.app L (40::(s_1++([32,58,32]++[])))).length (Sp.app L (40::(s_1++([32,58,32]++[]))))) (za (Sp.room (Sp.app L (40::(s_1++([32,58,32]++[])))) s_2) (za (Sp.fit (Sp.app (Sp.app L (40::(s_1++([32,58,32]++[])))) s_2).length (Sp.app (Sp.app L (40::(s_1++([32,58,32]++[])))) s_2)) (za (Sp.room (Sp.app (Sp.app L (40::(s_1++([32,58,32]++[])))) s_2) [41]) (za (Sp.fit (Sp.app (Sp.app (Sp.app L (40::(s_1++([32,58,32]++[])))) s_2) [41]).length (Sp.app (Sp.app (Sp.app L (40::(s_1++([32,58,32]++[])))) s_2) [41])) (za (Sp.room (Sp.app (Sp.app (Sp.app L (40::(s_1++([32,58,32]++[])))) s_2) [41]) (s++[])) (za (decide ((1:Int)<(↑(T.ds kids).length:Int))) (ze (T.ds kids) (1:Int).toNat λ y=>ze y.cells 0 λ c=>ze y.cells 1 λ c_6=>ze y.cells 2 λ c_7=>ze y.cells 3 λ c_8=>ze y.cells 4 λ c_9=>zd (zd (zi m (D.agg [c,c_6,c_7,c_8,c_9])) λ t=>za (Sp.right t) (some (Sp.text t (0:Int)))) λ s_3=>za (Sp.fit (Sp.app (Sp.app (Sp.app (Sp.app L (40::(s_1++([32,58,32]++[])))) s_2) [41]) (s++[])).length (Sp.app (Sp.app (Sp.app (Sp.app L (40::(s_1++([32,58,32]++[])))) s_2) [41]) (s++[]))) (za (Sp.room (Sp.app (Sp.app (Sp.app (Sp.app L (40::(s_1++([32,58,32]++[])))) s_2) [41]) (s++[])) s_3) (some (Out.ret (V.tup []),[(0,Ob.val 187695107 (V.agg [V.ptr 0 0,V.sl 6291457 (Sp.app (Sp.app (Sp.app (Sp.app (Sp.app L (40::(s_1++([32,58,32]++[])))) s_2) [41]) (s++[])) s_3) 1,V.d (D.bool false)])),(1,Ob.tok (Sp.app (Sp.app (Sp.app (Sp.app (Sp.app L (40::(s_1++([32,58,32]++[])))) s_2) [41]) (s++[])) s_3).length)]))))))))))))
 | x=>none) else match c with
 | D.int k' n=>bif decide (k'=IntKind.i64) then bif decide (n=(9:Int)) then match c_2 with
  | D.sl s_1 l=>bif s_1.beq (cx.P.cellsOf 26)||l.isEmpty then za (decide ((0:Int)<(↑l.length:Int))) (ze l (0:Int).toNat λ y=>ze y.cells 0 λ c_5=>match c_5 with
   | D.int k' n=>bif decide (k'=IntKind.i64) then zd (zd (zd (zi m (D.agg [c,c_1,c_2,c_3,c_4])) λ t=>za (Sp.right t) (some (Sp.text t 1))) λ s=>some (yw (decide (n=(1:Int))) s)) λ s_2=>za (Sp.fit L.length L) (za (Sp.room L s_2) (za (Sp.fit (Sp.app L s_2).length (Sp.app L s_2)) (za (Sp.room (Sp.app L s_2) (s++[])) (za (decide ((1:Int)<(↑(T.ds kids).length:Int))) (ze (T.ds kids) (1:Int).toNat λ y=>ze y.cells 0 λ c=>ze y.cells 1 λ c_6=>ze y.cells 2 λ c_7=>ze y.cells 3 λ c_8=>ze y.cells 4 λ c_9=>zd (zd (zi m (D.agg [c,c_6,c_7,c_8,c_9])) λ t=>za (Sp.right t) (some (Sp.text t (0:Int)))) λ s_3=>za (Sp.fit (Sp.app (Sp.app L s_2) (s++[])).length (Sp.app (Sp.app L s_2) (s++[]))) (za (Sp.room (Sp.app (Sp.app L s_2) (s++[])) s_3) (some (Out.ret (V.tup []),[(0,Ob.val 187695107 (V.agg [V.ptr 0 0,V.sl 6291457 (Sp.app (Sp.app (Sp.app L s_2) (s++[])) s_3) 1,V.d (D.bool false)])),(1,Ob.tok (Sp.app (Sp.app (Sp.app L s_2) (s++[])) s_3).length)])))))))) else none
   | x=>none) else none
  | x=>none else zd (zd (zd (zi m (D.agg [c,c_1,c_2,c_3,c_4])) λ t=>za (Sp.right t) (some (Sp.text t 1))) λ s=>some s) λ s_1=>za (Sp.fit L.length L) (za (Sp.room L s_1) (za (Sp.fit (Sp.app L s_1).length (Sp.app L s_1)) (za (Sp.room (Sp.app L s_1) (s++[])) (za (decide ((1:Int)<(↑(T.ds kids).length:Int))) (ze (T.ds kids) (1:Int).toNat λ y=>ze y.cells 0 λ c=>ze y.cells 1 λ c_5=>ze y.cells 2 λ c_6=>ze y.cells 3 λ c_7=>ze y.cells 4 λ c_8=>zd (zd (zi m (D.agg [c,c_5,c_6,c_7,c_8])) λ t=>za (Sp.right t) (some (Sp.text t (0:Int)))) λ s_2=>za (Sp.fit (Sp.app (Sp.app L s_1) (s++[])).length (Sp.app (Sp.app L s_1) (s++[]))) (za (Sp.room (Sp.app (Sp.app L s_1) (s++[])) s_2) (some (Out.ret (V.tup []),[(0,Ob.val 187695107 (V.agg [V.ptr 0 0,V.sl 6291457 (Sp.app (Sp.app (Sp.app L s_1) (s++[])) s_2) 1,V.d (D.bool false)])),(1,Ob.tok (Sp.app (Sp.app (Sp.app L s_1) (s++[])) s_2).length)])))))))) else none
 | x=>none):=by cases u <;> kernel_rfl
theorem z7w(n m:Nat)(L:List D)(u:Bool)(nm:List UInt8)(kids:List T)(nms:List (List UInt8))(pl:Int):zk cx (K71 m) n 163 [.ptr 0 0,.d (.agg [.int .i64 1,.str nm,.sl 5 (T.ds kids),.sl 1 (nms.map .str),.int .i64 pl])] (psS u L)=za (Sp.fit L.length L) (za (Sp.room L (nm++[])) (some (Out.ret (V.tup []),[(0,Ob.val 187695107 (V.agg [V.ptr 0 0,V.sl 6291457 (Sp.app L (nm++[])) 1,V.d (D.bool false)])),(1,Ob.tok (Sp.app L (nm++[])).length)]))):=by cases u <;> kernel_rfl
theorem z7v(n m:Nat)(L:List D)(u:Bool)(nm:List UInt8)(kids:List T)(nms:List (List UInt8))(pl:Int):zk cx (K71 m) n 163 [.ptr 0 0,.d (.agg [.int .i64 2,.str nm,.sl 5 (T.ds kids),.sl 1 (nms.map .str),.int .i64 pl])] (psS u L)=zd (zlf (D.sl 1 (List.map D.str nms),[32])) λ b=>za (Sp.fit L.length L) (za (Sp.room L (92::(yp b.fst b.snd++([46,32]++[])))) (za (decide ((0:Int)<(↑(T.ds kids).length:Int))) (ze (T.ds kids) (0:Int).toNat λ y=>ze y.cells 0 λ c=>ze y.cells 1 λ c_1=>ze y.cells 2 λ c_2=>ze y.cells 3 λ c_3=>ze y.cells 4 λ c_4=>zd (zd (zi m (D.agg [c,c_1,c_2,c_3,c_4])) λ t=>za (Sp.right t) (some (Sp.text t (0:Int)))) λ s=>za (Sp.fit (Sp.app L (92::(yp b.fst b.snd++([46,32]++[])))).length (Sp.app L (92::(yp b.fst b.snd++([46,32]++[]))))) (za (Sp.room (Sp.app L (92::(yp b.fst b.snd++([46,32]++[])))) s) (some (Out.ret (V.tup []),[(0,Ob.val 187695107 (V.agg [V.ptr 0 0,V.sl 6291457 (Sp.app (Sp.app L (92::(yp b.fst b.snd++([46,32]++[])))) s) 1,V.d (D.bool false)])),(1,Ob.tok (Sp.app (Sp.app L (92::(yp b.fst b.snd++([46,32]++[])))) s).length)])))))):=by cases u <;> kernel_rfl
theorem z7u(n m:Nat)(L:List D)(u:Bool)(nm:List UInt8)(kids:List T)(nms:List (List UInt8))(pl:Int):zk cx (K71 m) n 163 [.ptr 0 0,.d (.agg [.int .i64 3,.str nm,.sl 5 (T.ds kids),.sl 1 (nms.map .str),.int .i64 pl])] (psS u L)=zd (zlf (D.sl 1 (List.map D.str nms),[32])) λ b=>za (Sp.fit L.length L) (za (Sp.room L (60::(yp b.fst b.snd++([62,32]++[])))) (za (decide ((0:Int)<(↑(T.ds kids).length:Int))) (ze (T.ds kids) (0:Int).toNat λ y=>ze y.cells 0 λ c=>ze y.cells 1 λ c_1=>ze y.cells 2 λ c_2=>ze y.cells 3 λ c_3=>ze y.cells 4 λ c_4=>zd (zd (zi m (D.agg [c,c_1,c_2,c_3,c_4])) λ t=>za (Sp.right t) (some (Sp.text t (0:Int)))) λ s=>za (Sp.fit (Sp.app L (60::(yp b.fst b.snd++([62,32]++[])))).length (Sp.app L (60::(yp b.fst b.snd++([62,32]++[]))))) (za (Sp.room (Sp.app L (60::(yp b.fst b.snd++([62,32]++[])))) s) (some (Out.ret (V.tup []),[(0,Ob.val 187695107 (V.agg [V.ptr 0 0,V.sl 6291457 (Sp.app (Sp.app L (60::(yp b.fst b.snd++([62,32]++[])))) s) 1,V.d (D.bool false)])),(1,Ob.tok (Sp.app (Sp.app L (60::(yp b.fst b.snd++([62,32]++[])))) s).length)])))))):=by cases u <;> kernel_rfl
theorem z7t(n m:Nat)(L:List D)(u:Bool)(nm:List UInt8)(kids:List T)(nms:List (List UInt8))(pl:Int):zk cx (K71 m) n 163 [.ptr 0 0,.d (.agg [.int .i64 4,.str nm,.sl 5 (T.ds kids),.sl 1 (nms.map .str),.int .i64 pl])] (psS u L)=zd (zd (zi (m+1) (D.agg [D.int .i64 (4:Int),D.str nm,D.sl 5 (T.ds kids),D.sl 1 (List.map D.str nms),D.int .i64 pl])) λ t=>za (zda t) (some (zd2 t [32,45,62,32]))) λ s=>za (Sp.fit L.length L) (za (Sp.room L s) (some (Out.ret (V.tup []),[(0,Ob.val 187695107 (V.agg [V.ptr 0 0,V.sl 6291457 (Sp.app L s) 1,V.d (D.bool false)])),(1,Ob.tok (Sp.app L s).length)]))):=by cases u <;> kernel_rfl
theorem z7s(n m:Nat)(L:List D)(u:Bool)(nm:List UInt8)(kids:List T)(nms:List (List UInt8))(pl:Int):zk cx (K71 m) n 163 [.ptr 0 0,.d (.agg [.int .i64 5,.str nm,.sl 5 (T.ds kids),.sl 1 (nms.map .str),.int .i64 pl])] (psS u L)=zd (zd (zi (m+1) (D.agg [D.int .i64 (5:Int),D.str nm,D.sl 5 (T.ds kids),D.sl 1 (List.map D.str nms),D.int .i64 pl])) λ t=>za (zda t) (some (zd2 t [32,42,32]))) λ s=>za (Sp.fit L.length L) (za (Sp.room L s) (some (Out.ret (V.tup []),[(0,Ob.val 187695107 (V.agg [V.ptr 0 0,V.sl 6291457 (Sp.app L s) 1,V.d (D.bool false)])),(1,Ob.tok (Sp.app L s).length)]))):=by cases u <;> kernel_rfl
theorem z7r(n m:Nat)(L:List D)(u:Bool)(nm:List UInt8)(kids:List T)(nms:List (List UInt8))(pl:Int):zk cx (K71 m) n 163 [.ptr 0 0,.d (.agg [.int .i64 6,.str nm,.sl 5 (T.ds kids),.sl 1 (nms.map .str),.int .i64 pl])] (psS u L)=za (decide ((0:Int)<(↑(T.ds kids).length:Int))) (ze (T.ds kids) (0:Int).toNat λ y=>ze y.cells 0 λ c=>ze y.cells 1 λ c_1=>ze y.cells 2 λ c_2=>ze y.cells 3 λ c_3=>ze y.cells 4 λ c_4=>zd (zd (zi m (D.agg [c,c_1,c_2,c_3,c_4])) λ t=>za (Sp.right t) (some (Sp.text t (1:Int)))) λ s=>za (Sp.fit L.length L) (za (Sp.room L s) (za (Sp.fit (Sp.app L s).length (Sp.app L s)) (za (Sp.room (Sp.app L s) [32]) (za (decide ((1:Int)<(↑(T.ds kids).length:Int))) (ze (T.ds kids) (1:Int).toNat λ y=>ze y.cells 0 λ c=>ze y.cells 1 λ c_5=>ze y.cells 2 λ c_6=>ze y.cells 3 λ c_7=>ze y.cells 4 λ c_8=>zd (zd (zi m (D.agg [c,c_5,c_6,c_7,c_8])) λ t=>za (Sp.right t) (some (Sp.text t (2:Int)))) λ s_1=>za (Sp.fit (Sp.app (Sp.app L s) [32]).length (Sp.app (Sp.app L s) [32])) (za (Sp.room (Sp.app (Sp.app L s) [32]) s_1) (some (Out.ret (V.tup []),[(0,Ob.val 187695107 (V.agg [V.ptr 0 0,V.sl 6291457 (Sp.app (Sp.app (Sp.app L s) [32]) s_1) 1,V.d (D.bool false)])),(1,Ob.tok (Sp.app (Sp.app (Sp.app L s) [32]) s_1).length)]))))))))):=by cases u <;> kernel_rfl
theorem z7q(n m:Nat)(L:List D)(u:Bool)(nm:List UInt8)(kids:List T)(nms:List (List UInt8))(pl:Int):zk cx (K71 m) n 163 [.ptr 0 0,.d (.agg [.int .i64 7,.str nm,.sl 5 (T.ds kids),.sl 1 (nms.map .str),.int .i64 pl])] (psS u L)=za (decide ((0:Int)<(↑(T.ds kids).length:Int))) (ze (T.ds kids) (0:Int).toNat λ y=>ze y.cells 0 λ c=>ze y.cells 1 λ c_1=>ze y.cells 2 λ c_2=>ze y.cells 3 λ c_3=>ze y.cells 4 λ c_4=>zd (zd (zi m (D.agg [c,c_1,c_2,c_3,c_4])) λ t=>za (Sp.right t) (some (Sp.text t (1:Int)))) λ s=>za (Sp.fit L.length L) (za (Sp.room L s) (za (Sp.fit (Sp.app L s).length (Sp.app L s)) (za (Sp.room (Sp.app L s) [32,64,32]) (za (decide ((1:Int)<(↑(T.ds kids).length:Int))) (ze (T.ds kids) (1:Int).toNat λ y=>ze y.cells 0 λ c=>ze y.cells 1 λ c_5=>ze y.cells 2 λ c_6=>ze y.cells 3 λ c_7=>ze y.cells 4 λ c_8=>zd (zd (Sp.toC (D.agg [c,c_5,c_6,c_7,c_8])) λ t=>za (Sp.form t) (some (za5 t (2:Int)))) λ s_1=>za (Sp.fit (Sp.app (Sp.app L s) [32,64,32]).length (Sp.app (Sp.app L s) [32,64,32])) (za (Sp.room (Sp.app (Sp.app L s) [32,64,32]) s_1) (some (Out.ret (V.tup []),[(0,Ob.val 187695107 (V.agg [V.ptr 0 0,V.sl 6291457 (Sp.app (Sp.app (Sp.app L s) [32,64,32]) s_1) 1,V.d (D.bool false)])),(1,Ob.tok (Sp.app (Sp.app (Sp.app L s) [32,64,32]) s_1).length)]))))))))):=by cases u <;> kernel_rfl
theorem z7p(n m:Nat)(L:List D)(u:Bool)(nm:List UInt8)(kids:List T)(nms:List (List UInt8))(pl:Int):zk cx (K71 m) n 163 [.ptr 0 0,.d (.agg [.int .i64 8,.str nm,.sl 5 (T.ds kids),.sl 1 (nms.map .str),.int .i64 pl])] (psS u L)=zd (zd (zi (m+1) (D.agg [D.int .i64 (8:Int),D.str nm,D.sl 5 (T.ds kids),D.sl 1 (List.map D.str nms),D.int .i64 pl])) λ t=>za (zc9 t) (some (zdy t [44,32]))) λ s=>za (Sp.fit L.length L) (za (Sp.room L s) (some (Out.ret (V.tup []),[(0,Ob.val 187695107 (V.agg [V.ptr 0 0,V.sl 6291457 (Sp.app L s) 1,V.d (D.bool false)])),(1,Ob.tok (Sp.app L s).length)]))):=by cases u <;> kernel_rfl
theorem z7o(n m:Nat)(L:List D)(u:Bool)(nm:List UInt8)(kids:List T)(nms:List (List UInt8))(pl:Int):zk cx (K71 m) n 163 [.ptr 0 0,.d (.agg [.int .i64 9,.str nm,.sl 5 (T.ds kids),.sl 1 (nms.map .str),.int .i64 pl])] (psS u L)=zd (zd (zi (m+1) (D.agg [D.int .i64 (9:Int),D.str nm,D.sl 5 (T.ds kids),D.sl 1 (List.map D.str nms),D.int .i64 pl])) λ t=>za (zc9 t) (some (zdy t [32,58,32]))) λ s=>za (Sp.fit L.length L) (za (Sp.room L s) (some (Out.ret (V.tup []),[(0,Ob.val 187695107 (V.agg [V.ptr 0 0,V.sl 6291457 (Sp.app L s) 1,V.d (D.bool false)])),(1,Ob.tok (Sp.app L s).length)]))):=by cases u <;> kernel_rfl
theorem z43(n m:Nat)(L:List D)(u:Bool)(nm:List UInt8)(kids:List T)(nms:List (List UInt8))(pl:Int):zk cx (K71 m) n 163 [.ptr 0 0,.d (.agg [.int .i64 10,.str nm,.sl 5 (T.ds kids),.sl 1 (nms.map .str),.int .i64 pl])] (psS u L)=zd (zd (zi (m+1) (D.agg [D.int .i64 (10:Int),D.str nm,D.sl 5 (T.ds kids),D.sl 1 (List.map D.str nms),D.int .i64 pl])) λ t=>za (zh4 t) (some (zi8 t))) λ s=>za (Sp.fit L.length L) (za (Sp.room L s) (some (Out.ret (V.tup []),[(0,Ob.val 187695107 (V.agg [V.ptr 0 0,V.sl 6291457 (Sp.app L s) 1,V.d (D.bool false)])),(1,Ob.tok (Sp.app L s).length)]))):=by cases u <;> kernel_rfl
theorem x5{L:List D}{s:List UInt8}(h:L.length+s.length≤65536):Sp.room L s=true:=pa h
theorem room_le{L:List D}{s:List UInt8}(h:Sp.room L s=true):L.length+s.length≤65536:=pc h
theorem zkp{k:Int}{nm:List UInt8}{kids:List T}{nms:List (List UInt8)}{pl:Int}(h:Sp.right (.mk k nm kids nms pl)=true)(hk:k=4∨k=5∨k=6∨k=8∨k=9) :
  ∃ a b,kids=[a,b]∧Sp.right a=true∧Sp.right b=true:=by
 rcases kids with _ | ⟨a,_ | ⟨b,_ | ⟨c,l⟩⟩⟩ <;> rcases hk with rfl | rfl | rfl | rfl | rfl <;> simp [Sp.right] at h ⊢
 all_goals exact ⟨a,b,⟨rfl,rfl⟩,h.2.1.2,h.2.2⟩
theorem z88{m:Nat}(hm:knows cx (KT m).S (zh cx)){u:Bool}{L:List D}{t:T}{s:List UInt8}(hd:t.depth≤m+1)(ho:t.ok=true)(hi:zc9 t=true)(hr:Sp.room L (zdy t s)=true) :
  zh cx 195 [.ptr 0 0,.d t.d,.d (.str s)] (psS u L)=some (.ret (.tup []),psS true (Sp.app L (zdy t s))):=by
 obtain ⟨k,nm,kids,nms,pl⟩:=t;obtain ⟨h1,h2,h3,h4,h5⟩:=zag ho;have hkd:=za3 hd;simp only [zc9,zv8,ph,Bool.or_eq_true] at hi;obtain ⟨a,b,rfl,ha,hb⟩:=zkp hi.1 (by rcases hi.2 with h | h <;> have:=pc h <;> omega)
 have hT:∀ t∈[a,b],zi m t.d=some t:=λ t h=>zc6 hkd h5 h;have hlen:=room_le hr;simp only [zdy,zfw,wd [a,b] 0 0 a rfl,wd [a,b] 0 1 b rfl,pe,List.length_cons,List.length_nil] at hlen;refine zl hm (N:=0) ?_;refine (yb3 0 m L u k nm [a,b] nms pl s).trans ?_;simp only [zdy,zfw,wd [a,b] 0 0 a rfl,wd [a,b] 0 1 b rfl];have e0:decide ((0:Int)<((T.ds [a,b]).length:Int))=true:=by rw [ya]; rfl
 have e1:decide ((1:Int)<((T.ds [a,b]).length:Int))=true:=by rw [ya]; rfl
 have n0:[a,b][(0:Int).toNat]?=some a:=rfl;have n1:[a,b][(1:Int).toNat]?=some b:=rfl;simp only [e0,e1,yv,n0,n1,xk,vm,zcj,zci,zch,zcg,zbk,hT a (by simp),hT b (by simp),zd,za,cond_true,zz,ha,hb]
 simp (disch:=(simp only [xm,pe,List.length_cons,List.length_nil]; omega)) only [x5,cond_true];simp [xa,psS,adV]
theorem z9f(t:T)(h:t.ok=true):zh cx 161 [.d t.d] []=some (.ret (mkI (zex t.k)),[]):=by
 obtain ⟨k,nm,kids,nms,pl⟩:=t;refine zl zq (N:=0) ?_;refine (g69 0 k nm kids nms pl).trans ?_;simp only [zv8,mkI,zex];have hk:k=2∨k=3∨k=4∨k=5∨k=6∨k=7∨(k ≠ 2∧k ≠ 3∧k ≠ 4∧k ≠ 5∧k ≠ 6∧k ≠ 7):=by omega
 rcases hk with rfl | rfl | rfl | rfl | rfl | rfl | ⟨q1,q2,q3,q4,q5,q6⟩ <;> simp [*]
theorem z68(k:Int):zh cx 217 [.d (.int .i64 k)] []=some (.ret (mkI (zb5 k)),[]):=by
 refine zl zq (N:=0) ?_;refine (ycf 0 k).trans ?_;simp only [mkI,zb5];cases decide (k=14) <;> cases decide (k=15) <;> rfl
theorem za6:knows cx K91.S (zh cx):=by
 have h107:=zj (f:=217) (dec:=z3i) (sp:=some) (mk:=λ k=>mkI (zb5 k)) z0p λ a q b hd h hb=>by
  cases hb;unfold z3i at h;split at h
  ·cases h; exact z68 _
  ·cases h
 exact zj h107 λ a q b hd h hb=>by
  obtain rfl:=qj h;obtain ⟨rfl,h1⟩:=w7 hb;exact z9f b h1
theorem zzs{k:Int}{nm:List UInt8}{kids:List T}{nms:List (List UInt8)}{pl:Int}(h:Sp.form (.mk k nm kids nms pl)=true) :
  (kids=[]∧(k=1∨k=17))∨(∃ a,kids=[a]∧k=16∧Sp.form a=true)∨(∃ a b,kids=[a,b]∧(k=14∨k=15)∧Sp.form a=true∧Sp.form b=true):=by
 rcases kids with _ | ⟨a,_ | ⟨b,_ | ⟨c,l⟩⟩⟩ <;> simp [Sp.form] at h ⊢
 ·rcases h.2 with h | h <;> simp [h.1]
 ·exact ⟨h.1.1.1,h.2⟩
 ·exact ⟨a,b,⟨rfl,rfl⟩,h.1.1.1.1,h.1.2,h.2⟩
theorem z67{m:Nat}(hm:knows cx (KM m).S (zh cx)){u:Bool}{L:List D}{t:T}(hd:t.depth≤m+1)(ho:t.ok=true)(hi:Sp.form t=true)(hr:Sp.room L (xz t)=true) :
  zh cx 218 [.ptr 0 0,.ptr 1 0] (ze0 u L t.d)=some (.ret (.tup []),ze0 true (Sp.app L (xz t)) t.d):=by
 obtain ⟨k,nm,kids,nms,pl⟩:=t;obtain ⟨h1,h2,h3,h4,h5⟩:=zag ho;have hkd:=za3 hd;have hT:∀ t∈kids,zi m t.d=some t:=λ t h=>zc6 hkd h5 h;have hlen:=room_le hr;refine zl hm (N:=0) ?_;refine (yap 0 m L u k nm kids nms pl).trans ?_;rcases zzs hi with ⟨rfl,hk⟩ | ⟨a,rfl,rfl,ha⟩ | ⟨a,b,rfl,hk,ha,hb⟩
 ·have e:xz (.mk k nm [] nms pl)=nm:=by rcases hk with rfl | rfl <;> simp [xz]
  rw [e] at hlen ⊢;rw [pb (p:=k=16) (by omega),pb (p:=k=15) (by omega),pb (p:=k=14) (by omega)]
  simp only [cond_false,zz,za,cond_true,List.append_nil];rw [x5 hlen];simp [ze0,T.d,T.ds]
 ·have e:xz (.mk 16 nm [a] nms pl)=[126]++za5 a 2:=by simp [xz,←zk5 [a] 2 0 a rfl]
  rw [e] at hlen ⊢;simp only [pe,List.length_cons,List.length_nil] at hlen;have e0:decide ((0:Int)<((T.ds [a]).length:Int))=true:=by rw [ya]; rfl
  have n0:[a][(0:Int).toNat]?=some a:=rfl;simp only [decide_true,e0,yv,n0,xk,vm,zcj,zci,zch,zcg,zbk,hT a (by simp),zd,za,cond_true,zz,ha]
  simp (disch:=((try simp only [xm,pe,List.length_cons,List.length_nil]); omega)) only [x5,cond_true]
  simp [xa,ze0,T.d]
 ·have e0:decide ((0:Int)<((T.ds [a,b]).length:Int))=true:=by rw [ya]; rfl
  have e1:decide ((1:Int)<((T.ds [a,b]).length:Int))=true:=by rw [ya]; rfl
  have n0:[a,b][(0:Int).toNat]?=some a:=rfl;have n1:[a,b][(1:Int).toNat]?=some b:=rfl;rcases hk with rfl | rfl
  ·have e:xz (.mk 14 nm [a,b] nms pl)=za5 a 0++[32,92,47,32]++za5 b 1:=by simp [xz,←zk5 [a,b] 0 0 a rfl,←zk5 [a,b] 1 1 b rfl]
   rw [e] at hlen ⊢;simp only [pe,List.length_cons,List.length_nil] at hlen;simp only [Int.reduceEq,decide_false,cond_false,decide_true,e0,e1,yv,n0,n1,xk,vm,zcj,zci,zch,zcg,zbk,hT a (by simp),hT b (by simp),zd,za,cond_true,zz,ha,hb]
   simp (disch:=((try simp only [xm,pe,List.length_cons,List.length_nil]); omega)) only [x5,cond_true]
   simp [xa,ze0,T.d]
  ·have e:xz (.mk 15 nm [a,b] nms pl)=za5 a 1++[32,47,92,32]++za5 b 2:=by simp [xz,←zk5 [a,b] 1 0 a rfl,←zk5 [a,b] 2 1 b rfl]
   rw [e] at hlen ⊢;simp only [pe,List.length_cons,List.length_nil] at hlen;simp only [Int.reduceEq,decide_false,cond_false,decide_true,e0,e1,yv,n0,n1,xk,vm,zcj,zci,zch,zcg,zbk,hT a (by simp),hT b (by simp),zd,za,cond_true,zz,ha,hb]
   simp (disch:=((try simp only [xm,pe,List.length_cons,List.length_nil]); omega)) only [x5,cond_true]
   simp [xa,ze0,T.d]
theorem zke(b:Bool)(s:List UInt8):(yw b s).length=s.length+bif b then 2 else 0:=by cases b <;> simp [yw]
theorem z61{m:Nat}(hc:knows cx (clK 218 zog zm3 ze0 (λ _ x=>zxn m x) K91).S (zh cx)){u b:Bool}{L:List D}{t:T}(hd:t.depth≤m)(ho:t.ok=true)(hi:Sp.form t=true)(hr:Sp.room L (yw b (xz t))=true) :
  zh cx 160 [.ptr 0 0,.d (.bool b),.func 218 [.ptr 2 0,.ptr 3 0]] (psF u L t.d)=some (.ret (.tup []),psF true (Sp.app L (yw b (xz t))) t.d):=by
 have hT:=zd8 hd ho;have hlen:=room_le hr;rw [zke] at hlen;refine zl hc (N:=0) ?_;obtain ⟨k,nm,kids,nms,pl⟩:=t;refine (yam 0 m L u k nm kids nms pl b).trans ?_;simp only [T.d] at hT;cases b
 ·simp only [cond_false] at hlen;simp only [hT,zd,za,hi,cond_true,cond_false,zz];simp (disch:=((try simp only [xm,pe,List.length_cons,List.length_nil]); omega)) only [x5,cond_true]
  simp [xa,psF,psS,adV,T.d,yw]
 ·simp only [cond_true] at hlen;simp only [hT,zd,za,hi,cond_true,cond_false,zz];simp (disch:=((try simp only [xm,pe,List.length_cons,List.length_nil]); omega)) only [x5,cond_true]
  simp [xa,psF,psS,adV,T.d,yw]
theorem zxi{m:Nat}(h:∀ {u L t},t.depth≤m→t.ok=true→Sp.form t=true→Sp.room L (xz t)=true→zh cx 218 [.ptr 0 0,.ptr 1 0] (ze0 u L t.d)=some (.ret (.tup []),ze0 true (Sp.app L (xz t)) t.d)) :
  knows cx (ybp m).S (zh cx):=by
 have hc:knows cx (clK 218 zog zm3 ze0 (λ _ x=>zxn m x) K91).S (zh cx):=zdi za6 ztq λ a b x s u L ha hs hr=>by
  obtain rfl:=zu3 ha;obtain ⟨t,ht,hs⟩:=zb hs;obtain ⟨hf,hs⟩:=zc hs;cases hs;obtain ⟨rfl,h1,h2⟩:=y7 ht;exact h h1 h2 hf hr
 exact zdi za6 zy5 λ a b x s u L ha hs hr=>by
  obtain rfl:=zi1 ha;obtain ⟨s',hs',hs⟩:=zb hs;cases hs;obtain ⟨t,ht,hs'⟩:=zb hs';obtain ⟨hf,hs'⟩:=zc hs';cases hs';obtain ⟨rfl,h1,h2⟩:=y7 ht;exact z61 hc h1 h2 hf hr
theorem z5z:∀ (m:Nat) (u:Bool) (L:List D) (t:T) (a:Int),t.depth≤m→t.ok=true→Sp.form t=true→Sp.room L (za5 t a)=true →
  zh cx 194 [.ptr 0 0,.d t.d,.d (.int .i64 a)] (psS u L)=some (.ret (.tup []),psS true (Sp.app L (za5 t a)))
 | 0,_,_,.mk ..,_,h,_,_,_=>by simp [T.depth] at h
 | m+1,u,L,t,a,hd,ho,hi,hr=>by
  have hm:knows cx (KM m).S (zh cx):=qf za6 λ a q s u L ha hs hr=>by
   obtain ⟨x,n⟩:=q;obtain rfl:=zf3 ha;obtain ⟨t,ht,hs⟩:=zb hs;obtain ⟨hf,hs⟩:=zc hs;cases hs;obtain ⟨rfl,h1,h2⟩:=y7 ht;exact z5z m u L t n h1 h2 hf hr
  have hK:=zxi (m:=m+1) λ h1 h2 h3 h4=>z67 hm h1 h2 h3 h4;have hT:=zd8 hd ho;refine zl hK (N:=0) ?_;obtain ⟨k,nm,kids,nms,pl⟩:=t;refine (yb4 0 (m+1) L u k nm kids nms pl a).trans ?_;simp only [T.d] at hT;have hr:Sp.room L (yw (decide (zb5 k<a)) (xz (.mk k nm kids nms pl)))=true:=hr;show _=some (Out.ret (V.tup []),psS true (Sp.app L (yw (decide (zb5 k<a)) (xz (.mk k nm kids nms pl)))));simp only [hT,zd,za,hi,cond_true,zz,hr];rfl
theorem zfa{k:Int}{nm:List UInt8}{kids:List T}{nms:List (List UInt8)}{pl:Int}:(T.mk k nm kids nms pl).d.cells=[.int .i64 k,.str nm,.sl 5 (T.ds kids),.sl 1 (nms.map .str),.int .i64 pl]:=rfl
theorem zk9(s:List UInt8):(D.str s).cells=[.str s]:=rfl
theorem zr6(t:T):T.mk t.k t.nm t.kids t.nms t.pl=t:=by cases t; rfl
theorem zsz{k:Int}{nm:List UInt8}{kids:List T}{nms:List (List UInt8)}{pl:Int}:D.agg [.int .i64 k,.str nm,.sl 5 (T.ds kids),.sl 1 (nms.map .str),.int .i64 pl]=(T.mk k nm kids nms pl).d:=rfl
theorem zy1{k : Int}{nm : List UInt8}{kids : List T}{nms : List (List UInt8)}{pl : Int}(h : Sp.right (.mk k nm kids nms pl) = true)(hk : k = 4 ∨ k = 5) : nms = [] ∨ ∃ x, nms = [x] := by
  rcases kids with _ | ⟨a, _ | ⟨b, _ | ⟨c, l⟩⟩⟩ <;> rcases hk with rfl | rfl <;> simp [Sp.right] at h
  all_goals (rcases nms with _ | ⟨x, _ | ⟨y, r⟩⟩
             · exact .inl rfl
             · exact .inr ⟨x, rfl⟩
             · have := h.2.1.1.1; simp at this; omega)
theorem z62{m:Nat}(hc:knows cx (clK 216 zl4 zlq zrx (λ _ x=>z1o m (x,1)) K91).S (zh cx)){u b:Bool}{L:List D}{t:T}(hd:t.depth≤m)(ho:t.ok=true)(hi:Sp.right t=true)(hr:Sp.room L (yw b (Sp.text t 1))=true) :
  zh cx 160 [.ptr 0 0,.d (.bool b),.func 216 [.ptr 2 0,.ptr 3 0]] (psB u L t.d)=some (.ret (.tup []),psB true (Sp.app L (yw b (Sp.text t 1))) t.d):=by
 have hT:=zd8 hd ho;have hlen:=room_le hr;rw [zke] at hlen;refine zl hc (N:=0) ?_;obtain ⟨k,nm,kids,nms,pl⟩:=t;refine (yan 0 m L u k nm kids nms pl b).trans ?_;simp only [T.d] at hT;cases b
 ·simp only [cond_false] at hlen;simp only [hT,zd,za,hi,cond_true,cond_false,zz];simp (disch:=((try simp only [xm,pe,List.length_cons,List.length_nil]); omega)) only [x5,cond_true]
  simp [xa,psB,psS,adV,T.d,yw]
 ·simp only [cond_true] at hlen;simp only [hT,zd,za,hi,cond_true,cond_false,zz];simp (disch:=((try simp only [xm,pe,List.length_cons,List.length_nil]); omega)) only [x5,cond_true]
  simp [xa,psB,psS,adV,T.d,yw]
theorem zxj{m:Nat}(hm:knows cx (KT m).S (zh cx)):knows cx (ybq m).S (zh cx):=by
 have hc:knows cx (clK 216 zl4 zlq zrx (λ _ x=>z1o m (x,1)) K91).S (zh cx):=zdi za6 zm2 λ a b x s u L ha hs hr=>by
  obtain rfl:=zoe ha;obtain ⟨t,ht,hs⟩:=zb hs;obtain ⟨hf,hs⟩:=zc hs;cases hs;obtain ⟨rfl,h1,h2⟩:=y7 ht;have hT:=zd8 h1 h2;refine zl hm (N:=0) ?_;obtain ⟨k,nm,kids,nms,pl⟩:=t;refine (yaq 0 m L u k nm kids nms pl).trans ?_;simp only [T.d] at hT;simp only [hT,zd,za,hf,cond_true,zz,hr];rfl
 exact zdi hm zp4 λ a b x s u L ha hs hr=>by
  obtain rfl:=zi1 ha;obtain ⟨s',hs',hs⟩:=zb hs;cases hs;obtain ⟨t,ht,hs'⟩:=zb hs';obtain ⟨hf,hs'⟩:=zc hs';cases hs';obtain ⟨rfl,h1,h2⟩:=y7 ht;exact z62 hc h1 h2 hf hr
theorem z89{m:Nat}(hm:knows cx (KT m).S (zh cx)){u:Bool}{L:List D}{t:T}{s:List UInt8}(hd:t.depth≤m+1)(ho:t.ok=true)(hi:zda t=true)(hr:Sp.room L (zd2 t s)=true) :
  zh cx 193 [.ptr 0 0,.d t.d,.d (.str s)] (psS u L)=some (.ret (.tup []),psS true (Sp.app L (zd2 t s))):=by
 obtain ⟨k,nm,kids,nms,pl⟩:=t;obtain ⟨h1,h2,h3,h4,h5⟩:=zag ho;have hkd:=za3 hd;simp only [zda,zv8,ph,Bool.or_eq_true] at hi;have hk:k=4∨k=5:=by rcases hi.2 with h | h <;> have:=pc h <;> omega
 obtain ⟨a,b,rfl,ha,hb⟩:=zkp hi.1 (by omega)
 have hT:∀ t∈[a,b],zi m t.d=some t:=λ t h=>zc6 hkd h5 h;have hlen:=room_le hr;simp only [zd2,wd [a,b] 0 0 a rfl,wd [a,b] 1 0 a rfl,wd [a,b] 0 1 b rfl] at hlen;refine zl (zxj hm) (N:=0) ?_;refine (yb5 0 m L u k nm [a,b] nms pl s).trans ?_;simp only [zd2,wd [a,b] 0 0 a rfl,wd [a,b] 1 0 a rfl,wd [a,b] 0 1 b rfl];have e0:decide ((0:Int)<((T.ds [a,b]).length:Int))=true:=by rw [ya]; rfl
 have e1:decide ((1:Int)<((T.ds [a,b]).length:Int))=true:=by rw [ya]; rfl
 have n0:[a,b][(0:Int).toNat]?=some a:=rfl;have n1:[a,b][(1:Int).toNat]?=some b:=rfl;rcases zy1 hi.1 hk with rfl | ⟨x,rfl⟩
 ·have hl0:decide ((([]:List (List UInt8)).map D.str).length=(1:Int))=false:=rfl;simp only [List.length_nil,Nat.zero_ne_one,decide_false,cond_false,pe,zke] at hlen ⊢;by_cases h9:a.k=9
  ·obtain ⟨k',nm',kids',nms',pl'⟩:=a;simp only [zv8] at h9;subst h9;obtain ⟨c,d,rfl,_,_⟩:=zkp ha (by omega)
   have e2:decide ((0:Int)<((T.ds [c,d]).length:Int))=true:=by rw [ya]; rfl
   have n2:[c,d][(0:Int).toNat]?=some c:=rfl;have ea:zbo [.mk 9 nm' [c,d] nms' pl',b]=decide (c.k=1):=by
    obtain ⟨k3,_,_,_,_⟩:=c;simp only [zbo,decide_true,Bool.true_and]; rfl
   simp only [hl0,e0,e1,e2,yv,n0,n1,n2,↓zfa,xk,vm,zcj,zci,zch,zcg,zsz,zr6,hT _ (pn ..),hT b (by simp),zd,za,cond_true,cond_false,zz,ha,hb,decide_true,zp0,Bool.true_or]
   rw [ea] at hlen ⊢;generalize decide (c.k=1)=q at hlen ⊢;cases q
   ·simp only [cond_false,yw] at hlen ⊢;simp (disch:=((try simp only [xm,pe,List.length_cons,List.length_nil]); omega)) only [x5,cond_true]
    simp [xa,psS,adV]
   ·simp only [cond_true,yw] at hlen ⊢;simp (disch:=((try simp only [xm,pe,List.length_cons,List.length_nil]); omega)) only [x5,cond_true]
    simp [xa,psS,adV]
  ·have ea:zbo [a,b]=false:=by
    obtain ⟨k',nm',kids',nms',pl'⟩:=a;simp only [zv8] at h9;rcases kids' with _ | ⟨⟨_,_,_,_,_⟩,_⟩ <;> simp [zbo,h9]
   simp only [hl0,e0,e1,yv,n0,n1,xk,vm,zcj,zci,zch,zcg,zbk,hT a (by simp),hT b (by simp),zd,za,cond_true,cond_false,zz,ha,hb,decide_true]
   rw [ea] at hlen ⊢;rw [pb h9];simp only [decide_true,cond_true,cond_false,yw] at hlen ⊢;simp (disch:=((try simp only [xm,pe,List.length_cons,List.length_nil]); omega)) only [x5,cond_true]
   simp [xa,psS,adV]
 ·simp only [List.length_cons,List.length_nil,Nat.zero_add,decide_true,cond_true,pe] at hlen ⊢;have nx:[x][(0:Int).toNat]?=some x:=rfl;have ex:Sp.at [x] 0=x:=rfl;rw [ex] at hlen ⊢;simp only [e0,e1,yv,n0,n1,xk,vm,zcj,zci,zch,zcg,zbk,hT a (by simp),hT b (by simp),zd,za,cond_true,zz,ha,hb,pf,zzj,zzi,qg,nx,List.length_cons,List.length_nil,Nat.lt_add_one,decide_true,zk9]
  simp (disch:=((try simp only [xm,pe,List.length_cons,List.length_nil]); omega)) only [x5,cond_true]
  simp [xa,psS,adV]
theorem yb2(n m:Nat)(L:List D)(u:Bool)(k:Int)(nm:List UInt8)(kids:List T)(nms:List (List UInt8))(pl:Int):zk cx (KT m) n 196 [.ptr 0 0,.d (.agg [.int .i64 k,.str nm,.sl 5 (T.ds kids),.sl 1 (nms.map .str),.int .i64 pl])] (psS u L)=za (Sp.fit L.length L) (za (Sp.room L [91]) (LP cx (KT m) n 196 2 3 n [(0,V.ptr 0 0),(12,V.d (D.sl 5 (T.ds kids))),(13,V.d (D.int .i64 (↑(T.ds kids).length:Int))),(14,V.d (D.int .i64 (0:Int)))] [(0,Ob.val 187695107 (V.agg [V.ptr 0 0,V.sl 6291457 (Sp.app L [91]) 1,V.d (D.bool false)])),(1,Ob.tok (Sp.app L [91]).length)] (AK cx (KT m) n 196 2 3 (EK cx 196 2)))):=by cases u <;> kernel_rfl
theorem l94(n m r:Nat)(L:List D)(kids:List T)(i:Int):LP cx (KT m) n 196 2 3 (r+1) [(0,V.ptr 0 0),(12,V.d (D.sl 5 (T.ds kids))),(13,V.d (D.int .i64 (kids.length:Int))),(14,V.d (D.int .i64 i))] (psS true L) (AK cx (KT m) n 196 2 3 (EK cx 196 2))=bif decide (i<(↑kids.length:Int)) then za (decide (0≤i)&&decide (i<(↑(T.ds kids).length:Int))) (ze (T.ds kids) i.toNat λ y=>ze y.cells 0 λ c=>ze y.cells 1 λ c_1=>ze y.cells 2 λ c_2=>ze y.cells 3 λ c_3=>ze y.cells 4 λ c_4=>bif decide ((0:Int)<i) then za (Sp.fit L.length L) (za (Sp.room L [44,32]) (match c_2 with
 | D.sl s l=>bif s.beq (cx.P.cellsOf 26)||l.isEmpty then za (decide ((0:Int)<(↑l.length:Int))) (ze l (0:Int).toNat λ y=>ze y.cells 2 λ c_5=>match c_5 with
  | D.sl s l=>bif s.beq (cx.P.cellsOf 26)||l.isEmpty then bif decide ((↑l.length:Int)=(0:Int)) then za (Sp.fit (Sp.app L [44,32]).length (Sp.app L [44,32])) (za (Sp.room (Sp.app L [44,32]) [49]) (match c_2 with
   | D.sl s l=>bif s.beq (cx.P.cellsOf 26)||l.isEmpty then za (decide ((0:Int)<(↑l.length:Int))) (ze l (0:Int).toNat λ y=>ze y.cells 2 λ c_6=>match c_6 with
    | D.sl s l=>bif s.beq (cx.P.cellsOf 26)||l.isEmpty then LP cx (KT m) n 196 2 10 n [(0,V.ptr 0 0),(5,V.ptr 7 0),(12,V.d (D.sl 5 (T.ds kids))),(13,V.d (D.int .i64 (↑kids.length:Int))),(14,V.d (D.int .i64 i)),(38,V.d (D.sl 5 l)),(39,V.d (D.int .i64 (↑l.length:Int))),(40,V.d (D.int .i64 (0:Int)))] [(0,Ob.val 187695107 (V.agg [V.ptr 0 0,V.sl 6291457 (Sp.app (Sp.app L [44,32]) [49]) 1,V.d (D.bool false)])),(1,Ob.tok (Sp.app (Sp.app L [44,32]) [49]).length),(7,Ob.val 5 (V.d (D.agg [c,c_1,c_2,c_3,c_4])))] (AL cx (KT m) n 196 2 3 10 (inK cx (KT m) n 196 2 3 r (AK cx (KT m) n 196 2 3 (EK cx 196 2)))) else none
    | x=>none) else none
   | x=>none)) else match c_2 with
   | D.sl s l=>bif s.beq (cx.P.cellsOf 26)||l.isEmpty then za (decide ((0:Int)<(↑l.length:Int))) (ze l (0:Int).toNat λ y=>ze y.cells 2 λ c_6=>match c_6 with
    | D.sl s l=>bif s.beq (cx.P.cellsOf 26)||l.isEmpty then LP cx (KT m) n 196 2 10 n [(0,V.ptr 0 0),(5,V.ptr 7 0),(12,V.d (D.sl 5 (T.ds kids))),(13,V.d (D.int .i64 (↑kids.length:Int))),(14,V.d (D.int .i64 i)),(38,V.d (D.sl 5 l)),(39,V.d (D.int .i64 (↑l.length:Int))),(40,V.d (D.int .i64 (0:Int)))] [(0,Ob.val 187695107 (V.agg [V.ptr 0 0,V.sl 6291457 (Sp.app L [44,32]) 1,V.d (D.bool false)])),(1,Ob.tok (Sp.app L [44,32]).length),(7,Ob.val 5 (V.d (D.agg [c,c_1,c_2,c_3,c_4])))] (AL cx (KT m) n 196 2 3 10 (inK cx (KT m) n 196 2 3 r (AK cx (KT m) n 196 2 3 (EK cx 196 2)))) else none
    | x=>none) else none
   | x=>none else none
  | x=>none) else none
 | x=>none)) else match c_2 with
 | D.sl s l=>bif s.beq (cx.P.cellsOf 26)||l.isEmpty then za (decide ((0:Int)<(↑l.length:Int))) (ze l (0:Int).toNat λ y=>ze y.cells 2 λ c_5=>match c_5 with
  | D.sl s l=>bif s.beq (cx.P.cellsOf 26)||l.isEmpty then bif decide ((↑l.length:Int)=(0:Int)) then za (Sp.fit L.length L) (za (Sp.room L [49]) (match c_2 with
   | D.sl s l=>bif s.beq (cx.P.cellsOf 26)||l.isEmpty then za (decide ((0:Int)<(↑l.length:Int))) (ze l (0:Int).toNat λ y=>ze y.cells 2 λ c_6=>match c_6 with
    | D.sl s l=>bif s.beq (cx.P.cellsOf 26)||l.isEmpty then LP cx (KT m) n 196 2 10 n [(0,V.ptr 0 0),(5,V.ptr 7 0),(12,V.d (D.sl 5 (T.ds kids))),(13,V.d (D.int .i64 (↑kids.length:Int))),(14,V.d (D.int .i64 i)),(38,V.d (D.sl 5 l)),(39,V.d (D.int .i64 (↑l.length:Int))),(40,V.d (D.int .i64 (0:Int)))] [(0,Ob.val 187695107 (V.agg [V.ptr 0 0,V.sl 6291457 (Sp.app L [49]) 1,V.d (D.bool false)])),(1,Ob.tok (Sp.app L [49]).length),(7,Ob.val 5 (V.d (D.agg [c,c_1,c_2,c_3,c_4])))] (AL cx (KT m) n 196 2 3 10 (inK cx (KT m) n 196 2 3 r (AK cx (KT m) n 196 2 3 (EK cx 196 2)))) else none
    | x=>none) else none
   | x=>none)) else match c_2 with
   | D.sl s l=>bif s.beq (cx.P.cellsOf 26)||l.isEmpty then za (decide ((0:Int)<(↑l.length:Int))) (ze l (0:Int).toNat λ y=>ze y.cells 2 λ c_6=>match c_6 with
    | D.sl s l=>bif s.beq (cx.P.cellsOf 26)||l.isEmpty then LP cx (KT m) n 196 2 10 n [(0,V.ptr 0 0),(5,V.ptr 7 0),(12,V.d (D.sl 5 (T.ds kids))),(13,V.d (D.int .i64 (↑kids.length:Int))),(14,V.d (D.int .i64 i)),(38,V.d (D.sl 5 l)),(39,V.d (D.int .i64 (↑l.length:Int))),(40,V.d (D.int .i64 (0:Int)))] [(0,Ob.val 187695107 (V.agg [V.ptr 0 0,V.sl 6291457 L 1,V.d (D.bool false)])),(1,Ob.tok L.length),(7,Ob.val 5 (V.d (D.agg [c,c_1,c_2,c_3,c_4])))] (AL cx (KT m) n 196 2 3 10 (inK cx (KT m) n 196 2 3 r (AK cx (KT m) n 196 2 3 (EK cx 196 2)))) else none
    | x=>none) else none
   | x=>none else none
  | x=>none) else none
 | x=>none) else za (Sp.fit L.length L) (za (Sp.room L [93]) (some (Out.ret (V.tup []),[(0,Ob.val 187695107 (V.agg [V.ptr 0 0,V.sl 6291457 (Sp.app L [93]) 1,V.d (D.bool false)])),(1,Ob.tok (Sp.app L [93]).length)]))):=by kernel_rfl
theorem i94(n m r q:Nat)(L:List D)(kids qs kids':List T)(i j k' pl':Int)(nm':List UInt8)(nms':List (List UInt8)):LP cx (KT m) n 196 2 10 (q+1) [(0,V.ptr 0 0),(5,V.ptr 7 0),(12,V.d (D.sl 5 (T.ds kids))),(13,V.d (D.int .i64 (kids.length:Int))),(14,V.d (D.int .i64 i)),(38,V.d (D.sl 5 (T.ds qs))),(39,V.d (D.int .i64 (qs.length:Int))),(40,V.d (D.int .i64 j))] [(0,Ob.val 187695107 (V.agg [V.ptr 0 0,V.sl 6291457 L 1,V.d (D.bool false)])),(1,Ob.tok L.length),(7,Ob.val 5 (V.d (D.agg [D.int .i64 k',D.str nm',D.sl 5 (T.ds kids'),D.sl 1 (nms'.map .str),D.int .i64 pl'])))] (AL cx (KT m) n 196 2 3 10 (inK cx (KT m) n 196 2 3 r (AK cx (KT m) n 196 2 3 (EK cx 196 2))))=bif decide (j<(↑qs.length:Int)) then za (decide (0≤j)&&decide (j<(↑(T.ds qs).length:Int))) (ze (T.ds qs) j.toNat λ y=>ze y.cells 0 λ c=>ze y.cells 1 λ c=>ze y.cells 2 λ c_1=>ze y.cells 3 λ c_2=>ze y.cells 4 λ c_3=>match c with
 | D.str s=>match c_2 with
  | D.sl s_1 l=>bif s_1.beq (cx.P.cellsOf 9)||l.isEmpty then za (decide ((0:Int)<(↑l.length:Int))) (ze l (0:Int).toNat λ y=>ze y.cells 0 λ c=>match c with
   | D.str s_2=>za (Sp.fit L.length L) (za (Sp.room L (40::(s++([61]++(s_2++([41]++[])))))) (LP cx (KT m) n 196 2 10 q [(0,V.ptr 0 0),(5,V.ptr 7 0),(12,V.d (D.sl 5 (T.ds kids))),(13,V.d (D.int .i64 (↑kids.length:Int))),(14,V.d (D.int .i64 i)),(38,V.d (D.sl 5 (T.ds qs))),(39,V.d (D.int .i64 (↑qs.length:Int))),(40,V.d (D.int .i64 (IntKind.i64.wrap (j+(1:Int)))))] [(0,Ob.val 187695107 (V.agg [V.ptr 0 0,V.sl 6291457 (Sp.app L (40::(s++([61]++(s_2++([41]++[])))))) 1,V.d (D.bool false)])),(1,Ob.tok (Sp.app L (40::(s++([61]++(s_2++([41]++[])))))).length),(7,Ob.val 5 (V.d (D.agg [D.int .i64 k',D.str nm',D.sl 5 (T.ds kids'),D.sl 1 (List.map D.str nms'),D.int .i64 pl'])))] (AL cx (KT m) n 196 2 3 10 (inK cx (KT m) n 196 2 3 r (AK cx (KT m) n 196 2 3 (EK cx 196 2))))))
   | x=>none) else none
  | x=>none
 | x=>none) else bif decide ((↑(T.ds kids').length:Int)=(2:Int)) then za (Sp.fit L.length L) (za (Sp.room L [32,45,62,32]) (za (decide ((1:Int)<(↑(T.ds kids').length:Int))) (ze (T.ds kids') (1:Int).toNat λ y=>ze y.cells 0 λ c=>ze y.cells 1 λ c_1=>ze y.cells 2 λ c_2=>ze y.cells 3 λ c_3=>ze y.cells 4 λ c_4=>zd (zd (zi m (D.agg [c,c_1,c_2,c_3,c_4])) λ t=>za (Sp.right t) (some (Sp.text t (0:Int)))) λ s=>za (Sp.fit (Sp.app L [32,45,62,32]).length (Sp.app L [32,45,62,32])) (za (Sp.room (Sp.app L [32,45,62,32]) s) (LP cx (KT m) n 196 2 3 r [(0,V.ptr 0 0),(12,V.d (D.sl 5 (T.ds kids))),(13,V.d (D.int .i64 (↑kids.length:Int))),(14,V.d (D.int .i64 (IntKind.i64.wrap (i+(1:Int)))))] [(0,Ob.val 187695107 (V.agg [V.ptr 0 0,V.sl 6291457 (Sp.app (Sp.app L [32,45,62,32]) s) 1,V.d (D.bool false)])),(1,Ob.tok (Sp.app (Sp.app L [32,45,62,32]) s).length)] (AK cx (KT m) n 196 2 3 (EK cx 196 2))))))) else LP cx (KT m) n 196 2 3 r [(0,V.ptr 0 0),(12,V.d (D.sl 5 (T.ds kids))),(13,V.d (D.int .i64 (↑kids.length:Int))),(14,V.d (D.int .i64 (IntKind.i64.wrap (i+(1:Int)))))] [(0,Ob.val 187695107 (V.agg [V.ptr 0 0,V.sl 6291457 L 1,V.d (D.bool false)])),(1,Ob.tok L.length)] (AK cx (KT m) n 196 2 3 (EK cx 196 2)):=by kernel_rfl
abbrev O94 (m n r:Nat) (L:List D) (kids:List T) (i:Int):Option R1:=
 LP cx (KT m) n 196 2 3 r [(0,V.ptr 0 0),(12,V.d (D.sl 5 (T.ds kids))),(13,V.d (D.int .i64 (kids.length:Int))),(14,V.d (D.int .i64 i))] [(0,Ob.val 187695107 (V.agg [V.ptr 0 0,V.sl 6291457 L 1,V.d (D.bool false)])),(1,Ob.tok L.length)] (AK cx (KT m) n 196 2 3 (EK cx 196 2))
abbrev I94 (m n r q:Nat) (L:List D) (kids qs kids':List T) (i j k' pl':Int) (nm':List UInt8) (nms':List (List UInt8)):Option R1:=
 LP cx (KT m) n 196 2 10 q [(0,V.ptr 0 0),(5,V.ptr 7 0),(12,V.d (D.sl 5 (T.ds kids))),(13,V.d (D.int .i64 (kids.length:Int))),(14,V.d (D.int .i64 i)),(38,V.d (D.sl 5 (T.ds qs))),(39,V.d (D.int .i64 (qs.length:Int))),(40,V.d (D.int .i64 j))] [(0,Ob.val 187695107 (V.agg [V.ptr 0 0,V.sl 6291457 L 1,V.d (D.bool false)])),(1,Ob.tok L.length),(7,Ob.val 5 (V.d (D.agg [D.int .i64 k',D.str nm',D.sl 5 (T.ds kids'),D.sl 1 (nms'.map .str),D.int .i64 pl'])))] (AL cx (KT m) n 196 2 3 10 (inK cx (KT m) n 196 2 3 r (AK cx (KT m) n 196 2 3 (EK cx 196 2))))
def zbl(kids:List T):List UInt8:=bif decide (kids.length=2) then [32,45,62,32]++Sp.at (Sp.texts kids 0) 1 else []
theorem z49{t:T}(h:zbn t=true):∃ nm x pl,t=.mk 13 nm [] [x] pl∧Sp.named nm=true∧Sp.bit x=true:=by
 obtain ⟨k,nm,kids,nms,pl⟩:=t;rcases kids with _ | ⟨a,kids⟩ <;> rcases nms with _ | ⟨x,_ | ⟨y,nms⟩⟩ <;> simp [zbn] at h
 obtain ⟨⟨rfl,h1⟩,h2⟩:=h;exact ⟨nm,x,pl,rfl,h1,h2⟩
theorem zyb{m n r:Nat}{kids qs kids':List T}{i k' pl':Int}{nm':List UInt8}{nms':List (List UInt8)}(hq:∀ t∈qs,zbn t=true)(hl:qs.length<4294967296)
  (hk:kids'.length=2→∃ t,kids'[1]?=some t∧zi m t.d=some t∧Sp.right t=true) :
  ∀ (rest:List T) (j q:Nat) (L:List D),qs.drop j=rest→j≤qs.length→rest.length<q→Sp.room L ((rest.map zd1).flatten++zbl kids')=true →
   I94 m n r q L kids qs kids' i j k' pl' nm' nms'=O94 m n r (Sp.app L ((rest.map zd1).flatten++zbl kids')) kids (IntKind.i64.wrap (i+1))
 | [],j,q,L,hd,hj,hk',hr=>by
  obtain ⟨q,rfl⟩:∃ i,q=i+1:=⟨q - 1,by omega⟩
  have:qs.length≤j:=by simpa using hd
  obtain rfl:j=qs.length:=by omega
  simp only [List.map_nil,List.flatten_nil,List.nil_append] at hr ⊢;have hlen:=room_le hr;simp only [I94,O94];rw [i94,xu,cond_false,ya,z2k];by_cases h2:kids'.length=2
  ·obtain ⟨t,ht,hT,hrt⟩:=hk h2;have n1:kids'[(1:Int).toNat]?=some t:=ht;have e:zbl kids'=[32,45,62,32]++Sp.text t 0:=by
    unfold zbl;rw [pa h2,cond_true,wd kids' 0 1 t ht]
   rw [e] at hlen ⊢;have e1:decide ((1:Int)<(kids'.length:Int))=true:=pa (by omega)
   simp only [pe,List.length_cons,List.length_nil] at hlen;rw [pa h2];simp only [cond_true,e1,yv,n1,xk,vm,zcj,zci,zch,zcg,zbk,hT,zd,za,hrt,zz];simp (disch:=((try simp only [xm,pe,List.length_cons,List.length_nil]); omega)) only [x5,cond_true]
   simp [xa]
  ·have e:zbl kids'=[]:=by unfold zbl; rw [pb h2]; rfl
   rw [pb h2,cond_false,e,zmn]
 | t::rest,j,q,L,hd,hj,hk',hr=>by
  obtain ⟨q,rfl⟩:∃ i,q=i+1:=⟨q - 1,by omega⟩
  obtain ⟨h1,h2,h3⟩:=zca hd;obtain ⟨nm,x,pl,rfl,_,_⟩:=z49 (hq t (po h2));have et:zd1 (.mk 13 nm [] [x] pl)=40::(nm++([61]++(x++([41]++[])))):=by simp [zd1,T.nm,T.nms,Sp.at]
  simp only [List.map_cons,List.flatten_cons,List.append_assoc] at hr ⊢;obtain ⟨hr1,hr2⟩:=zez hr;have ih:=zyb (n:=n) (r:=r) (kids:=kids) (i:=i) (k':=k') (pl':=pl') (nm':=nm') (nms':=nms') hq hl hk rest (j+1) q (Sp.app L (zd1 (.mk 13 nm [] [x] pl))) h3 h1 (by simp at hk'; omega) hr2
  rw [xa] at ih;rw [←ih,et];rw [et] at hr1;simp only [I94];have nx:[x][(0:Int).toNat]?=some x:=rfl;have ex:decide ((0:Int)<(([x].map D.str).length:Int))=true:=rfl;rw [i94,yh h1,ya,yh h1,xe,yv,pm,h2,wu h1 hl];simp only [cond_true,za,zd,Bool.and_self,zfa,vm,zcj,zci,zch,zcg,z8x,Bool.true_or,ex,qg,nx,zk9,zz,hr1]
theorem z3a{t:T}(h:Sp.elem t=true):∃ qs plf r pl,t=.mk 11 [] (.mk 12 [] qs [] plf::r) [] pl∧(∀ q∈qs,zbn q=true)∧(r=[]∨∃ u,r=[u]∧Sp.right u=true):=by
 obtain ⟨k,nm,kids,nms,pl⟩:=t;rcases kids with _ | ⟨f,_ | ⟨u,_ | ⟨c,l⟩⟩⟩ <;> simp [Sp.elem] at h
 ·obtain ⟨k',nm',kids',nms',pl'⟩:=f;simp [zfc] at h;obtain ⟨⟨⟨rfl,rfl⟩,rfl⟩,⟨⟨rfl,rfl⟩,rfl⟩,h⟩:=h;exact ⟨kids',pl',[],pl,rfl,h,.inl rfl⟩
 ·obtain ⟨k',nm',kids',nms',pl'⟩:=f;simp [zfc] at h;obtain ⟨⟨⟨⟨rfl,rfl⟩,rfl⟩,⟨⟨rfl,rfl⟩,rfl⟩,h⟩,hu⟩:=h;exact ⟨kids',pl',[u],pl,rfl,h,.inr ⟨u,rfl,hu⟩⟩
theorem z7z(k:Int)(nm:List UInt8)(f:T)(r:List T)(nms:List (List UInt8))(pl:Int):zlh (.mk k nm (f::r) nms pl)=zhf f++zbl (f::r):=rfl
theorem zxu{m n:Nat}{kids:List T}(hn:4294967296<n)(hl:kids.length<4294967296)(ho:T.oks kids=true)(hd0:T.depths kids≤m)(he:∀ t∈kids,Sp.elem t=true) :
  ∀ (rest:List T) (j r:Nat) (L:List D),kids.drop j=rest→j≤kids.length→rest.length<r→Sp.room L (zas (decide (j=0)) rest++[93])=true →
   O94 m n r L kids j=some (.ret (.tup []),psS true (Sp.app L (zas (decide (j=0)) rest++[93])))
 | [],j,r,L,hd,hj,hk',hr=>by
  obtain ⟨r,rfl⟩:∃ i,r=i+1:=⟨r - 1,by omega⟩
  have:kids.length≤j:=by simpa using hd
  obtain rfl:j=kids.length:=by omega
  have e:zas (decide (kids.length=0)) []++[93]=[93]:=by cases decide (kids.length=0) <;> rfl
  rw [e] at hr ⊢;simp only [O94];refine (l94 n m r L kids kids.length).trans ?_;rw [xu,cond_false];simp only [zz,za,cond_true,hr];rfl
 | t::rest,j,r,L,hd,hj,hk',hr=>by
  obtain ⟨r,rfl⟩:∃ i,r=i+1:=⟨r - 1,by omega⟩
  obtain ⟨h1,h2,h3⟩:=zca hd;have htm:=po h2;obtain ⟨qs,plf,r',pl,rfl,hq,hr'⟩:=z3a (he t htm);obtain ⟨_,o2,_,_,o5⟩:=zag (qm ho htm);have hdx:T.depths (.mk 12 [] qs [] plf::r')≤m:=by
   have:=zk8 htm;simp only [T.depth] at this; omega
  have hql:qs.length<4294967296:=by
   obtain ⟨_,q2,_,_,_⟩:=zag (qm o5 (pn ..));exact xf q2
  have hkt:(T.mk 12 [] qs [] plf::r').length=2→∃ t,(T.mk 12 [] qs [] plf::r')[1]?=some t∧zi m t.d=some t∧Sp.right t=true:=by
   intro h;rcases hr' with rfl | ⟨u,rfl,hu⟩
   ·simp at h
   ·exact ⟨u,rfl,zc6 hdx o5 (by simp),hu⟩
  have step:∀ s:List UInt8,zas (decide (j=0)) (.mk 11 [] (.mk 12 [] qs [] plf::r') [] pl::rest)++[93]=(bif decide (j=0) then [] else [44,32])++(bif qs.isEmpty then [49] else [])++((qs.map zd1).flatten++zbl (.mk 12 [] qs [] plf::r'))++(zas (decide (j+1=0)) rest++[93]):=by
   intro _;rw [zas,z7z,zhf,zfw,pb (p:=j+1=0) (by omega)]
   simp only [List.append_assoc]
  rw [step []] at hr ⊢;generalize hP:(bif decide (j=0) then [] else [44,32]:List UInt8)=P at hr ⊢;generalize hQ:(bif qs.isEmpty then [49] else []:List UInt8)=Q at hr ⊢;obtain ⟨r1,r2⟩:=zez hr;obtain ⟨r3,r4⟩:=zez r1;obtain ⟨r5,r6⟩:=zez r3;have h_in:=zyb (n:=n) (r:=r) (kids:=kids) (i:=(j:Int)) (k':=11) (pl':=pl) (nm':=[]) (nms':=[]) hq hql hkt qs 0 n (Sp.app L (P++Q)) rfl (Nat.zero_le _) (by omega) r4
  have h_out:=zxu hn hl ho hd0 he rest (j+1) r (Sp.app L (P++Q++((qs.map zd1).flatten++zbl (.mk 12 [] qs [] plf::r')))) h3 h1 (by simp at hk'; omega) r2
  rw [xa,wu h1 hl] at h_in;have h:=h_in.trans h_out;rw [xa] at h;rw [←h];have f0:(T.mk 12 [] qs [] plf::r')[(0:Int).toNat]?=some (T.mk 12 [] qs [] plf):=rfl;have g0:decide ((0:Int)<((T.ds (T.mk 12 [] qs [] plf::r')).length:Int))=true:=pa (by rw [ya]; simp)
  simp only [O94,I94];refine (l94 n m r L kids j).trans ?_;rw [yh h1,ya,yh h1,xe,yv,pm,h2];simp only [cond_true,za,zd,Bool.and_self,zfa,vm,zcj,zci,zch,zcg,zp0,Bool.true_or,yv,f0,g0,zz];rw [ya,zzg];rcases j with _ | j
  ·simp only [decide_true,cond_true] at hP;subst hP;rcases qs with _ | ⟨q,qs⟩
   ·simp only [List.isEmpty_nil,cond_true] at hQ;subst hQ;simp only [List.nil_append] at r6 ⊢;rw [zmn] at r6;simp [r6]
   ·simp only [List.isEmpty_cons,cond_false] at hQ;subst hQ;simp [zmn]
  ·simp only [Nat.succ_ne_zero,decide_false,cond_false] at hP;subst hP;have hj0:decide ((0:Int)<((j+1:Nat):Int))=true:=pa (by omega)
   rw [hj0];rcases qs with _ | ⟨q,qs⟩
   ·simp only [List.isEmpty_nil,cond_true] at hQ;subst hQ;simp [r5,r6,xa]
   ·simp only [List.isEmpty_cons,cond_false] at hQ;subst hQ;simp [r5]
theorem zy2{nm:List UInt8}{kids:List T}{nms:List (List UInt8)}{pl:Int}(h:Sp.right (.mk 10 nm kids nms pl)=true):∀ t∈kids,Sp.elem t=true:=by
 rcases kids with _ | ⟨a,_ | ⟨b,_ | ⟨c,l⟩⟩⟩ <;> simp [Sp.right,zhx] at h ⊢ <;> simp_all
theorem z87{m:Nat}(hm:knows cx (KT m).S (zh cx)){u:Bool}{L:List D}{t:T}(hd:t.depth≤m+1)(ho:t.ok=true)(hi:zh4 t=true)(hr:Sp.room L (zi8 t)=true) :
  zh cx 196 [.ptr 0 0,.d t.d] (psS u L)=some (.ret (.tup []),psS true (Sp.app L (zi8 t))):=by
 obtain ⟨k,nm,kids,nms,pl⟩:=t;obtain ⟨h1,h2,h3,h4,h5⟩:=zag ho;have hkd:=za3 hd;simp only [zh4,ph] at hi;have hk:k=10:=pc hi.2;subst hk;refine zl hm (N:=4294967297) ?_;refine (yb2 _ m L u 10 nm kids nms pl).trans ?_;simp only [zi8,List.append_assoc] at hr ⊢;obtain ⟨r1,r2⟩:=zez hr;have h:=zxu (m:=m) (n:=4294967297) (kids:=kids) (by omega) (xf h2) h5 hkd (zy2 hi.1) kids 0 4294967297 (Sp.app L [91]) rfl (Nat.zero_le _) (by have:=xf h2; omega) r2
 rw [xa] at h;simp only [zz,za,cond_true,r1,ya];exact h
theorem z4g{k:Int}{nm:List UInt8}{kids:List T}{nms:List (List UInt8)}{pl:Int}(h:Sp.right (.mk k nm kids nms pl)=true) :
  k=1∨((k=2∨k=3)∧∃ a,kids=[a]∧Sp.right a=true)∨(k=4∨k=5)∨(k=6∧∃ a b,kids=[a,b]∧Sp.right a=true∧Sp.right b=true)∨(k=7∧∃ a b,kids=[a,b]∧Sp.right a=true∧Sp.form b=true)∨(k=8∨k=9)∨k=10:=by
 rcases kids with _ | ⟨a,_ | ⟨b,_ | ⟨c,l⟩⟩⟩
 ·simp [Sp.right] at h;rcases h.2 with h | h <;> simp [h.1]
 ·simp [Sp.right] at h;rcases h.2 with h | h
  ·refine .inr (.inl ⟨h.1.1.1,a,rfl,h.2⟩)
  ·simp [h.1.1]
 ·simp [Sp.right] at h;rcases h.2 with ((h | h) | h) | h
  ·rcases h.1.1.1.1 with rfl | rfl <;> simp
  ·rcases h.1.1.1 with (hk | hk) | hk
   ·exact .inr (.inr (.inr (.inl ⟨hk,a,b,rfl,h.1.2,h.2⟩)))
   ·simp [hk]
   ·simp [hk]
  ·exact .inr (.inr (.inr (.inr (.inl ⟨h.1.1.1,a,b,rfl,h.1.2,h.2⟩))))
  ·simp [h.1.1.1]
 ·simp [Sp.right] at h;simp [h]
theorem z15{nms:List (List UInt8)}{sep:List UInt8}(h3:yj nms=true)(h4:nms.all yj=true)(h:(yp nms sep).length≤140737488355328):zlf (D.sl 1 (nms.map D.str),sep)=some (nms,sep):=by
 unfold zlf;simp only [z14 h3 h4];rw [pa (by unfold yp at h; omega)]
 rfl
theorem z0v{m:Nat}(hm:knows cx (KT m).S (zh cx)):knows cx (K71 m).S (zh cx):=by
 have h92:=qf (f:=194) (dec:=zl0) (sp:=z5r) hm λ a q s u L ha hs hr=>by
  obtain ⟨x,n⟩:=q;obtain rfl:=zf3 ha;obtain ⟨t,ht,hs⟩:=zb hs;obtain ⟨hf,hs⟩:=zc hs;cases hs;obtain ⟨rfl,h2⟩:=w7 ht;exact z5z t.depth u L t n (Nat.le_refl _) h2 hf hr
 have h94:=qf (f:=196) (dec:=zrd) (sp:=z8y (m+1)) h92 λ a x s u L ha hs hr=>by
  obtain rfl:=zoa ha;obtain ⟨t,ht,hs⟩:=zb hs;obtain ⟨hf,hs⟩:=zc hs;cases hs;obtain ⟨rfl,h1,h2⟩:=y7 ht;exact z87 hm h1 h2 hf hr
 have h93:=qf (f:=195) (dec:=zux) (sp:=z8z (m+1)) h94 λ a q s u L ha hs hr=>by
  obtain ⟨x,g⟩:=q;obtain rfl:=zn9 ha;obtain ⟨t,ht,hs⟩:=zb hs;obtain ⟨hf,hs⟩:=zc hs;cases hs;obtain ⟨rfl,h1,h2⟩:=y7 ht;exact z88 hm h1 h2 hf hr
 exact qf h93 λ a q s u L ha hs hr=>by
  obtain ⟨x,g⟩:=q;obtain rfl:=zn9 ha;obtain ⟨t,ht,hs⟩:=zb hs;obtain ⟨hf,hs⟩:=zc hs;cases hs;obtain ⟨rfl,h1,h2⟩:=y7 ht;exact z89 hm h1 h2 hf hr
theorem z9e{m:Nat}(hm:knows cx (KT m).S (zh cx)){u:Bool}{L:List D}{t:T}(hd:t.depth≤m+1)(ho:t.ok=true)(hi:Sp.right t=true)(hr:Sp.room L (Sp.bare t)=true) :
  zh cx 163 [.ptr 0 0,.d t.d] (psS u L)=some (.ret (.tup []),psS true (Sp.app L (Sp.bare t))):=by
 have hTt:=zd8 hd ho;obtain ⟨k,nm,kids,nms,pl⟩:=t;obtain ⟨h1,h2,h3,h4,h5⟩:=zag ho;have hkd:=za3 hd;have hT:∀ t∈kids,zi m t.d=some t:=λ t h=>zc6 hkd h5 h;simp only [T.d] at hTt;refine zl (z0v hm) (N:=0) ?_;rcases z4g hi with rfl | ⟨hk,a,rfl,ha⟩ | hk | ⟨rfl,a,b,rfl,ha,hb⟩ | ⟨rfl,a,b,rfl,ha,hb⟩ | hk | rfl
 ·refine (z7w 0 m L u nm kids nms pl).trans ?_;have e:Sp.bare (.mk 1 nm kids nms pl)=nm:=by simp [Sp.bare]
  rw [e] at hr ⊢;simp only [zz,za,cond_true,List.append_nil,hr];rfl
 ·have e0:decide ((0:Int)<((T.ds [a]).length:Int))=true:=by rw [ya]; rfl
  have n0:[a][(0:Int).toNat]?=some a:=rfl;rcases hk with rfl | rfl
  ·have e:Sp.bare (.mk 2 nm [a] nms pl)=[92]++yp nms [32]++[46,32]++Sp.text a 0:=by simp [Sp.bare,←wd [a] 0 0 a rfl]
   rw [e] at hr ⊢;have hlen:=room_le hr;simp only [pe,List.length_cons,List.length_nil] at hlen;refine (z7v 0 m L u nm [a] nms pl).trans ?_;simp only [z15 h3 h4 (sep:=[32]) (by omega),e0,yv,n0,xk,vm,zcj,zci,zch,zcg,zbk,hT a (by simp),zd,za,cond_true,zz,ha]
   simp (disch:=((try simp only [xm,pe,List.length_cons,List.length_nil]); omega)) only [x5,cond_true]
   simp [xa,psS,adV]
  ·have e:Sp.bare (.mk 3 nm [a] nms pl)=[60]++yp nms [32]++[62,32]++Sp.text a 0:=by simp [Sp.bare,←wd [a] 0 0 a rfl]
   rw [e] at hr ⊢;have hlen:=room_le hr;simp only [pe,List.length_cons,List.length_nil] at hlen;refine (z7u 0 m L u nm [a] nms pl).trans ?_;simp only [z15 h3 h4 (sep:=[32]) (by omega),e0,yv,n0,xk,vm,zcj,zci,zch,zcg,zbk,hT a (by simp),zd,za,cond_true,zz,ha]
   simp (disch:=((try simp only [xm,pe,List.length_cons,List.length_nil]); omega)) only [x5,cond_true]
   simp [xa,psS,adV]
 ·rcases hk with rfl | rfl
  ·have hB:zda (.mk 4 nm kids nms pl)=true:=by unfold zda; rw [hi]; rfl
   have e:Sp.bare (.mk 4 nm kids nms pl)=zd2 (.mk 4 nm kids nms pl) [32,45,62,32]:=by simp [Sp.bare,zd2]
   rw [e] at hr ⊢;refine (z7t 0 m L u nm kids nms pl).trans ?_;simp only [hTt,hB,zd,za,cond_true,zz,hr];rfl
  ·have hB:zda (.mk 5 nm kids nms pl)=true:=by unfold zda; rw [hi]; rfl
   have e:Sp.bare (.mk 5 nm kids nms pl)=zd2 (.mk 5 nm kids nms pl) [32,42,32]:=by simp [Sp.bare,zd2]
   rw [e] at hr ⊢;refine (z7s 0 m L u nm kids nms pl).trans ?_;simp only [hTt,hB,zd,za,cond_true,zz,hr];rfl
 ·have e0:decide ((0:Int)<((T.ds [a,b]).length:Int))=true:=by rw [ya]; rfl
  have e1:decide ((1:Int)<((T.ds [a,b]).length:Int))=true:=by rw [ya]; rfl
  have n0:[a,b][(0:Int).toNat]?=some a:=rfl;have n1:[a,b][(1:Int).toNat]?=some b:=rfl;have e:Sp.bare (.mk 6 nm [a,b] nms pl)=Sp.text a 1++[32]++Sp.text b 2:=by simp [Sp.bare,←wd [a,b] 1 0 a rfl,←wd [a,b] 2 1 b rfl]
  rw [e] at hr ⊢;have hlen:=room_le hr;simp only [pe,List.length_cons,List.length_nil] at hlen;refine (z7r 0 m L u nm [a,b] nms pl).trans ?_;simp only [e0,e1,yv,n0,n1,xk,vm,zcj,zci,zch,zcg,zbk,hT a (by simp),hT b (by simp),zd,za,cond_true,zz,ha,hb]
  simp (disch:=((try simp only [xm,pe,List.length_cons,List.length_nil]); omega)) only [x5,cond_true]
  simp [xa,psS,adV]
 ·have e0:decide ((0:Int)<((T.ds [a,b]).length:Int))=true:=by rw [ya]; rfl
  have e1:decide ((1:Int)<((T.ds [a,b]).length:Int))=true:=by rw [ya]; rfl
  have n0:[a,b][(0:Int).toNat]?=some a:=rfl;have n1:[a,b][(1:Int).toNat]?=some b:=rfl;have e:Sp.bare (.mk 7 nm [a,b] nms pl)=Sp.text a 1++[32,64,32]++za5 b 2:=by simp [Sp.bare,←wd [a,b] 1 0 a rfl]
  rw [e] at hr ⊢;have hlen:=room_le hr;simp only [pe,List.length_cons,List.length_nil] at hlen;refine (z7q 0 m L u nm [a,b] nms pl).trans ?_;simp only [e0,e1,yv,n0,n1,xk,vm,zcj,zci,zch,zcg,zbk,hT a (by simp),zhp h5 (t:=b) (by simp),zd,za,cond_true,zz,ha,hb]
  simp (disch:=((try simp only [xm,pe,List.length_cons,List.length_nil]); omega)) only [x5,cond_true]
  simp [xa,psS,adV]
 ·rcases hk with rfl | rfl
  ·have hB:zc9 (.mk 8 nm kids nms pl)=true:=by unfold zc9; rw [hi]; rfl
   have e:Sp.bare (.mk 8 nm kids nms pl)=zdy (.mk 8 nm kids nms pl) [44,32]:=by simp [Sp.bare,zdy]
   rw [e] at hr ⊢;refine (z7p 0 m L u nm kids nms pl).trans ?_;simp only [hTt,hB,zd,za,cond_true,zz,hr];rfl
  ·have hB:zc9 (.mk 9 nm kids nms pl)=true:=by unfold zc9; rw [hi]; rfl
   have e:Sp.bare (.mk 9 nm kids nms pl)=zdy (.mk 9 nm kids nms pl) [32,58,32]:=by simp [Sp.bare,zdy]
   rw [e] at hr ⊢;refine (z7o 0 m L u nm kids nms pl).trans ?_;simp only [hTt,hB,zd,za,cond_true,zz,hr];rfl
 ·have hB:zh4 (.mk 10 nm kids nms pl)=true:=by unfold zh4; rw [hi]; rfl
  have e:Sp.bare (.mk 10 nm kids nms pl)=zi8 (.mk 10 nm kids nms pl):=by simp [Sp.bare,zi8]
  rw [e] at hr ⊢;refine (z43 0 m L u nm kids nms pl).trans ?_;simp only [hTt,hB,zd,za,cond_true,zz,hr];rfl
theorem z63{m:Nat}(hc:knows cx (clK 162 zl4 zlq zrx (λ _ x=>zyw m x) K91).S (zh cx)){u b:Bool}{L:List D}{t:T}(hd:t.depth≤m)(ho:t.ok=true)(hi:Sp.right t=true)(hr:Sp.room L (yw b (Sp.bare t))=true) :
  zh cx 160 [.ptr 0 0,.d (.bool b),.func 162 [.ptr 2 0,.ptr 3 0]] (psB u L t.d)=some (.ret (.tup []),psB true (Sp.app L (yw b (Sp.bare t))) t.d):=by
 have hT:=zd8 hd ho;have hlen:=room_le hr;rw [zke] at hlen;refine zl hc (N:=0) ?_;obtain ⟨k,nm,kids,nms,pl⟩:=t;refine (yao 0 m L u k nm kids nms pl b).trans ?_;simp only [T.d] at hT;cases b
 ·simp only [cond_false] at hlen;simp only [hT,zd,za,hi,cond_true,cond_false,zz];simp (disch:=((try simp only [xm,pe,List.length_cons,List.length_nil]); omega)) only [x5,cond_true]
  simp [xa,psB,psS,adV,T.d,yw]
 ·simp only [cond_true] at hlen;simp only [hT,zd,za,hi,cond_true,cond_false,zz];simp (disch:=((try simp only [xm,pe,List.length_cons,List.length_nil]); omega)) only [x5,cond_true]
  simp [xa,psB,psS,adV,T.d,yw]
theorem z0w{m:Nat}(hm:knows cx (KT m).S (zh cx)):knows cx (K70 (m+1)).S (zh cx):=by
 have h71:knows cx (prK 163 zrd (zyw (m+1)) K91).S (zh cx):=qf za6 λ a x s u L ha hs hr=>by
  obtain rfl:=zoa ha;obtain ⟨t,ht,hs⟩:=zb hs;obtain ⟨hf,hs⟩:=zc hs;cases hs;obtain ⟨rfl,h1,h2⟩:=y7 ht;exact z9e hm h1 h2 hf hr
 have hc:knows cx (clK 162 zl4 zlq zrx (λ _ x=>zyw (m+1) x) K91).S (zh cx):=zdi za6 zm2 λ a b x s u L ha hs hr=>by
  obtain rfl:=zoe ha;obtain ⟨t,ht,hs⟩:=zb hs;obtain ⟨hf,hs⟩:=zc hs;cases hs;obtain ⟨rfl,h1,h2⟩:=y7 ht;have hT:=zd8 h1 h2;refine zl h71 (N:=0) ?_;obtain ⟨k,nm,kids,nms,pl⟩:=t;refine (yb7 0 (m+1) L u k nm kids nms pl).trans ?_;simp only [T.d] at hT;simp only [hT,zd,za,hf,cond_true,zz,hr];rfl
 exact zdi za6 zp4 λ a b x s u L ha hs hr=>by
  obtain rfl:=zi1 ha;obtain ⟨s',hs',hs⟩:=zb hs;cases hs;obtain ⟨t,ht,hs'⟩:=zb hs';obtain ⟨hf,hs'⟩:=zc hs';cases hs';obtain ⟨rfl,h1,h2⟩:=y7 ht;exact z63 hc h1 h2 hf hr
theorem z52:∀ (m:Nat) (u:Bool) (L:List D) (t:T) (a:Int),t.depth≤m→t.ok=true→Sp.right t=true→Sp.room L (Sp.text t a)=true →
  zh cx 128 [.ptr 0 0,.d t.d,.d (.int .i64 a)] (psS u L)=some (.ret (.tup []),psS true (Sp.app L (Sp.text t a)))
 | 0,_,_,.mk ..,_,h,_,_,_=>by simp [T.depth] at h
 | m+1,u,L,t,a,hd,ho,hi,hr=>by
  have hm:knows cx (KT m).S (zh cx):=qf za6 λ a q s u L ha hs hr=>by
   obtain ⟨x,n⟩:=q;obtain rfl:=zf3 ha;obtain ⟨t,ht,hs⟩:=zb hs;obtain ⟨hf,hs⟩:=zc hs;cases hs;obtain ⟨rfl,h1,h2⟩:=y7 ht;exact z52 m u L t n h1 h2 hf hr
  have hT:=zd8 hd ho;have hC:=zjb ho;refine zl (z0w hm) (N:=0) ?_;obtain ⟨k,nm,kids,nms,pl⟩:=t;refine (ycd 0 (m+1) L u k nm kids nms pl a).trans ?_;simp only [T.d] at hT hC;unfold Sp.text at hr ⊢;simp only [hT,hC,zd,za,hi,cond_true,zz,hr];rfl
def Sp.lens:List (List UInt8)→Nat | []=>0 | x::l=>x.length+1+Sp.lens l
mutual
def yo:T→Nat
 | .mk _ nm kids nms _=>1+nm.length+Sp.lens nms+Sp.bulks kids
def Sp.bulks:List T→Nat
 | []=>0
 | t::l=>yo t+Sp.bulks l
end
theorem zos{t:T}:∀ {l:List T},t∈l→yo t≤Sp.bulks l
 | u::l,h=>by
  simp only [Sp.bulks];cases h with
  | head=>omega
  | tail _ h=>have:=zos h; omega
theorem zi4(b:Bool)(s:List UInt8):(yw b s).length≤s.length+2:=by rw [zke]; cases b <;> simp
theorem zw7:∀ (l:List (List UInt8)) (i:Nat),(Sp.at l i).length≤Sp.lens l
 | [],i=>by simp [Sp.at,Sp.lens]
 | x::l,0=>by simp [Sp.at,Sp.lens]; omega
 | x::l,i+1=>by have:=zw7 l i; simp [Sp.at,Sp.lens] at this ⊢; omega
theorem zzm(sep:List UInt8):yp [] sep=[]:=by simp [yp,Lib.join,List.intercalate]
theorem zzl(x sep:List UInt8):yp [x] sep=x:=by simp [yp,Lib.join,List.intercalate]
theorem zv9(x y sep:List UInt8)(l:List (List UInt8)):yp (x::y::l) sep=x++sep++yp (y::l) sep:=by simp [yp,Lib.join,List.intercalate,List.intersperse]
theorem zqv:∀ (l:List (List UInt8)),(yp l [32]).length≤Sp.lens l
 | []=>by simp [zzm]
 | [x]=>by simp [zzl,Sp.lens]
 | x::y::l=>by
  have:=zqv (y::l);rw [zv9,Sp.lens];simp only [pe,List.length_cons,List.length_nil];omega
mutual
theorem zmm:∀ t:T,(xz t).length+2≤12 * yo t
 | .mk k nm kids nms pl=>by
  have h2:=z2x kids;simp only [xz,yo];cases decide (k=16)
  ·cases decide (k=15)
   ·cases decide (k=14)
    ·simp only [cond_false]; omega
    ·have:=h2 0 1;simp only [cond_true,cond_false,pe,List.length_cons,List.length_nil]; omega
   ·have:=h2 1 2;simp only [cond_true,cond_false,pe,List.length_cons,List.length_nil]; omega
  ·have:=h2 2 2;simp only [cond_true,pe,List.length_cons,List.length_nil]; omega
theorem z2x:∀ (l:List T) (a b:Int),(Sp.at (zb6 l a) 0).length+(Sp.at (zb6 l b) 1).length≤12 * Sp.bulks l
 | [],a,b=>by simp [zb6,Sp.at,Sp.bulks]
 | [t],a,b=>by
  have:=zmm t;have:=zi4 (decide (zb5 t.k<a)) (xz t);simp [zb6,Sp.at,Sp.bulks]; omega
 | t::u::l,a,b=>by
  have:=zmm t;have:=zmm u;have:=zi4 (decide (zb5 t.k<a)) (xz t);have:=zi4 (decide (zb5 u.k<b)) (xz u);simp [zb6,Sp.at,Sp.bulks]; omega
end
theorem z7y(t:T)(a:Int):(za5 t a).length≤12 * yo t:=by
 have:=zmm t;have:=zi4 (decide (zb5 t.k<a)) (xz t);unfold za5; omega
theorem z5a(t:T):(zd1 t).length≤12 * yo t:=by
 obtain ⟨k,nm,kids,nms,pl⟩:=t;have:=zw7 nms 0;simp only [zd1,zxz,zr4,yo,pe,List.length_cons,List.length_nil];omega
theorem zuu:∀ l:List T,((l.map zd1).flatten).length≤12 * Sp.bulks l
 | []=>by simp
 | t::l=>by
  have:=z5a t;have:=zuu l;simp only [List.map_cons,List.flatten_cons,pe,Sp.bulks]; omega
theorem zq7(t:T):(zhf t).length≤12 * yo t:=by
 obtain ⟨k,nm,kids,nms,pl⟩:=t;have:=zuu kids;simp only [zhf,zfw,yo,pe];cases kids.isEmpty <;> simp only [cond_true,cond_false,List.length_cons,List.length_nil] <;> omega
mutual
theorem z3w:∀ t:T,(Sp.bare t).length+2≤12 * yo t
 | .mk k nm kids nms pl=>by
  have h2:=zvm kids;have hj:=zqv nms;have ha:=zw7 nms 0;have hb:=zu8 kids;simp only [Sp.bare,yo];cases decide (k=1)
  rotate_left
  ·simp only [cond_true]; omega
  cases decide (k=2)
  rotate_left
  ·have:=h2 0 0; simp only [cond_true,cond_false,pe,List.length_cons,List.length_nil]; omega
  cases decide (k=3)
  rotate_left
  ·have:=h2 0 0; simp only [cond_true,cond_false,pe,List.length_cons,List.length_nil]; omega
  have h4:((bif decide (nms.length=1) then [40]++Sp.at nms 0++[32,58,32]++Sp.at (Sp.texts kids 0) 0++[41] else yw (zbo kids) (Sp.at (Sp.texts kids 1) 0))++[32,45,62,32]++Sp.at (Sp.texts kids 0) 1).length≤9+Sp.lens nms+12 * Sp.bulks kids:=by
   have:=zi4 (zbo kids) (Sp.at (Sp.texts kids 1) 0);have:=h2 0 0;have:=h2 1 0;cases decide (nms.length=1) <;> simp only [cond_true,cond_false,pe,List.length_cons,List.length_nil] <;> omega
  have h5:((bif decide (nms.length=1) then [40]++Sp.at nms 0++[32,58,32]++Sp.at (Sp.texts kids 0) 0++[41] else yw (zbo kids) (Sp.at (Sp.texts kids 1) 0))++[32,42,32]++Sp.at (Sp.texts kids 0) 1).length≤9+Sp.lens nms+12 * Sp.bulks kids:=by
   have:=zi4 (zbo kids) (Sp.at (Sp.texts kids 1) 0);have:=h2 0 0;have:=h2 1 0;cases decide (nms.length=1) <;> simp only [cond_true,cond_false,pe,List.length_cons,List.length_nil] <;> omega
  cases decide (k=4)
  rotate_left
  ·simp only [cond_true,cond_false]; omega
  cases decide (k=5)
  rotate_left
  ·simp only [cond_true,cond_false]; omega
  cases decide (k=6)
  rotate_left
  ·have:=h2 1 2; simp only [cond_true,cond_false,pe,List.length_cons,List.length_nil]; omega
  cases decide (k=7)
  rotate_left
  ·have:=h2 1 1;simp only [cond_true,cond_false];rcases kids with _ | ⟨a,_ | ⟨b,l⟩⟩
   ·simp [Sp.texts,Sp.at]; omega
   ·simp only [pe,List.length_cons,List.length_nil] at this ⊢; omega
   ·have h8:=z7y b 2;have h9:=zbr a 1;have e:Sp.at (Sp.texts (a::b::l) 1) 0=yw (decide (zex a.k<1)) (Sp.bare a):=rfl;simp only [pe,List.length_cons,List.length_nil,Sp.bulks,e];omega
  cases decide (k=8)
  rotate_left
  ·have:=h2 0 0; simp only [cond_true,cond_false,pe,List.length_cons,List.length_nil]; omega
  cases decide (k=9)
  rotate_left
  ·have:=h2 0 0; simp only [cond_true,cond_false,pe,List.length_cons,List.length_nil]; omega
  simp only [cond_false,pe,List.length_cons,List.length_nil];have:=hb true;omega
theorem zbr:∀ (t:T) (a:Int),(yw (decide (zex t.k<a)) (Sp.bare t)).length≤12 * yo t
 | t,a=>by
  have:=z3w t;have:=zi4 (decide (zex t.k<a)) (Sp.bare t);omega
theorem zvm:∀ (l:List T) (a b:Int),(Sp.at (Sp.texts l a) 0).length+(Sp.at (Sp.texts l b) 1).length≤12 * Sp.bulks l
 | [],a,b=>by simp [Sp.texts,Sp.at,Sp.bulks]
 | [t],a,b=>by
  have:=zbr t a;simp [Sp.texts,Sp.at,Sp.bulks]; omega
 | t::u::l,a,b=>by
  have:=zbr t a;have:=zbr u b;simp [Sp.texts,Sp.at,Sp.bulks]; omega
theorem z5c:∀ t:T,(zlh t).length+2≤12 * yo t
 | .mk k nm [] nms pl=>by simp [zlh,yo]; omega
 | .mk k nm [f] nms pl=>by
  have:=zq7 f;simp [zlh,yo,Sp.bulks]; omega
 | .mk k nm (f::u::l) nms pl=>by
  have:=zq7 f;have h1:=zbr u 0;have e:Sp.at (Sp.texts (f::u::l) 0) 1=yw (decide (zex u.k<0)) (Sp.bare u):=rfl;simp only [zlh,e,yo,Sp.bulks];cases decide ((f::u::l).length=2) <;> simp only [cond_true,cond_false,pe,List.length_cons,List.length_nil] <;> omega
theorem zu8:∀ (l:List T) (b:Bool),(zas b l).length≤12 * Sp.bulks l
 | [],b=>by simp [zas]
 | t::l,b=>by
  have:=z5c t;have:=zu8 l false;simp only [zas,Sp.bulks];cases b <;> simp only [cond_true,cond_false,pe,List.length_cons,List.length_nil] <;> omega
end
theorem ztd(t:T)(a:Int):(Sp.text t a).length≤12 * yo t:=zbr t a
def zid:List V→Option (D×Int) | [.d x,.d (.int .i64 a)]=>some (x,a) | _=>none
theorem zi0{a:List V}{x:D}{n:Int}(h:zid a=some (x,n)):a=[.d x,.d (.int .i64 n)]:=by
 unfold zid at h;split at h
 ·cases h; rfl
 ·cases h
def Sp.bytes(L:List D):Option (List UInt8):=zdv L
theorem zri(s:List UInt8):Sp.bytes (Sp.app [] s)=some s:=by
 show zdv ([]++s.map λ b=>D.int .u8 b.toNat)=some s;rw [List.nil_append];exact zw4 s
theorem z9d(u:Bool)(L:List D)(s:List UInt8)(h:Sp.bytes L=some s)(hl:L.length≤65536):zh cx 164 [.ptr 0 0] (psS u L)=some (.ret (.d (.str s)),vk (psS u L) 1 (.tok (L.length+1))):=by
 refine zg0 (n:=1) ?_;have e0:cx.nat 164 [.ptr 0 0] (psS u L)=zkv [.ptr 0 0] (psS u L):=by kernel_rfl
 have e:zkv [.ptr 0 0] (psS u L)=some (.ret (.d (.str s)),vk (psS u L) 1 (.tok (L.length+1))):=by
  have e1:zdv L=some s:=h;have e2:zkv [.ptr 0 0] (psS u L)=za (Nat.beq 6291457 6291457&&decide (L.length=L.length)&&decide (L.length≤4294967296)) (zd (zdv L) λ s=>some (.ret (.d (.str s)),vk (psS u L) 1 (.tok (L.length+1)))):=rfl;rw [e2,e1,pa rfl,pa (by omega)]
  rfl
 show zah cx (wh cx 0) 0 164 _ _=_;unfold zah;rw [e0,e]
def K72:CK R1:=more 164 (λ a σ=>match zwt a,psD σ with | some _,some p=>some (p,σ) | _,_=>none)
  (λ K q=>match q with | ((L,n),σ)=>zd (Sp.bytes L) λ s=>za (Sp.fit n L) (za (decide (n≤65536)) (K (.ret (.d (.str s))) (vk σ 1 (.tok (n+1))))))
  (λ K q=>by
   obtain ⟨⟨L,n⟩,σ⟩:=q;simp only [za];rw [vl];congr 1;funext s;simp only [x7];rfl) (CK.plain zo)
theorem z0u:knows cx K72.S (zh cx):=wi zq λ a σ q r hd h=>by
 obtain ⟨⟨L,n⟩,τ⟩:=q;simp only at hd h;split at hd
 ·rename_i p ha hp;cases hd;obtain ⟨s,hs,h⟩:=zb h;obtain ⟨h1,h⟩:=zc h;obtain ⟨h2,h⟩:=zc h;cases h;obtain rfl:=zhz ha;obtain ⟨u,rfl⟩:=zce hp h1;have hn:n=L.length:=pc h1;have:=pc h2;rw [hn];exact z9d u L s hs (by omega)
 ·cases hd
theorem g40(n:Nat)(L:List D):zk cx K72 n 129 [.ptr 0 0] (psS true L)=zd (Sp.bytes L) λ s=>za (Sp.fit L.length L) (za (decide (L.length≤65536)) (some (Out.ret (V.tup [V.d (D.str s),V.d (D.int .i64 (0:Int))]),[(0,Ob.val 187695107 (V.agg [V.ptr 0 0,V.sl 6291457 L 1,V.d (D.bool false)])),(1,Ob.tok (L.length+1))]))):=by kernel_rfl
theorem ycc(n:Nat)(L:List D):zk cx K72 n 129 [.ptr 0 0] (psS false L)=zd (Sp.bytes L) λ s=>za (Sp.fit L.length L) (za (decide (L.length≤65536)) (some (Out.ret (V.tup [V.d (D.str s),V.d (D.int .i64 (0:Int))]),[(0,Ob.val 187695107 (V.agg [V.d D.nilptr,V.sl 6291457 L 1,V.d (D.bool false)])),(1,Ob.tok (L.length+1))]))):=by kernel_rfl
theorem z9l(u:Bool)(L:List D)(s:List UInt8)(h:Sp.bytes L=some s)(hl:L.length≤65536):zh cx 129 [.ptr 0 0] (psS u L)=some (.ret (.tup [.d (.str s),.d (.int .i64 0)]),vk (psS u L) 1 (.tok (L.length+1))):=by
 refine zl z0u (N:=0) ?_;cases u
 ·rw [ycc,h];simp only [zd,za,zz,cond_true];rw [pa hl];rfl
 ·rw [g40,h];simp only [zd,za,zz,cond_true];rw [pa hl];rfl
def mkE(p:List UInt8×Int):V:=.tup [.d (.str p.1),.d (.int .i64 p.2)]
def z5s:D×Int→Option (List UInt8) | (x,a)=>zd (Sp.toC x) λ t=>za (Sp.right t) (some (Sp.text t a))
def K18:CK R1:=more 129 (λ a σ=>match zwt a,psD σ with | some _,some p=>some (p,σ) | _,_=>none)
  (λ K q=>match q with | ((L,n),σ)=>zd (Sp.bytes L) λ s=>za (Sp.fit n L) (za (decide (n≤65536)) (K (.ret (.tup [.d (.str s),.d (.int .i64 0)])) (vk σ 1 (.tok (n+1))))))
  (λ K q=>by
   obtain ⟨⟨L,n⟩,σ⟩:=q;simp only [za];rw [vl];congr 1;funext s;simp only [x7];rfl) (prK 128 zl0 z5s (prK 127 zoc zz5 (zx 94 qo Sp.toC (λ t=>mkB (Sp.right t)) (zx 126 zb1 some (λ s=>mkB (Sp.named s)) (CK.plain zo)))))
theorem z04:knows cx K18.S (zh cx):=by
 have h36:=zj (f:=126) (dec:=zb1) (sp:=some) (mk:=λ s=>mkB (Sp.named s)) zq λ a q b hd h hb=>by
  cases hb; obtain rfl:=qx h; exact z2g q (pc hd)
 have h37:=zj (f:=94) (dec:=qo) (sp:=Sp.toC) (mk:=λ t=>mkB (Sp.right t)) h36 λ a q b hd h hb=>by
  obtain rfl:=qj h;obtain ⟨rfl,h1⟩:=w7 hb;exact z55 b.depth b (Nat.le_refl _) h1
 have h38:=qf (f:=127) (dec:=zoc) (sp:=zz5) h37 λ a q s u L h hs hr=>by
  obtain ⟨rfl,h1,h2⟩:=zl2 h;obtain ⟨m,rfl,rfl⟩:=zla hs;exact z54 u L m (by simpa using h2) (by intro e; rw [e] at h1; exact h1 rfl) hr
 have h39:=qf (f:=128) (dec:=zl0) (sp:=z5s) h38 λ a q s u L ha hs hr=>by
  obtain ⟨x,n⟩:=q;obtain rfl:=zf3 ha;obtain ⟨t,ht,hs⟩:=zb hs;obtain ⟨hf,hs⟩:=zc hs;cases hs;obtain ⟨rfl,h2⟩:=w7 ht;exact z52 t.depth u L t n (Nat.le_refl _) h2 hf hr
 exact wi h39 λ a σ q r hd h=>by
  obtain ⟨⟨L,n⟩,τ⟩:=q;simp only at hd h;split at hd
  ·rename_i p ha hp;cases hd;obtain ⟨s,hs,h⟩:=zb h;obtain ⟨h1,h⟩:=zc h;obtain ⟨h2,h⟩:=zc h;cases h;obtain rfl:=zhz ha;obtain ⟨u,rfl⟩:=zce hp h1;have hn:n=L.length:=pc h1;have:=pc h2;rw [hn];exact z9l u L s hs (by omega)
  ·cases hd
def zae(a:Int):List (List UInt8)→Int→Option Int
 | [],b=>some b
 | x::l,b=>bif decide (b≤a) then (bif decide (a<(x.length:Int)) then none else zae a l (b+1+x.length)) else some b
mutual
def Sp.blk:T→Int→Int
 | .mk _ nm kids nms _,a=>bif decide (a<(nm.length:Int))||decide (a<(nms.length:Int)) then a+1 else match zae a nms (1+nm.length) with | some b=>zar kids a b | none=>a+1
def zar:List T→Int→Int→Int
 | [],_,b=>b
 | t::l,a,b=>bif decide (b≤a) then zar l a (b+Sp.blk t (a - b)) else b
end
def spB(m:Nat):D×Int→Option (T×Int) | (x,a)=>zd (zi m x) λ t=>za (decide (0≤a)&&decide (a≤1048576)) (some (t,a))
def KB(m:Nat):CK R1:=zx 28 zid (spB m) (λ q=>mkI (Sp.blk q.1 q.2)) (CK.plain zo)
theorem zqg{a:Int}:∀ {l:List (List UInt8)} {b c:Int},zae a l b=some c→0≤b→b≤2 * a+1→0≤a→b≤c∧c≤2 * a+1∧(c≤a→c=b+Sp.lens l)
 | [],b,c,h,h0,h1,ha=>by cases h; exact ⟨Int.le_refl _,h1,λ _=>by simp [Sp.lens]⟩
 | x::l,b,c,h,h0,h1,ha=>by
  unfold zae at h;by_cases hb:b≤a
  ·rw [pa hb,cond_true] at h;by_cases hx:a<(x.length:Int)
   ·rw [pa hx] at h; cases h
   ·rw [pb hx,cond_false] at h;obtain ⟨h2,h3,h4⟩:=zqg h (by omega) (by omega) ha
    refine ⟨by omega,h3,λ hc=>?_⟩
    have:=h4 hc;simp only [Sp.lens];omega
  ·rw [pb hb,cond_false] at h;cases h;exact ⟨Int.le_refl _,h1,λ hc=>by omega⟩
mutual
theorem zow:∀ (t:T) (a:Int),0≤a→0≤Sp.blk t a∧Sp.blk t a≤2 * a+2∧(Sp.blk t a≤a→Sp.blk t a=yo t)
 | .mk k nm kids nms pl,a,ha=>by
  unfold Sp.blk;cases hc:(decide (a<(nm.length:Int))||decide (a<(nms.length:Int)))
  ·simp only [Bool.or_eq_false_iff,decide_eq_false_iff_not] at hc;rw [cond_false];cases hn:zae a nms (1+nm.length) with
   | none=>simp only; exact ⟨by omega,by omega,λ h=>by omega⟩
   | some b=>
    obtain ⟨h2,h3,h4⟩:=zqg hn (by omega) (by omega) ha
    obtain ⟨g1,g2,g3⟩:=zqu kids a b ha (by omega) (by omega)
    simp only;refine ⟨by omega,g2,λ h=>?_⟩
    have:=h4 (by omega)
    have:=g3 h;simp only [yo];omega
  ·rw [cond_true];exact ⟨by omega,by omega,λ h=>by omega⟩
theorem zqu:∀ (l:List T) (a b:Int),0≤a→1≤b→b≤2 * a+2→b≤zar l a b∧zar l a b≤2 * a+2∧(zar l a b≤a→zar l a b=b+Sp.bulks l)
 | [],a,b,ha,hb,hb2=>by unfold zar; exact ⟨Int.le_refl _,hb2,λ _=>by simp [Sp.bulks]⟩
 | t::l,a,b,ha,hb,hb2=>by
  unfold zar;by_cases h:b≤a
  ·rw [pa h,cond_true];obtain ⟨h1,h2,h3⟩:=zow t (a - b) (by omega)
   obtain ⟨g1,g2,g3⟩:=zqu l a (b+Sp.blk t (a - b)) ha (by omega) (by omega)
   refine ⟨by omega,g2,λ hc=>?_⟩
   have:=g3 hc;have:=h3 (by omega)
   simp only [Sp.bulks];omega
  ·rw [pb h,cond_false];exact ⟨Int.le_refl _,hb2,λ hc=>by omega⟩
end
theorem g33(n m:Nat)(k:Int)(nm:List UInt8)(kids:List T)(nms:List (List UInt8))(pl a:Int):zk cx (KB m) n 28 [.d (.agg [.int .i64 k,.str nm,.sl 5 (T.ds kids),.sl 1 (nms.map .str),.int .i64 pl]),.d (.int .i64 a)] []=bif decide (a<(↑nm.length:Int)) then some (Out.ret (V.d (D.int .i64 (IntKind.i64.wrap (a+(1:Int))))),[]) else bif decide (a<(↑(List.map D.str nms).length:Int)) then some (Out.ret (V.d (D.int .i64 (IntKind.i64.wrap (a+(1:Int))))),[]) else LP cx (KB m) n 28 0 5 n [(1,V.d (D.int .i64 a)),(2,V.ptr 2 0),(5,V.d (D.int .i64 (IntKind.i64.wrap ((1:Int)+(↑nm.length:Int))))),(6,V.d (D.int .i64 (0:Int)))] [(2,Ob.val 5 (V.d (D.agg [D.int .i64 k,D.str nm,D.sl 5 (T.ds kids),D.sl 1 (List.map D.str nms),D.int .i64 pl])))] (AK cx (KB m) n 28 0 5 (EK cx 28 0)):=by kernel_rfl
theorem z93(n m r:Nat)(k:Int)(nm:List UInt8)(kids:List T)(nms:List (List UInt8))(pl a b i:Int):LP cx (KB m) n 28 0 5 (r+1) [(1,V.d (D.int .i64 a)),(2,V.ptr 2 0),(5,V.d (D.int .i64 b)),(6,V.d (D.int .i64 i))] [(2,Ob.val 5 (V.d (D.agg [D.int .i64 k,D.str nm,D.sl 5 (T.ds kids),D.sl 1 (List.map D.str nms),D.int .i64 pl])))] (AK cx (KB m) n 28 0 5 (EK cx 28 0))=bif decide (i<(↑(List.map D.str nms).length:Int)) then bif decide (b≤a) then za (decide (0≤i)&&decide (i<(↑(List.map D.str nms).length:Int))) (ze (List.map D.str nms) i.toNat λ y=>ze y.cells 0 λ c=>match c with
 | D.str s=>bif decide (a<(↑s.length:Int)) then some (Out.ret (V.d (D.int .i64 (IntKind.i64.wrap (a+(1:Int))))),[]) else za (decide (0≤i)&&decide (i<(↑(List.map D.str nms).length:Int))) (ze (List.map D.str nms) i.toNat λ y=>ze y.cells 0 λ c=>match c with
  | D.str s=>LP cx (KB m) n 28 0 5 r [(1,V.d (D.int .i64 a)),(2,V.ptr 2 0),(5,V.d (D.int .i64 (IntKind.i64.wrap (IntKind.i64.wrap (b+(1:Int))+(↑s.length:Int))))),(6,V.d (D.int .i64 (IntKind.i64.wrap (i+(1:Int)))))] [(2,Ob.val 5 (V.d (D.agg [D.int .i64 k,D.str nm,D.sl 5 (T.ds kids),D.sl 1 (List.map D.str nms),D.int .i64 pl])))] (AK cx (KB m) n 28 0 5 (EK cx 28 0))
  | x=>none)
 | x=>none) else LP cx (KB m) n 28 0 11 n [(1,V.d (D.int .i64 a)),(2,V.ptr 2 0),(5,V.d (D.int .i64 b)),(7,V.d (D.int .i64 (0:Int)))] [(2,Ob.val 5 (V.d (D.agg [D.int .i64 k,D.str nm,D.sl 5 (T.ds kids),D.sl 1 (List.map D.str nms),D.int .i64 pl])))] (AK cx (KB m) n 28 0 11 (EK cx 28 0)) else LP cx (KB m) n 28 0 11 n [(1,V.d (D.int .i64 a)),(2,V.ptr 2 0),(5,V.d (D.int .i64 b)),(7,V.d (D.int .i64 (0:Int)))] [(2,Ob.val 5 (V.d (D.agg [D.int .i64 k,D.str nm,D.sl 5 (T.ds kids),D.sl 1 (List.map D.str nms),D.int .i64 pl])))] (AK cx (KB m) n 28 0 11 (EK cx 28 0)):=by kernel_rfl
theorem z92(n m r:Nat)(k:Int)(nm:List UInt8)(kids:List T)(nms:List (List UInt8))(pl a b i:Int):LP cx (KB m) n 28 0 11 (r+1) [(1,V.d (D.int .i64 a)),(2,V.ptr 2 0),(5,V.d (D.int .i64 b)),(7,V.d (D.int .i64 i))] [(2,Ob.val 5 (V.d (D.agg [D.int .i64 k,D.str nm,D.sl 5 (T.ds kids),D.sl 1 (List.map D.str nms),D.int .i64 pl])))] (AK cx (KB m) n 28 0 11 (EK cx 28 0))=bif decide (i<(↑(T.ds kids).length:Int)) then bif decide (b≤a) then za (decide (0≤i)&&decide (i<(↑(T.ds kids).length:Int))) (ze (T.ds kids) i.toNat λ y=>ze y.cells 0 λ c=>ze y.cells 1 λ c_1=>ze y.cells 2 λ c_2=>ze y.cells 3 λ c_3=>ze y.cells 4 λ c_4=>zd (zd (zi m (D.agg [c,c_1,c_2,c_3,c_4])) λ t=>za (decide (0≤IntKind.i64.wrap (a - b))&&decide (IntKind.i64.wrap (a - b)≤1048576)) (some (t,IntKind.i64.wrap (a - b)))) λ b_1=>LP cx (KB m) n 28 0 11 r [(1,V.d (D.int .i64 a)),(2,V.ptr 2 0),(5,V.d (D.int .i64 (IntKind.i64.wrap (b+Sp.blk b_1.fst b_1.snd)))),(7,V.d (D.int .i64 (IntKind.i64.wrap (i+(1:Int)))))] [(2,Ob.val 5 (V.d (D.agg [D.int .i64 k,D.str nm,D.sl 5 (T.ds kids),D.sl 1 (List.map D.str nms),D.int .i64 pl])))] (AK cx (KB m) n 28 0 11 (EK cx 28 0))) else some (Out.ret (V.d (D.int .i64 b)),[]) else some (Out.ret (V.d (D.int .i64 b)),[]):=by kernel_rfl
theorem qr{α β:Type}{x:α}{K:α→Option β}:zd (some x) K=K x:=by unfold zd; simp
theorem zli{x:Int}(h0 : -4294967296≤x)(h1:x≤17179869184):IntKind.i64.wrap x=x:=IntWalk.i64_in _ (by omega)
section
variable {n m:Nat} {k:Int} {nm:List UInt8} {kids:List T} {nms:List (List UInt8)} {pl a:Int}
theorem zsa(ha:0≤a)(ha2:a≤1048576)(hl:kids.length<4294967296)(hT:∀ t∈kids,zi m t.d=some t):∀ (rest:List T) (j r:Nat) (b:Int),kids.drop j=rest→j≤kids.length→rest.length<r→1≤b→b≤2 * a+2 →
  LP cx (KB m) n 28 0 11 r [(1,V.d (D.int .i64 a)),(2,V.ptr 2 0),(5,V.d (D.int .i64 b)),(7,V.d (D.int .i64 j))] [(2,Ob.val 5 (V.d (D.agg [D.int .i64 k,D.str nm,D.sl 5 (T.ds kids),D.sl 1 (List.map D.str nms),D.int .i64 pl])))] (AK cx (KB m) n 28 0 11 (EK cx 28 0))=some (.ret (mkI (zar rest a b)),[])
 | [],j,r,b,hd,hj,hk',hb,hb2=>by
  obtain ⟨r,rfl⟩:∃ i,r=i+1:=⟨r - 1,by omega⟩
  have:kids.length≤j:=by simpa using hd
  obtain rfl:j=kids.length:=by omega
  rw [z92,ya,xu];simp [zar,mkI]
 | t::rest,j,r,b,hd,hj,hk',hb,hb2=>by
  obtain ⟨r,rfl⟩:∃ i,r=i+1:=⟨r - 1,by omega⟩
  obtain ⟨h1,h2,h3⟩:=zca hd;rw [z92,ya,yh h1];unfold zar;by_cases h:b≤a
  ·obtain ⟨q1,q2,_⟩:=zow t (a - b) (by omega)
   have ih:=zsa ha ha2 hl hT rest (j+1) r (b+Sp.blk t (a - b)) h3 h1 (by simp at hk'; omega) (by omega) (by omega)
   rw [pa h,xe,yv,pm,h2,wu h1 hl,zli (x:=a - b) (by omega) (by omega)]
   simp only [cond_true,za,zd,Bool.and_self,xk,vm,zcj,zci,zch,zcg,zbk,hT t (po h2)];rw [pa (p:=0≤a - b) (by omega),pa (p:=a - b≤1048576) (by omega)]
   simp only [Bool.and_self,cond_true];rw [zli (x:=b+Sp.blk t (a - b)) (by omega) (by omega)]
   exact ih
  ·rw [pb h];rfl
theorem zx1(ha:0≤a)(ha2:a≤1048576)(hn:4294967296<n)(hl:kids.length<4294967296)(hl2:nms.length<4294967296)(hT:∀ t∈kids,zi m t.d=some t):∀ (rest:List (List UInt8)) (j r:Nat) (b:Int),nms.drop j=rest→j≤nms.length→rest.length<r→1≤b→b≤2 * a+1 →
  LP cx (KB m) n 28 0 5 r [(1,V.d (D.int .i64 a)),(2,V.ptr 2 0),(5,V.d (D.int .i64 b)),(6,V.d (D.int .i64 j))] [(2,Ob.val 5 (V.d (D.agg [D.int .i64 k,D.str nm,D.sl 5 (T.ds kids),D.sl 1 (List.map D.str nms),D.int .i64 pl])))] (AK cx (KB m) n 28 0 5 (EK cx 28 0))=some (.ret (mkI (match zae a rest b with | some c=>zar kids a c | none=>a+1)),[])
 | [],j,r,b,hd,hj,hk',hb,hb2=>by
  obtain ⟨r,rfl⟩:∃ i,r=i+1:=⟨r - 1,by omega⟩
  have:nms.length≤j:=by simpa using hd
  obtain rfl:j=nms.length:=by omega
  have hB:=zsa (n:=n) (k:=k) (nm:=nm) (nms:=nms) (pl:=pl) ha ha2 hl hT kids 0 n b rfl (Nat.zero_le _) (by omega) hb (by omega)
  rw [z93,pf,xu,cond_false];exact hB
 | x::rest,j,r,b,hd,hj,hk',hb,hb2=>by
  obtain ⟨r,rfl⟩:∃ i,r=i+1:=⟨r - 1,by omega⟩
  obtain ⟨h1,h2,h3⟩:=zca hd;have hB:=zsa (n:=n) (k:=k) (nm:=nm) (nms:=nms) (pl:=pl) ha ha2 hl hT kids 0 n b rfl (Nat.zero_le _) (by omega) hb (by omega)
  rw [z93,pf,yh h1];by_cases h:b≤a
  ·rw [pa h,xe,wu h1 hl2];simp only [cond_true,za,Bool.and_self,qg,pm,h2,zk9,vm];rw [qr];by_cases hx:a<(x.length:Int)
   ·have e:zae a (x::rest) b=none:=by unfold zae; rw [pa h,pa hx]; rfl
    rw [pa hx,zli (x:=a+1) (by omega) (by omega),e,cond_true]
    rfl
   ·have ih:=zx1 ha ha2 hn hl hl2 hT rest (j+1) r (b+1+x.length) h3 h1 (by simp at hk'; omega) (by omega) (by omega)
    have e:zae a (x::rest) b=zae a rest (b+1+x.length):=by 
     rw [zae,pa h,pb hx]; rfl
    rw [pb hx,cond_false,qr,e,zli (x:=b+1) (by omega) (by omega),zli (x:=b+1+x.length) (by omega) (by omega)]
    exact ih
  ·have e:zae a (x::rest) b=some b:=by unfold zae; rw [pb h]; rfl
   rw [e,pb h,cond_true,cond_false];exact hB
end
theorem z56:∀ (m:Nat) (t:T) (a:Int),t.depth≤m→t.ok=true→0≤a→a≤1048576→zh cx 28 [.d t.d,.d (.int .i64 a)] []=some (.ret (mkI (Sp.blk t a)),[])
 | 0,.mk ..,_,h,_,_,_=>by simp [T.depth] at h
 | m+1,.mk k nm kids nms pl,a,hd,ho,ha,ha2=>by
  have hK:knows cx (KB m).S (zh cx):=zj zq λ ar q s _ har hs=>by
   obtain ⟨y,n⟩:=q;obtain rfl:=zi0 har;obtain ⟨t,ht,hs⟩:=zb hs;obtain ⟨hf,hs⟩:=zc hs;cases hs;obtain ⟨rfl,h1,h2⟩:=y7 ht;simp only [ph,decide_eq_true_eq] at hf;exact z56 m t n h1 h2 hf.1 hf.2
  obtain ⟨h1,h2,h3,h4,h5⟩:=zag ho;have hkd:=za3 hd;have hT:∀ t∈kids,zi m t.d=some t:=λ t h=>zc6 hkd h5 h;refine zl hK (N:=4294967297) ?_;refine (g33 4294967297 m k nm kids nms pl a).trans ?_;rw [pf];unfold Sp.blk;by_cases q1:a<(nm.length:Int)
  ·rw [pa q1,cond_true,Bool.true_or,cond_true,zli (x:=a+1) (by omega) (by omega)]
   rfl
  ·rw [pb q1,cond_false,Bool.false_or];by_cases q2:a<(nms.length:Int)
   ·rw [pa q2,cond_true,cond_true,zli (x:=a+1) (by omega) (by omega)]
    rfl
   ·rw [pb q2,cond_false,cond_false,zli (x:=1+nm.length) (by omega) (by omega)]
    exact zx1 ha ha2 (by omega) (xf h2) (xf h3) hT nms 0 4294967297 (1+nm.length) rfl (Nat.zero_le _) (by have:=xf h3; omega) (by omega) (by omega)
theorem g18(n:Nat)(l:List T):zk cx K18 n 87 [.d (.sl 5 (T.ds l))] []=LP cx K18 n 87 0 2 n [(0,V.d (D.sl 5 (T.ds l))),(9,V.d (D.sl 5 (T.ds l))),(10,V.d (D.int .i64 (↑(T.ds l).length:Int))),(11,V.d (D.int .i64 (0:Int)))] [] (AK cx K18 n 87 0 2 (EK cx 87 0)):=by kernel_rfl
theorem z95(n r:Nat)(l:List T)(i:Int):LP cx K18 n 87 0 2 (r+1) [(0,V.d (D.sl 5 (T.ds l))),(9,V.d (D.sl 5 (T.ds l))),(10,V.d (D.int .i64 (l.length:Int))),(11,V.d (D.int .i64 i))] [] (AK cx K18 n 87 0 2 (EK cx 87 0))=bif decide (i<(↑l.length:Int)) then za (decide (0≤i)&&decide (i<(↑(T.ds l).length:Int))) (ze (T.ds l) i.toNat λ y=>ze y.cells 0 λ c=>ze y.cells 1 λ c_1=>ze y.cells 2 λ c_2=>ze y.cells 3 λ c_3=>ze y.cells 4 λ c_4=>match c with
 | D.int k' n_1=>bif decide (k'=IntKind.i64) then bif !decide (n_1=(18:Int)) then some (Out.ret (V.tup [V.d (D.str []),V.d (D.int .i64 (61:Int))]),[]) else match c_1 with
  | D.str s=>za (decide (s.length≤big)) (bif !Sp.named s then some (Out.ret (V.tup [V.d (D.str []),V.d (D.int .i64 (61:Int))]),[]) else match c_3 with
   | D.sl s l_1=>bif s.beq (cx.P.cellsOf 9)||l_1.isEmpty then bif decide ((0:Int)<(↑l_1.length:Int)) then some (Out.ret (V.tup [V.d (D.str []),V.d (D.int .i64 (61:Int))]),[]) else match c_2 with
    | D.sl s l_2=>bif s.beq (cx.P.cellsOf 26)||l_2.isEmpty then bif !decide ((↑l_2.length:Int)=(2:Int)) then some (Out.ret (V.tup [V.d (D.str []),V.d (D.int .i64 (61:Int))]),[]) else match c_2 with
     | D.sl s l_3=>bif s.beq (cx.P.cellsOf 26)||l_3.isEmpty then za (decide ((0:Int)<(↑l_3.length:Int))) (ze l_3 (0:Int).toNat λ y=>ze y.cells 0 λ c=>ze y.cells 1 λ c_5=>ze y.cells 2 λ c_6=>ze y.cells 3 λ c_7=>ze y.cells 4 λ c_8=>zd (Sp.toC (D.agg [c,c_5,c_6,c_7,c_8])) λ b=>bif !Sp.right b then some (Out.ret (V.tup [V.d (D.str []),V.d (D.int .i64 (61:Int))]),[]) else match c_2 with
      | D.sl s l_4=>bif s.beq (cx.P.cellsOf 26)||l_4.isEmpty then za (decide ((1:Int)<(↑l_4.length:Int))) (ze l_4 (1:Int).toNat λ y=>ze y.cells 0 λ c=>ze y.cells 1 λ c_9=>ze y.cells 2 λ c_10=>ze y.cells 3 λ c_11=>ze y.cells 4 λ c_12=>zd (Sp.toC (D.agg [c,c_9,c_10,c_11,c_12])) λ b=>bif !Sp.right b then some (Out.ret (V.tup [V.d (D.str []),V.d (D.int .i64 (61:Int))]),[]) else LP cx K18 n 87 0 2 r [(0,V.d (D.sl 5 (T.ds l))),(9,V.d (D.sl 5 (T.ds l))),(10,V.d (D.int .i64 (↑l.length:Int))),(11,V.d (D.int .i64 (IntKind.i64.wrap (i+(1:Int)))))] [] (AK cx K18 n 87 0 2 (EK cx 87 0))) else none
      | x=>none) else none
     | x=>none else none
    | x=>none else none
   | x=>none)
  | x=>none else none
 | x=>none) else LP cx K18 n 87 0 9 n [(6,V.ptr 54 0),(55,V.d (D.sl 5 (T.ds l))),(56,V.d (D.int .i64 (↑(T.ds l).length:Int))),(57,V.d (D.int .i64 (0:Int)))] [(54,Ob.val 187695107 (V.agg [V.d D.nilptr,V.sl 6291457 [] 142,V.d (D.bool false)])),(142,Ob.tok 0)] (AK cx K18 n 87 0 9 (EK cx 87 0)):=by kernel_rfl
theorem z94(n r:Nat)(l:List T)(L:List D)(i:Int):LP cx K18 n 87 0 9 (r+1) [(6,V.ptr 54 0),(55,V.d (D.sl 5 (T.ds l))),(56,V.d (D.int .i64 (l.length:Int))),(57,V.d (D.int .i64 i))] [(54,Ob.val 187695107 (V.agg [V.ptr 54 0,V.sl 6291457 L 142,V.d (D.bool false)])),(142,Ob.tok L.length)] (AK cx K18 n 87 0 9 (EK cx 87 0))=bif decide (i<(↑l.length:Int)) then za (decide (0≤i)&&decide (i<(↑(T.ds l).length:Int))) (ze (T.ds l) i.toNat λ y=>ze y.cells 0 λ c=>ze y.cells 1 λ c=>ze y.cells 2 λ c_1=>ze y.cells 3 λ c_2=>ze y.cells 4 λ c_3=>match c with
 | D.str s=>za (Sp.fit L.length L) (za (Sp.room L (s++([32,58,32]++[]))) (match c_1 with
  | D.sl s_1 l_1=>bif s_1.beq (cx.P.cellsOf 26)||l_1.isEmpty then za (decide ((0:Int)<(↑l_1.length:Int))) (ze l_1 (0:Int).toNat λ y=>ze y.cells 0 λ c=>ze y.cells 1 λ c_4=>ze y.cells 2 λ c_5=>ze y.cells 3 λ c_6=>ze y.cells 4 λ c_7=>zd (zd (Sp.toC (D.agg [c,c_4,c_5,c_6,c_7])) λ t=>za (Sp.right t) (some (Sp.text t (0:Int)))) λ s_2=>za (Sp.fit (Sp.app L (s++([32,58,32]++[]))).length (Sp.app L (s++([32,58,32]++[])))) (za (Sp.room (Sp.app L (s++([32,58,32]++[]))) s_2) (za (Sp.fit (Sp.app (Sp.app L (s++([32,58,32]++[]))) s_2).length (Sp.app (Sp.app L (s++([32,58,32]++[]))) s_2)) (za (Sp.room (Sp.app (Sp.app L (s++([32,58,32]++[]))) s_2) [32,61,32]) (match c_1 with
   | D.sl s_3 l_2=>bif s_3.beq (cx.P.cellsOf 26)||l_2.isEmpty then za (decide ((1:Int)<(↑l_2.length:Int))) (ze l_2 (1:Int).toNat λ y=>ze y.cells 0 λ c=>ze y.cells 1 λ c_8=>ze y.cells 2 λ c_9=>ze y.cells 3 λ c_10=>ze y.cells 4 λ c_11=>zd (zd (Sp.toC (D.agg [c,c_8,c_9,c_10,c_11])) λ t=>za (Sp.right t) (some (Sp.text t (0:Int)))) λ s_4=>za (Sp.fit (Sp.app (Sp.app (Sp.app L (s++([32,58,32]++[]))) s_2) [32,61,32]).length (Sp.app (Sp.app (Sp.app L (s++([32,58,32]++[]))) s_2) [32,61,32])) (za (Sp.room (Sp.app (Sp.app (Sp.app L (s++([32,58,32]++[]))) s_2) [32,61,32]) s_4) (za (Sp.fit (Sp.app (Sp.app (Sp.app (Sp.app L (s++([32,58,32]++[]))) s_2) [32,61,32]) s_4).length (Sp.app (Sp.app (Sp.app (Sp.app L (s++([32,58,32]++[]))) s_2) [32,61,32]) s_4)) (za (Sp.room (Sp.app (Sp.app (Sp.app (Sp.app L (s++([32,58,32]++[]))) s_2) [32,61,32]) s_4) [59,10]) (LP cx K18 n 87 0 9 r [(6,V.ptr 54 0),(55,V.d (D.sl 5 (T.ds l))),(56,V.d (D.int .i64 (↑l.length:Int))),(57,V.d (D.int .i64 (IntKind.i64.wrap (i+(1:Int)))))] [(54,Ob.val 187695107 (V.agg [V.ptr 54 0,V.sl 6291457 (Sp.app (Sp.app (Sp.app (Sp.app (Sp.app L (s++([32,58,32]++[]))) s_2) [32,61,32]) s_4) [59,10]) 142,V.d (D.bool false)])),(142,Ob.tok (Sp.app (Sp.app (Sp.app (Sp.app (Sp.app L (s++([32,58,32]++[]))) s_2) [32,61,32]) s_4) [59,10]).length)] (AK cx K18 n 87 0 9 (EK cx 87 0))))))) else none
   | x=>none))))) else none
  | x=>none))
 | x=>none) else zd (Sp.bytes L) λ s=>za (Sp.fit L.length L) (za (decide (L.length≤65536)) (some (Out.ret (V.tup [V.d (D.str s),V.d (D.int .i64 (0:Int))]),[]))):=by kernel_rfl
theorem z57(n r:Nat)(l:List T)(L:List D)(i:Int):LP cx K18 n 87 0 9 (r+1) [(6,V.ptr 54 0),(55,V.d (D.sl 5 (T.ds l))),(56,V.d (D.int .i64 (l.length:Int))),(57,V.d (D.int .i64 i))] [(54,Ob.val 187695107 (V.agg [V.d D.nilptr,V.sl 6291457 L 142,V.d (D.bool false)])),(142,Ob.tok L.length)] (AK cx K18 n 87 0 9 (EK cx 87 0))=bif decide (i<(↑l.length:Int)) then za (decide (0≤i)&&decide (i<(↑(T.ds l).length:Int))) (ze (T.ds l) i.toNat λ y=>ze y.cells 0 λ c=>ze y.cells 1 λ c=>ze y.cells 2 λ c_1=>ze y.cells 3 λ c_2=>ze y.cells 4 λ c_3=>match c with
 | D.str s=>za (Sp.fit L.length L) (za (Sp.room L (s++([32,58,32]++[]))) (match c_1 with
  | D.sl s_1 l_1=>bif s_1.beq (cx.P.cellsOf 26)||l_1.isEmpty then za (decide ((0:Int)<(↑l_1.length:Int))) (ze l_1 (0:Int).toNat λ y=>ze y.cells 0 λ c=>ze y.cells 1 λ c_4=>ze y.cells 2 λ c_5=>ze y.cells 3 λ c_6=>ze y.cells 4 λ c_7=>zd (zd (Sp.toC (D.agg [c,c_4,c_5,c_6,c_7])) λ t=>za (Sp.right t) (some (Sp.text t (0:Int)))) λ s_2=>za (Sp.fit (Sp.app L (s++([32,58,32]++[]))).length (Sp.app L (s++([32,58,32]++[])))) (za (Sp.room (Sp.app L (s++([32,58,32]++[]))) s_2) (za (Sp.fit (Sp.app (Sp.app L (s++([32,58,32]++[]))) s_2).length (Sp.app (Sp.app L (s++([32,58,32]++[]))) s_2)) (za (Sp.room (Sp.app (Sp.app L (s++([32,58,32]++[]))) s_2) [32,61,32]) (match c_1 with
   | D.sl s_3 l_2=>bif s_3.beq (cx.P.cellsOf 26)||l_2.isEmpty then za (decide ((1:Int)<(↑l_2.length:Int))) (ze l_2 (1:Int).toNat λ y=>ze y.cells 0 λ c=>ze y.cells 1 λ c_8=>ze y.cells 2 λ c_9=>ze y.cells 3 λ c_10=>ze y.cells 4 λ c_11=>zd (zd (Sp.toC (D.agg [c,c_8,c_9,c_10,c_11])) λ t=>za (Sp.right t) (some (Sp.text t (0:Int)))) λ s_4=>za (Sp.fit (Sp.app (Sp.app (Sp.app L (s++([32,58,32]++[]))) s_2) [32,61,32]).length (Sp.app (Sp.app (Sp.app L (s++([32,58,32]++[]))) s_2) [32,61,32])) (za (Sp.room (Sp.app (Sp.app (Sp.app L (s++([32,58,32]++[]))) s_2) [32,61,32]) s_4) (za (Sp.fit (Sp.app (Sp.app (Sp.app (Sp.app L (s++([32,58,32]++[]))) s_2) [32,61,32]) s_4).length (Sp.app (Sp.app (Sp.app (Sp.app L (s++([32,58,32]++[]))) s_2) [32,61,32]) s_4)) (za (Sp.room (Sp.app (Sp.app (Sp.app (Sp.app L (s++([32,58,32]++[]))) s_2) [32,61,32]) s_4) [59,10]) (LP cx K18 n 87 0 9 r [(6,V.ptr 54 0),(55,V.d (D.sl 5 (T.ds l))),(56,V.d (D.int .i64 (↑l.length:Int))),(57,V.d (D.int .i64 (IntKind.i64.wrap (i+(1:Int)))))] [(54,Ob.val 187695107 (V.agg [V.ptr 54 0,V.sl 6291457 (Sp.app (Sp.app (Sp.app (Sp.app (Sp.app L (s++([32,58,32]++[]))) s_2) [32,61,32]) s_4) [59,10]) 142,V.d (D.bool false)])),(142,Ob.tok (Sp.app (Sp.app (Sp.app (Sp.app (Sp.app L (s++([32,58,32]++[]))) s_2) [32,61,32]) s_4) [59,10]).length)] (AK cx K18 n 87 0 9 (EK cx 87 0))))))) else none
   | x=>none))))) else none
  | x=>none))
 | x=>none) else zd (Sp.bytes L) λ s=>za (Sp.fit L.length L) (za (decide (L.length≤65536)) (some (Out.ret (V.tup [V.d (D.str s),V.d (D.int .i64 (0:Int))]),[]))):=by kernel_rfl
def yq:T→Bool | .mk k nm [a,b] [] _=>decide (k=18)&&Sp.named nm&&Sp.right a&&Sp.right b | _=>false
def qz:T→List UInt8 | .mk _ nm [a,b] _ _=>nm++[32,58,32]++Sp.text a 0++[32,61,32]++Sp.text b 0++[59,10] | _=>[]
def wz(l:List T):List UInt8:=(l.map qz).flatten
def zek(l:List T):List UInt8×Int:=bif l.all yq then (wz l,0) else ([],61)
theorem zz2(t:T):(qz t).length≤12 * yo t:=by
 obtain ⟨k,nm,kids,nms,pl⟩:=t;rcases kids with _ | ⟨a,_ | ⟨b,_ | ⟨c,l⟩⟩⟩
 ·simp [qz]
 ·simp [qz]
 ·have:=ztd a 0;have:=ztd b 0;simp only [qz,yo,Sp.bulks,pe,List.length_cons,List.length_nil];omega
 ·simp [qz]
theorem zn8:∀ l:List T,(wz l).length≤12 * Sp.bulks l
 | []=>by simp [wz]
 | t::l=>by
  have:=zz2 t;have:=zn8 l;simp only [wz,List.map_cons,List.flatten_cons,pe,Sp.bulks] at this ⊢;omega
theorem zwq{t:T}(h:yq t=true):∃ nm a b pl,t=.mk 18 nm [a,b] [] pl∧Sp.named nm=true∧Sp.right a=true∧Sp.right b=true:=by
 obtain ⟨k,nm,kids,nms,pl⟩:=t;rcases kids with _ | ⟨a,_ | ⟨b,_ | ⟨c,l⟩⟩⟩ <;> rcases nms with _ | ⟨x,r⟩ <;> simp [yq] at h
 obtain ⟨⟨⟨rfl,h1⟩,h2⟩,h3⟩:=h;exact ⟨nm,a,b,pl,rfl,h1,h2,h3⟩
def prV(u:Bool):V:=match u with | true=>.ptr 54 0 | false=>.d .nilptr
abbrev L18 (n r:Nat) (l:List T) (u:Bool) (L:List D) (i:Int):Option R1:=
 LP cx K18 n 87 0 9 r [(6,V.ptr 54 0),(55,V.d (D.sl 5 (T.ds l))),(56,V.d (D.int .i64 (l.length:Int))),(57,V.d (D.int .i64 i))] [(54,Ob.val 187695107 (V.agg [prV u,V.sl 6291457 L 142,V.d (D.bool false)])),(142,Ob.tok L.length)] (AK cx K18 n 87 0 9 (EK cx 87 0))
theorem zx4(n:Nat){l:List T}(hl:l.length<4294967296)(ho:T.oks l=true)(hd0:∀ t∈l,yq t=true):∀ (rest:List T) (j r:Nat) (u:Bool) (s:List UInt8),l.drop j=rest→j≤l.length→rest.length<r→s.length+(wz rest).length≤65536 →
  L18 n r l u (Sp.app [] s) j=some (.ret (mkE (s++wz rest,0)),[])
 | [],j,r,u,s,hd,hj,hk',hb=>by
  obtain ⟨r,rfl⟩:∃ i,r=i+1:=⟨r - 1,by omega⟩
  have:l.length≤j:=by simpa using hd
  obtain rfl:j=l.length:=by omega
  have e:(Sp.app [] s).length≤65536:=by rw [xm]; simp; omega
  simp only [L18,wz,List.map_nil,List.flatten_nil,List.append_nil];cases u
  ·refine (z57 n r l (Sp.app [] s) l.length).trans ?_;rw [xu,cond_false,zri];simp only [za,zz,cond_true,qr];rw [pa e];rfl
  ·refine (z94 n r l (Sp.app [] s) l.length).trans ?_;rw [xu,cond_false,zri];simp only [za,zz,cond_true,qr];rw [pa e];rfl
 | t::rest,j,r,u,s,hd,hj,hk',hb=>by
  obtain ⟨r,rfl⟩:∃ i,r=i+1:=⟨r - 1,by omega⟩
  obtain ⟨h1,h2,h3⟩:=zca hd;have htm:=po h2;obtain ⟨nm,a,b,pl,rfl,hn,ha,hbb⟩:=zwq (hd0 t htm);obtain ⟨_,_,_,_,o5⟩:=zag (qm ho htm);have ih:=zx4 n hl ho hd0 rest (j+1) r true (s++qz (.mk 18 nm [a,b] [] pl)) h3 h1 (by simp at hk'; omega) (by simp only [wz,List.map_cons,List.flatten_cons,pe] at hb ⊢; omega)
  have e:s++wz (.mk 18 nm [a,b] [] pl::rest)=s++qz (.mk 18 nm [a,b] [] pl)++wz rest:=by simp [wz]
  rw [e,←ih];have hlen:s.length+(nm.length+3+(Sp.text a 0).length+3+(Sp.text b 0).length+2)≤65536:=by
   simp only [wz,List.map_cons,List.flatten_cons,pe,qz,List.length_cons,List.length_nil] at hb;omega
  have e0:decide ((0:Int)<((T.ds [a,b]).length:Int))=true:=by rw [ya]; rfl
  have e1:decide ((1:Int)<((T.ds [a,b]).length:Int))=true:=by rw [ya]; rfl
  have n0:[a,b][(0:Int).toNat]?=some a:=rfl;have n1:[a,b][(1:Int).toNat]?=some b:=rfl;have hCa:Sp.toC a.d=some a:=zhp o5 (by simp)
  have hCb:Sp.toC b.d=some b:=zhp o5 (by simp)
  have hal:(Sp.app [] s).length=s.length:=by rw [xm]; simp
  simp only [L18];cases u
  ·refine (z57 n r l (Sp.app [] s) j).trans ?_;rw [yh h1,ya,yh h1,xe,yv,pm,h2,wu h1 hl,qr];simp only [cond_true,za,Bool.and_self,↓zfa,vm,zcj,zci,zch,zcg,zz,zp0,Bool.true_or,e0,e1,yv,n0,n1,xk,zsz,zr6,hCa,hCb,qr,ha,hbb];simp (disch:=((try simp only [xm,hal,pe,List.length_cons,List.length_nil]); omega)) only [x5,cond_true]
   simp [xa,prV,qz]
  ·refine (z94 n r l (Sp.app [] s) j).trans ?_;rw [yh h1,ya,yh h1,xe,yv,pm,h2,wu h1 hl,qr];simp only [cond_true,za,Bool.and_self,↓zfa,vm,zcj,zci,zch,zcg,zz,zp0,Bool.true_or,e0,e1,yv,n0,n1,xk,zsz,zr6,hCa,hCb,qr,ha,hbb];simp (disch:=((try simp only [xm,hal,pe,List.length_cons,List.length_nil]); omega)) only [x5,cond_true]
   simp [xa,prV,qz]
theorem z4v(l:List T)(hl:yj l=true)(ho:T.oks l=true)(hb:12 * Sp.bulks l≤65536):zh cx 87 [.d (.sl 5 (T.ds l))] []=some (.ret (mkE (zek l)),[]):=by
 refine zl z04 (N:=l.length+1) ?_;rw [g18]
 have h:=zdt (λ r i=>LP cx K18 (l.length+1) 87 0 2 r [(0,V.d (D.sl 5 (T.ds l))),(9,V.d (D.sl 5 (T.ds l))),(10,V.d (D.int .i64 (l.length:Int))),(11,V.d (D.int .i64 i))] [] (AK cx K18 (l.length+1) 87 0 2 (EK cx 87 0)))
  l (λ t=>!yq t) (λ j=>some (Out.ret (mkE ([],61)),[])) (L18 (l.length+1) (l.length+1) l false [] 0) (xf hl)
  (λ r j x hj hx=>by
   rw [z95,ya,yh hj,xe,yv,pm,hx,qr];obtain ⟨q1,q2,q3,q4,q5⟩:yj x.nm=true∧yj x.kids=true∧yj x.nms=true∧x.nms.all yj=true∧T.oks x.kids=true:=by
    have:=qm ho (po hx);cases x; exact zag this
   have hC:∀ t∈x.kids,Sp.toC t.d=some t:=λ t h=>zhp q5 h;generalize LP cx K18 (l.length+1) 87 0 2 r _ _ _=Z;obtain ⟨k',nm',kids',nms',pl'⟩:=x;simp only [zxz,zfw,zr4] at q1 q2 q3 q4 q5 hC;simp only [cond_true,za,qr,Bool.and_self,↓zfa,vm,zcj,zci,zch,zcg,decide_true,z8x,zp0,Bool.true_or,ya,pf,zzi,zx5,zzj,z2k,zzg,yv,xk,zsz,zr6,zey q1];have hk:k'=18∨k' ≠ 18:=by omega
   rcases hk with rfl | hk <;> rcases kids' with _ | ⟨b,_ | ⟨c,_ | ⟨d,l⟩⟩⟩ <;> rcases nms' with _ | ⟨y,nms'⟩ <;> simp [yq,hC,qr,mkE, *]
   cases Sp.named nm' <;> cases Sp.right b <;> cases Sp.right c <;> rfl)
  (λ r=>by rw [z95,xu,cond_false,ya]; rfl) (k:=l.length+1) (by omega)
 rw [ya];refine h.trans ?_;unfold zek;have e:l.all yq = !(l.any λ s=>!yq s):=by rw [List.not_any_eq_all_not]; simp
 cases hf:y0 (λ t=>!yq t) l 0 with
 | some j=>
  have:l.any (λ s=>!yq s)=true:=by rw [←ze6 l 0,hf]; rfl
  rw [e,this];rfl
 | none=>
  have h0:l.any (λ s=>!yq s)=false:=by rw [←ze6 l 0,hf]; rfl
  have hall:∀ t∈l,yq t=true:=by
   have:l.all yq=true:=by rw [e,h0]; rfl
   exact List.all_eq_true.1 this
  have:=zn8 l;have hL:=zx4 (l.length+1) (xf hl) ho hall l 0 (l.length+1) false [] rfl (Nat.zero_le _) (by omega) (by simp; omega)
  rw [e,h0];exact hL
end Go.Vai
end
section
namespace Go.Proofs
open Go.Shelf
def Tryz.growS_ren:Go.Shelf.Ren:=⟨λ | 4=>165 | n=>n,λ | 22=>23 | 25=>9 | 3=>3 | 4=>4 | 9=>9 | 20=>20 | 0=>0 | n=>n,λ | n=>n⟩
theorem Tryz.growS:Go.Proofs.Lays8.n4 Tryz.prog Tryz.growS_ren:={
 mixed:=by kernel_rfl
 f4:=⟨Tryz.f165.name,by decide,Tryz.func165.trans (congrArg some (by kernel_rfl))⟩
 t0:=Tryz.underlying0
 a0:=Tryz.isAgg0
 z0:=Tryz.sizeOf0
 v0:=Tryz.zeroValue0
 t3:=Tryz.underlying3
 a3:=Tryz.isAgg3
 z3:=Tryz.sizeOf3
 v3:=Tryz.zeroValue3
 t4:=Tryz.underlying4
 a4:=Tryz.isAgg4
 z4:=Tryz.sizeOf4
 v4:=Tryz.zeroValue4
 t9:=Tryz.underlying9
 a9:=Tryz.isAgg9
 z9:=Tryz.sizeOf9
 v9:=Tryz.zeroValue9
 t20:=Tryz.underlying20
 a20:=Tryz.isAgg20
 z20:=Tryz.sizeOf20
 v20:=Tryz.zeroValue20
 t22:=Tryz.underlying23
 a22:=Tryz.isAgg23
 z22:=Tryz.sizeOf23
 v22:=Tryz.zeroValue23 }
def Tryz.lays169_ren:Go.Shelf.Ren:=⟨λ | 169=>164 | n=>n,λ | 70=>173 | 9=>9 | 0=>0 | 72=>176 | 37=>174 | 127=>232 | 3=>3 | 5=>5 | n=>n,λ | n=>n⟩
theorem Tryz.lays169:Go.Proofs.Lays.n169 Tryz.prog Tryz.lays169_ren:={
 mixed:=by kernel_rfl
 f169:=Tryz.func164.trans (congrArg some (by kernel_rfl))
 t0:=Tryz.underlying0
 a0:=Tryz.isAgg0
 z0:=Tryz.sizeOf0
 v0:=Tryz.zeroValue0
 t3:=Tryz.underlying3
 a3:=Tryz.isAgg3
 z3:=Tryz.sizeOf3
 v3:=Tryz.zeroValue3
 t9:=Tryz.underlying9
 a9:=Tryz.isAgg9
 z9:=Tryz.sizeOf9
 v9:=Tryz.zeroValue9
 t37:=Tryz.underlying174
 a37:=Tryz.isAgg174
 z37:=Tryz.sizeOf174
 v37:=Tryz.zeroValue174
 t70:=Tryz.underlying173
 a70:=Tryz.isAgg173
 z70:=Tryz.sizeOf173
 v70:=Tryz.zeroValue173
 t72:=Tryz.underlying176
 a72:=Tryz.isAgg176
 z72:=Tryz.sizeOf176
 v72:=Tryz.zeroValue176
 t127:=Tryz.underlying232
 a127:=Tryz.isAgg232
 z127:=Tryz.sizeOf232
 v127:=Tryz.zeroValue232 }
theorem Tryz.Builder_Extra_169:Builder.Extra Tryz.prog Tryz.lays169_ren:={
 sizeBuilder:=by kernel_rfl
 liesBuilder:=by kernel_rfl
 t5:=Tryz.underlying5
 a5:=Tryz.isAgg5
 z5:=Tryz.sizeOf5
 v5:=Tryz.zeroValue5
 infoByte:=by kernel_rfl
 cellsByte:=by kernel_rfl
 sizeByte:=by kernel_rfl
 neB5:=by decide }
open Go.RowKit in
def Tryz.lays156_ren:Go.Shelf.Ren:=⟨λ | 156=>192 | 165=>215 | 166=>159 | 169=>164 | 240=>191 | 241=>231 | 276=>214 | 277=>242 | n=>n,λ | 31=>23 | 9=>9 | 3=>3 | 4=>4 | 0=>0 | 20=>20 | 72=>176 | 76=>204 | 70=>173 | 37=>174 | 75=>203 | 127=>232 | 164=>237 | 5=>5 | 80=>155 | n=>n,λ | n=>n⟩
theorem Tryz.lays156:Go.Proofs.Lays.n156 Tryz.prog Tryz.lays156_ren:={
 mixed:=by kernel_rfl
 f156:=Tryz.func192.trans (congrArg some (by kernel_rfl))
 f165:=Tryz.func215.trans (congrArg some (by kernel_rfl))
 f166:=Tryz.func159.trans (congrArg some (by kernel_rfl))
 f169:=Tryz.func164.trans (congrArg some (by kernel_rfl))
 f240:=Tryz.func191.trans (congrArg some (by kernel_rfl))
 f241:=Tryz.func231.trans (congrArg some (by kernel_rfl))
 f276:=Tryz.func214.trans (congrArg some (by kernel_rfl))
 f277:=Tryz.func242.trans (congrArg some (by kernel_rfl))
 t0:=Tryz.underlying0
 a0:=Tryz.isAgg0
 z0:=Tryz.sizeOf0
 v0:=Tryz.zeroValue0
 t3:=Tryz.underlying3
 a3:=Tryz.isAgg3
 z3:=Tryz.sizeOf3
 v3:=Tryz.zeroValue3
 t4:=Tryz.underlying4
 a4:=Tryz.isAgg4
 z4:=Tryz.sizeOf4
 v4:=Tryz.zeroValue4
 t9:=Tryz.underlying9
 a9:=Tryz.isAgg9
 z9:=Tryz.sizeOf9
 v9:=Tryz.zeroValue9
 t20:=Tryz.underlying20
 a20:=Tryz.isAgg20
 z20:=Tryz.sizeOf20
 v20:=Tryz.zeroValue20
 t31:=Tryz.underlying23
 a31:=Tryz.isAgg23
 z31:=Tryz.sizeOf23
 v31:=Tryz.zeroValue23
 t37:=Tryz.underlying174
 a37:=Tryz.isAgg174
 z37:=Tryz.sizeOf174
 v37:=Tryz.zeroValue174
 t70:=Tryz.underlying173
 a70:=Tryz.isAgg173
 z70:=Tryz.sizeOf173
 v70:=Tryz.zeroValue173
 t72:=Tryz.underlying176
 a72:=Tryz.isAgg176
 z72:=Tryz.sizeOf176
 v72:=Tryz.zeroValue176
 t75:=Tryz.underlying203
 a75:=Tryz.isAgg203
 z75:=Tryz.sizeOf203
 v75:=Tryz.zeroValue203
 t76:=Tryz.underlying204
 a76:=Tryz.isAgg204
 z76:=Tryz.sizeOf204
 v76:=Tryz.zeroValue204
 t127:=Tryz.underlying232
 a127:=Tryz.isAgg232
 z127:=Tryz.sizeOf232
 v127:=Tryz.zeroValue232
 t164:=Tryz.underlying237
 a164:=Tryz.isAgg237
 z164:=Tryz.sizeOf237
 v164:=Tryz.zeroValue237 }
theorem Tryz.Builder_Extra_156:Builder.Extra Tryz.prog Tryz.lays156_ren:={
 sizeBuilder:=by kernel_rfl
 liesBuilder:=by kernel_rfl
 t5:=Tryz.underlying5
 a5:=Tryz.isAgg5
 z5:=Tryz.sizeOf5
 v5:=Tryz.zeroValue5
 infoByte:=by kernel_rfl
 cellsByte:=by kernel_rfl
 sizeByte:=by kernel_rfl
 neB5:=by decide }
open Go.RowKit in
theorem Tryz.strings_Join_none(a:Option Addr)(c:Nat)(sep:ByteArray)(w:World) :
  Calls Tryz.prog 192 #[.slice a 0 c,.string sep] w λ e w'=>e=.returned (.string ⟨#[]⟩)∧w'=w:=Any.strings_Join_none Tryz.lays156 Tryz.Builder_Extra_156 a c sep w
open Go.RowKit in
theorem Tryz.strings_Join(bk o c:Nat)(xs:List ByteArray)(sep:ByteArray)(w:World)(hcells:∀ (j:Nat) x,xs[j]?=some x→w.cell? ⟨bk,o+j,none⟩=some (.string x))(hbk:bk<w.heap.size)(hN:xs.length≤140737488355328)(hcap:xs.length≤c)(hlen:(Lib.join (xs.map (·.data.toList)) sep.data.toList).length≤140737488355328) :
  Calls Tryz.prog 192 #[.slice (some ⟨bk,o,none⟩) xs.length c,.string sep] w λ e w'=>e=.returned (.string ⟨(Lib.join (xs.map (·.data.toList)) sep.data.toList).toArray⟩)∧Below w.heap.size w w':=Any.strings_Join Tryz.lays156 Tryz.Builder_Extra_156 bk o c xs sep w hcells hbk hN hcap hlen
def Tryz.lays189_ren:Go.Shelf.Ren:=⟨λ | 189=>49 | 125=>86 | 257=>85 | 128=>124 | 129=>125 | 294=>115 | 295=>116 | 296=>117 | 297=>118 | 298=>119 | 299=>120 | 216=>121 | 300=>122 | 301=>123 | 328=>152 | 329=>153 | 330=>154 | 331=>155 | 332=>156 | 215=>157 | 343=>190 | n=>n,λ | 28=>47 | 3=>3 | 46=>140 | 0=>0 | 51=>78 | 53=>44 | 4=>4 | 183=>164 | 182=>163 | 131=>102 | 5=>5 | 9=>9 | 218=>196 | 222=>200 | 228=>229 | 229=>230 | n=>n,λ | n=>n⟩
theorem Tryz.lays189:Go.Proofs.Lays.n189 Tryz.prog Tryz.lays189_ren:={
 mixed:=by kernel_rfl
 f125:=Tryz.func86.trans (congrArg some (by kernel_rfl))
 f128:=Tryz.func124.trans (congrArg some (by kernel_rfl))
 f129:=Tryz.func125.trans (congrArg some (by kernel_rfl))
 f189:=Tryz.func49.trans (congrArg some (by kernel_rfl))
 f215:=Tryz.func157.trans (congrArg some (by kernel_rfl))
 f216:=Tryz.func121.trans (congrArg some (by kernel_rfl))
 f257:=Tryz.func85.trans (congrArg some (by kernel_rfl))
 f294:=Tryz.func115.trans (congrArg some (by kernel_rfl))
 f295:=Tryz.func116.trans (congrArg some (by kernel_rfl))
 f296:=Tryz.func117.trans (congrArg some (by kernel_rfl))
 f297:=Tryz.func118.trans (congrArg some (by kernel_rfl))
 f298:=Tryz.func119.trans (congrArg some (by kernel_rfl))
 f299:=Tryz.func120.trans (congrArg some (by kernel_rfl))
 f300:=Tryz.func122.trans (congrArg some (by kernel_rfl))
 f301:=Tryz.func123.trans (congrArg some (by kernel_rfl))
 f328:=Tryz.func152.trans (congrArg some (by kernel_rfl))
 f329:=Tryz.func153.trans (congrArg some (by kernel_rfl))
 f330:=Tryz.func154.trans (congrArg some (by kernel_rfl))
 f331:=Tryz.func155.trans (congrArg some (by kernel_rfl))
 f332:=Tryz.func156.trans (congrArg some (by kernel_rfl))
 f343:=Tryz.func190.trans (congrArg some (by kernel_rfl))
 t0:=Tryz.underlying0
 a0:=Tryz.isAgg0
 z0:=Tryz.sizeOf0
 v0:=Tryz.zeroValue0
 t3:=Tryz.underlying3
 a3:=Tryz.isAgg3
 z3:=Tryz.sizeOf3
 v3:=Tryz.zeroValue3
 t4:=Tryz.underlying4
 a4:=Tryz.isAgg4
 z4:=Tryz.sizeOf4
 v4:=Tryz.zeroValue4
 t5:=Tryz.underlying5
 a5:=Tryz.isAgg5
 z5:=Tryz.sizeOf5
 v5:=Tryz.zeroValue5
 t9:=Tryz.underlying9
 a9:=Tryz.isAgg9
 z9:=Tryz.sizeOf9
 v9:=Tryz.zeroValue9
 t28:=Tryz.underlying47
 a28:=Tryz.isAgg47
 z28:=Tryz.sizeOf47
 v28:=Tryz.zeroValue47
 t46:=Tryz.underlying140
 a46:=Tryz.isAgg140
 z46:=Tryz.sizeOf140
 v46:=Tryz.zeroValue140
 t51:=Tryz.underlying78
 a51:=Tryz.isAgg78
 z51:=Tryz.sizeOf78
 v51:=Tryz.zeroValue78
 t53:=Tryz.underlying44
 a53:=Tryz.isAgg44
 z53:=Tryz.sizeOf44
 v53:=Tryz.zeroValue44
 t131:=Tryz.underlying102
 a131:=Tryz.isAgg102
 z131:=Tryz.sizeOf102
 v131:=Tryz.zeroValue102
 t182:=Tryz.underlying163
 a182:=Tryz.isAgg163
 z182:=Tryz.sizeOf163
 v182:=Tryz.zeroValue163
 t183:=Tryz.underlying164
 a183:=Tryz.isAgg164
 z183:=Tryz.sizeOf164
 v183:=Tryz.zeroValue164
 t218:=Tryz.underlying196
 a218:=Tryz.isAgg196
 z218:=Tryz.sizeOf196
 v218:=Tryz.zeroValue196
 t222:=Tryz.underlying200
 a222:=Tryz.isAgg200
 z222:=Tryz.sizeOf200
 v222:=Tryz.zeroValue200
 t228:=Tryz.underlying229
 a228:=Tryz.isAgg229
 z228:=Tryz.sizeOf229
 v228:=Tryz.zeroValue229
 t229:=Tryz.underlying230
 a229:=Tryz.isAgg230
 z229:=Tryz.sizeOf230
 v229:=Tryz.zeroValue230 }
open Go.Sort Go.RowKit in
theorem Tryz.slices_Sort_int(blk off cap:Nat)(zs:List Int)(w:World)(hH:Holds (Value.int .i64) w blk off zs.toArray)(hblk:blk<w.heap.size)(hsz:zs.length<4611686018427387904) :
  Calls Tryz.prog 49 #[.slice (some ⟨blk,off,none⟩) zs.length cap] w λ e w'=>
   e=.returned (.tuple #[])∧∃ n os,w'=grow (putRow (Value.int .i64) (Sort.ahead w n) blk off (zs.mergeSort λ x y=>decide (x≤y)).toArray) os:=Any.slices_Sort_int Tryz.lays189 blk off cap zs w hH hblk hsz
def Tryz.laysNm216_ren:Go.Shelf.Ren:=⟨λ | 16=>99 | n=>n,λ | 24=>23 | 9=>9 | 4=>4 | n=>n,λ | n=>n⟩
theorem Tryz.laysNm216:Go.Proofs.Lays2.n16 Tryz.prog Tryz.laysNm216_ren:={
 mixed:=by kernel_rfl
 f16:=Tryz.func99.trans (congrArg some (by kernel_rfl))
 t4:=Tryz.underlying4
 a4:=Tryz.isAgg4
 z4:=Tryz.sizeOf4
 v4:=Tryz.zeroValue4
 t9:=Tryz.underlying9
 a9:=Tryz.isAgg9
 z9:=Tryz.sizeOf9
 v9:=Tryz.zeroValue9
 t24:=Tryz.underlying23
 a24:=Tryz.isAgg23
 z24:=Tryz.sizeOf23
 v24:=Tryz.zeroValue23
 i9:=by kernel_rfl }
open Go.RowKit Go.Lib in
theorem Tryz.slices_Clone_string(b off n c:Nat)(zs:List ByteArray)(w:World)(hz:n≤zs.length)(hbig:n * 16≤140737488355328)(hc:∀ j,j<zs.length→w.cell? ⟨b,off+j,none⟩=some (.string (zs.getD j ByteArray.empty))) :
  Calls Tryz.prog 99 #[.slice (some ⟨b,off,none⟩) n c] w λ e w'=>∃ v',e=.returned v'∧w'.ownsRow w.heap.size 9 1 v' n ((zs.take n).map (Value.string))∧v' ≠ .slice none 0 0∧Below w.heap.size w w':=Any.slices_Clone_string Tryz.laysNm216 b off n c zs w hz hbig hc
open Go.RowKit Go.Lib in
theorem Tryz.slices_Clone_string_nil(n c:Nat)(w:World) :
  Calls Tryz.prog 99 #[.slice none n c] w λ e w'=>e=.returned (.slice none 0 0)∧w'=w:=Any.slices_Clone_string_nil Tryz.laysNm216 n c w
open Go.RowKit Go.Lib in
theorem Tryz.slices_Clone_string_zero(a:Addr)(c:Nat)(w:World) :
  Calls Tryz.prog 99 #[.slice (some a) 0 c] w λ e w'=>∃ v',e=.returned v'∧w'.ownsRow w.heap.size 9 1 v' 0 []∧v' ≠ .slice none 0 0∧Below w.heap.size w w':=Any.slices_Clone_string_zero Tryz.laysNm216 a c w
end Go.Proofs
end

/-
  Show: the printer's functions, called. To: The library's contracts that are leaned on, at this program: strings.Builder's String, strings.Join, slices.Sort, slices.Clone, slices.Grow.
-/
import Derived.Test.YtmolcgfhgdhgoaaGreatDoorSliPart2
import Derived.Shelf.Spec.SlicesGrow
import Derived.Shelf.Strings.Builder1
import Derived.Shelf.Strings.Builder2
import Derived.Shelf.Strings.OnBuilder
import Derived.Shelf.Strings.BuilderF
import Derived.Shelf.Strings.BuilderK
import Derived.Shelf.Strings.Builder2Cap
import Derived.Shelf.Sort.Plain
import Derived.Shelf.Slices.Clone
import Derived.Test.YtmolcgfhgdhgoaaGreatDoorProg
set_option linter.all false
noncomputable section
namespace Go.Vai
open Go.Proofs
def zc3(t:T):Bool:=Sp.right t&&(decide (t.k=4)||decide (t.k=5))
def zc2(t:T):Bool:=Sp.right t&&(decide (t.k=8)||decide (t.k=9))
def zhs(t:T):Bool:=Sp.right t&&decide (t.k=10)
def zdu:T→List UInt8→List UInt8 | .mk _ _ kids nms _,s=>(bif decide (nms.length=1) then [40]++Sp.at nms 0++[32,58,32]++Sp.at (Sp.texts kids 0) 0++[41] else yw (zbk kids) (Sp.at (Sp.texts kids 1) 0))++s++Sp.at (Sp.texts kids 0) 1
def zdq:T→List UInt8→List UInt8 | .mk _ _ kids _ _,s=>[40]++Sp.at (Sp.texts kids 0) 0++s++Sp.at (Sp.texts kids 0) 1++[41]
def zix:T→List UInt8 | .mk _ _ kids _ _=>[91]++zan true kids++[93]
def yaj(m:Nat):D×List UInt8→Option (List UInt8) | (x,s)=>zd (zi m x) λ t=>za (zc3 t) (some (zdu t s))
def z7j(m:Nat):D×List UInt8→Option (List UInt8) | (x,s)=>zd (zi m x) λ t=>za (zc2 t) (some (zdq t s))
def z7i(m:Nat)(x:D):Option (List UInt8):=zd (zi m x) λ t=>za (zhs t) (some (zix t))
def zx0(m:Nat)(x:D):Option (List UInt8):=zd (zi m x) λ t=>za (Sp.right t) (some (Sp.bare t))
def z4l:D×Int→Option (List UInt8) | (x,a)=>zd (Sp.toC x) λ t=>za (Sp.form t) (some (za3 t a))
def zwx(m:Nat)(x:D):Option (List UInt8):=zd (zi m x) λ t=>za (Sp.form t) (some (xw t))
def KT(m:Nat):CK R1:=prK 128 zlr (z0l m) K91
def KM(m:Nat):CK R1:=prK 194 zlr (yai m) K91
def yaf(m:Nat):CK R1:=clK 160 (zue 218) z5g psF (λ b x=>zd (zwx m x) λ s=>some (yw b s)) K91
def yag(m:Nat):CK R1:=clK 160 (zue 216) z3e psB (λ b x=>zd (z0l m (x,1)) λ s=>some (yw b s)) (KT m)
def K70(m:Nat):CK R1:=clK 160 (zue 162) z3e psB (λ b x=>zd (zx0 m x) λ s=>some (yw b s)) K91
def K71(m:Nat):CK R1:=prK 193 zua (yaj (m+1)) (prK 195 zua (z7j (m+1)) (prK 196 zqs (z7i (m+1)) (prK 194 zlr z4l (KT m))))
theorem g69(n:Nat)(k:Int)(nm:List UInt8)(kids:List T)(nms:List (List UInt8))(pl:Int):zk cx (CK.plain zo) n 161 [.d (.agg [.int .i64 k,.str nm,.sl 5 (T.ds kids),.sl 1 (nms.map .str),.int .i64 pl])] []=bif decide (k=(2:Int)) then bif decide (k=(2:Int)) then some (Out.ret (V.d (D.int .i64 (0:Int))),[]) else bif decide (k=(6:Int)) then bif decide (k=(6:Int)) then some (Out.ret (V.d (D.int .i64 (1:Int))),[]) else some (Out.ret (V.d (D.int .i64 (2:Int))),[]) else bif decide (k=(7:Int)) then some (Out.ret (V.d (D.int .i64 (1:Int))),[]) else some (Out.ret (V.d (D.int .i64 (2:Int))),[]) else bif decide (k=(3:Int)) then bif decide (k=(3:Int)) then some (Out.ret (V.d (D.int .i64 (0:Int))),[]) else bif decide (k=(6:Int)) then bif decide (k=(6:Int)) then some (Out.ret (V.d (D.int .i64 (1:Int))),[]) else some (Out.ret (V.d (D.int .i64 (2:Int))),[]) else bif decide (k=(7:Int)) then some (Out.ret (V.d (D.int .i64 (1:Int))),[]) else some (Out.ret (V.d (D.int .i64 (2:Int))),[]) else bif decide (k=(4:Int)) then bif decide (k=(4:Int)) then some (Out.ret (V.d (D.int .i64 (0:Int))),[]) else bif decide (k=(6:Int)) then bif decide (k=(6:Int)) then some (Out.ret (V.d (D.int .i64 (1:Int))),[]) else some (Out.ret (V.d (D.int .i64 (2:Int))),[]) else bif decide (k=(7:Int)) then some (Out.ret (V.d (D.int .i64 (1:Int))),[]) else some (Out.ret (V.d (D.int .i64 (2:Int))),[]) else bif decide (k=(5:Int)) then some (Out.ret (V.d (D.int .i64 (0:Int))),[]) else bif decide (k=(6:Int)) then bif decide (k=(6:Int)) then some (Out.ret (V.d (D.int .i64 (1:Int))),[]) else some (Out.ret (V.d (D.int .i64 (2:Int))),[]) else bif decide (k=(7:Int)) then some (Out.ret (V.d (D.int .i64 (1:Int))),[]) else some (Out.ret (V.d (D.int .i64 (2:Int))),[]):=by kernel_rfl
theorem ya5(n:Nat)(k:Int):zk cx (CK.plain zo) n 217 [.d (.int .i64 k)] []=bif decide (k=(14:Int)) then some (Out.ret (V.d (D.int .i64 (0:Int))),[]) else bif decide (k=(15:Int)) then some (Out.ret (V.d (D.int .i64 (1:Int))),[]) else some (Out.ret (V.d (D.int .i64 (2:Int))),[]):=by kernel_rfl
theorem z9d(n m:Nat)(L:List D)(u:Bool)(k:Int)(nm:List UInt8)(kids:List T)(nms:List (List UInt8))(pl:Int):zk cx (KM m) n 218 [.ptr 0 0,.ptr 1 0] (zer u L (.agg [.int .i64 k,.str nm,.sl 5 (T.ds kids),.sl 1 (nms.map .str),.int .i64 pl]))=bif decide (k=(16:Int)) then za (Sp.fit L.length L) (za (Sp.room L [126]) (za (decide ((0:Int)<(↑(T.ds kids).length:Int))) (ze (T.ds kids) (0:Int).toNat λ y=>ze y.cells 0 λ c=>ze y.cells 1 λ c_1=>ze y.cells 2 λ c_2=>ze y.cells 3 λ c_3=>ze y.cells 4 λ c_4=>zd (zd (zi m (D.agg [c,c_1,c_2,c_3,c_4])) λ t=>za (Sp.form t) (some (za3 t (2:Int)))) λ s=>za (Sp.fit (Sp.app L [126]).length (Sp.app L [126])) (za (Sp.room (Sp.app L [126]) s) (some (Out.ret (V.tup []),[(0,Ob.val 5 (V.d (D.agg [D.int .i64 k,D.str nm,D.sl 5 (T.ds kids),D.sl 1 (List.map D.str nms),D.int .i64 pl]))),(1,Ob.val 1 (V.ptr 2 0)),(2,Ob.val 187695107 (V.agg [V.ptr 2 0,V.sl 6291457 (Sp.app (Sp.app L [126]) s) 3,V.d (D.bool false)])),(3,Ob.tok (Sp.app (Sp.app L [126]) s).length)])))))) else bif decide (k=(15:Int)) then za (decide ((0:Int)<(↑(T.ds kids).length:Int))) (ze (T.ds kids) (0:Int).toNat λ y=>ze y.cells 0 λ c=>ze y.cells 1 λ c_1=>ze y.cells 2 λ c_2=>ze y.cells 3 λ c_3=>ze y.cells 4 λ c_4=>zd (zd (zi m (D.agg [c,c_1,c_2,c_3,c_4])) λ t=>za (Sp.form t) (some (za3 t (1:Int)))) λ s=>za (Sp.fit L.length L) (za (Sp.room L s) (za (Sp.fit (Sp.app L s).length (Sp.app L s)) (za (Sp.room (Sp.app L s) [32,47,92,32]) (za (decide ((1:Int)<(↑(T.ds kids).length:Int))) (ze (T.ds kids) (1:Int).toNat λ y=>ze y.cells 0 λ c=>ze y.cells 1 λ c_5=>ze y.cells 2 λ c_6=>ze y.cells 3 λ c_7=>ze y.cells 4 λ c_8=>zd (zd (zi m (D.agg [c,c_5,c_6,c_7,c_8])) λ t=>za (Sp.form t) (some (za3 t (2:Int)))) λ s_1=>za (Sp.fit (Sp.app (Sp.app L s) [32,47,92,32]).length (Sp.app (Sp.app L s) [32,47,92,32])) (za (Sp.room (Sp.app (Sp.app L s) [32,47,92,32]) s_1) (some (Out.ret (V.tup []),[(0,Ob.val 5 (V.d (D.agg [D.int .i64 k,D.str nm,D.sl 5 (T.ds kids),D.sl 1 (List.map D.str nms),D.int .i64 pl]))),(1,Ob.val 1 (V.ptr 2 0)),(2,Ob.val 187695107 (V.agg [V.ptr 2 0,V.sl 6291457 (Sp.app (Sp.app (Sp.app L s) [32,47,92,32]) s_1) 3,V.d (D.bool false)])),(3,Ob.tok (Sp.app (Sp.app (Sp.app L s) [32,47,92,32]) s_1).length)]))))))))) else bif decide (k=(14:Int)) then za (decide ((0:Int)<(↑(T.ds kids).length:Int))) (ze (T.ds kids) (0:Int).toNat λ y=>ze y.cells 0 λ c=>ze y.cells 1 λ c_1=>ze y.cells 2 λ c_2=>ze y.cells 3 λ c_3=>ze y.cells 4 λ c_4=>zd (zd (zi m (D.agg [c,c_1,c_2,c_3,c_4])) λ t=>za (Sp.form t) (some (za3 t (0:Int)))) λ s=>za (Sp.fit L.length L) (za (Sp.room L s) (za (Sp.fit (Sp.app L s).length (Sp.app L s)) (za (Sp.room (Sp.app L s) [32,92,47,32]) (za (decide ((1:Int)<(↑(T.ds kids).length:Int))) (ze (T.ds kids) (1:Int).toNat λ y=>ze y.cells 0 λ c=>ze y.cells 1 λ c_5=>ze y.cells 2 λ c_6=>ze y.cells 3 λ c_7=>ze y.cells 4 λ c_8=>zd (zd (zi m (D.agg [c,c_5,c_6,c_7,c_8])) λ t=>za (Sp.form t) (some (za3 t (1:Int)))) λ s_1=>za (Sp.fit (Sp.app (Sp.app L s) [32,92,47,32]).length (Sp.app (Sp.app L s) [32,92,47,32])) (za (Sp.room (Sp.app (Sp.app L s) [32,92,47,32]) s_1) (some (Out.ret (V.tup []),[(0,Ob.val 5 (V.d (D.agg [D.int .i64 k,D.str nm,D.sl 5 (T.ds kids),D.sl 1 (List.map D.str nms),D.int .i64 pl]))),(1,Ob.val 1 (V.ptr 2 0)),(2,Ob.val 187695107 (V.agg [V.ptr 2 0,V.sl 6291457 (Sp.app (Sp.app (Sp.app L s) [32,92,47,32]) s_1) 3,V.d (D.bool false)])),(3,Ob.tok (Sp.app (Sp.app (Sp.app L s) [32,92,47,32]) s_1).length)]))))))))) else za (Sp.fit L.length L) (za (Sp.room L (nm++[])) (some (Out.ret (V.tup []),[(0,Ob.val 5 (V.d (D.agg [D.int .i64 k,D.str nm,D.sl 5 (T.ds kids),D.sl 1 (List.map D.str nms),D.int .i64 pl]))),(1,Ob.val 1 (V.ptr 2 0)),(2,Ob.val 187695107 (V.agg [V.ptr 2 0,V.sl 6291457 (Sp.app L (nm++[])) 3,V.d (D.bool false)])),(3,Ob.tok (Sp.app L (nm++[])).length)]))):=by cases u <;> kernel_rfl
theorem yax(n m:Nat)(L:List D)(u:Bool)(k:Int)(nm:List UInt8)(kids:List T)(nms:List (List UInt8))(pl:Int):zk cx (prK 163 zqs (zx0 m) K91) n 162 [.ptr 0 0,.ptr 3 0] (zre u L (.agg [.int .i64 k,.str nm,.sl 5 (T.ds kids),.sl 1 (nms.map .str),.int .i64 pl]))=zd (zd (zi m (D.agg [D.int .i64 k,D.str nm,D.sl 5 (T.ds kids),D.sl 1 (List.map D.str nms),D.int .i64 pl])) λ t=>za (Sp.right t) (some (Sp.bare t))) λ s=>za (Sp.fit L.length L) (za (Sp.room L s) (some (Out.ret (V.tup []),[(0,Ob.val 1 (V.ptr 1 0)),(1,Ob.val 187695107 (V.agg [V.ptr 1 0,V.sl 6291457 (Sp.app L s) 2,V.d (D.bool false)])),(2,Ob.tok (Sp.app L s).length),(3,Ob.val 5 (V.d (D.agg [D.int .i64 k,D.str nm,D.sl 5 (T.ds kids),D.sl 1 (List.map D.str nms),D.int .i64 pl])))]))):=by cases u <;> kernel_rfl
theorem z9e(n m:Nat)(L:List D)(u:Bool)(k:Int)(nm:List UInt8)(kids:List T)(nms:List (List UInt8))(pl:Int):zk cx (KT m) n 216 [.ptr 0 0,.ptr 3 0] (zre u L (.agg [.int .i64 k,.str nm,.sl 5 (T.ds kids),.sl 1 (nms.map .str),.int .i64 pl]))=zd (zd (zi m (D.agg [D.int .i64 k,D.str nm,D.sl 5 (T.ds kids),D.sl 1 (List.map D.str nms),D.int .i64 pl])) λ t=>za (Sp.right t) (some (Sp.text t (1:Int)))) λ s=>za (Sp.fit L.length L) (za (Sp.room L s) (some (Out.ret (V.tup []),[(0,Ob.val 1 (V.ptr 1 0)),(1,Ob.val 187695107 (V.agg [V.ptr 1 0,V.sl 6291457 (Sp.app L s) 2,V.d (D.bool false)])),(2,Ob.tok (Sp.app L s).length),(3,Ob.val 5 (V.d (D.agg [D.int .i64 k,D.str nm,D.sl 5 (T.ds kids),D.sl 1 (List.map D.str nms),D.int .i64 pl])))]))):=by cases u <;> kernel_rfl
theorem yat(n m:Nat)(L:List D)(u:Bool)(k:Int)(nm:List UInt8)(kids:List T)(nms:List (List UInt8))(pl:Int)(s:List UInt8):zk cx (KT m) n 195 [.ptr 0 0,.d (.agg [.int .i64 k,.str nm,.sl 5 (T.ds kids),.sl 1 (nms.map .str),.int .i64 pl]),.d (.str s)] (psS u L)=za (Sp.fit L.length L) (za (Sp.room L [40]) (za (decide ((0:Int)<(↑(T.ds kids).length:Int))) (ze (T.ds kids) (0:Int).toNat λ y=>ze y.cells 0 λ c=>ze y.cells 1 λ c_1=>ze y.cells 2 λ c_2=>ze y.cells 3 λ c_3=>ze y.cells 4 λ c_4=>zd (zd (zi m (D.agg [c,c_1,c_2,c_3,c_4])) λ t=>za (Sp.right t) (some (Sp.text t (0:Int)))) λ s_1=>za (Sp.fit (Sp.app L [40]).length (Sp.app L [40])) (za (Sp.room (Sp.app L [40]) s_1) (za (Sp.fit (Sp.app (Sp.app L [40]) s_1).length (Sp.app (Sp.app L [40]) s_1)) (za (Sp.room (Sp.app (Sp.app L [40]) s_1) (s++[])) (za (decide ((1:Int)<(↑(T.ds kids).length:Int))) (ze (T.ds kids) (1:Int).toNat λ y=>ze y.cells 0 λ c=>ze y.cells 1 λ c_5=>ze y.cells 2 λ c_6=>ze y.cells 3 λ c_7=>ze y.cells 4 λ c_8=>zd (zd (zi m (D.agg [c,c_5,c_6,c_7,c_8])) λ t=>za (Sp.right t) (some (Sp.text t (0:Int)))) λ s_2=>za (Sp.fit (Sp.app (Sp.app (Sp.app L [40]) s_1) (s++[])).length (Sp.app (Sp.app (Sp.app L [40]) s_1) (s++[]))) (za (Sp.room (Sp.app (Sp.app (Sp.app L [40]) s_1) (s++[])) s_2) (za (Sp.fit (Sp.app (Sp.app (Sp.app (Sp.app L [40]) s_1) (s++[])) s_2).length (Sp.app (Sp.app (Sp.app (Sp.app L [40]) s_1) (s++[])) s_2)) (za (Sp.room (Sp.app (Sp.app (Sp.app (Sp.app L [40]) s_1) (s++[])) s_2) [41]) (some (Out.ret (V.tup []),[(0,Ob.val 187695107 (V.agg [V.ptr 0 0,V.sl 6291457 (Sp.app (Sp.app (Sp.app (Sp.app (Sp.app L [40]) s_1) (s++[])) s_2) [41]) 1,V.d (D.bool false)])),(1,Ob.tok (Sp.app (Sp.app (Sp.app (Sp.app (Sp.app L [40]) s_1) (s++[])) s_2) [41]).length)]))))))))))))):=by cases u <;> kernel_rfl
theorem z9c(n m:Nat)(L:List D)(u:Bool)(k:Int)(nm:List UInt8)(kids:List T)(nms:List (List UInt8))(pl:Int)(b:Bool):zk cx (clK 162 zlu zlh zre (λ _ x=>zx0 m x) K91) n 160 [.ptr 0 0,.d (.bool b),.func 162 [.ptr 2 0,.ptr 3 0]] (psB u L (.agg [.int .i64 k,.str nm,.sl 5 (T.ds kids),.sl 1 (nms.map .str),.int .i64 pl]))=bif b then za (Sp.fit L.length L) (za (Sp.room L [40]) (zd (zd (zi m (D.agg [D.int .i64 k,D.str nm,D.sl 5 (T.ds kids),D.sl 1 (List.map D.str nms),D.int .i64 pl])) λ t=>za (Sp.right t) (some (Sp.bare t))) λ s=>za (Sp.fit (Sp.app L [40]).length (Sp.app L [40])) (za (Sp.room (Sp.app L [40]) s) (bif b then za (Sp.fit (Sp.app (Sp.app L [40]) s).length (Sp.app (Sp.app L [40]) s)) (za (Sp.room (Sp.app (Sp.app L [40]) s) [41]) (some (Out.ret (V.tup []),[(0,Ob.val 187695107 (V.agg [V.ptr 0 0,V.sl 6291457 (Sp.app (Sp.app (Sp.app L [40]) s) [41]) 1,V.d (D.bool false)])),(1,Ob.tok (Sp.app (Sp.app (Sp.app L [40]) s) [41]).length),(2,Ob.val 1 (V.ptr 0 0)),(3,Ob.val 5 (V.d (D.agg [D.int .i64 k,D.str nm,D.sl 5 (T.ds kids),D.sl 1 (List.map D.str nms),D.int .i64 pl])))]))) else some (Out.ret (V.tup []),[(0,Ob.val 187695107 (V.agg [V.ptr 0 0,V.sl 6291457 (Sp.app (Sp.app L [40]) s) 1,V.d (D.bool false)])),(1,Ob.tok (Sp.app (Sp.app L [40]) s).length),(2,Ob.val 1 (V.ptr 0 0)),(3,Ob.val 5 (V.d (D.agg [D.int .i64 k,D.str nm,D.sl 5 (T.ds kids),D.sl 1 (List.map D.str nms),D.int .i64 pl])))]))))) else zd (zd (zi m (D.agg [D.int .i64 k,D.str nm,D.sl 5 (T.ds kids),D.sl 1 (List.map D.str nms),D.int .i64 pl])) λ t=>za (Sp.right t) (some (Sp.bare t))) λ s=>za (Sp.fit L.length L) (za (Sp.room L s) (bif b then za (Sp.fit (Sp.app L s).length (Sp.app L s)) (za (Sp.room (Sp.app L s) [41]) (some (Out.ret (V.tup []),[(0,Ob.val 187695107 (V.agg [V.ptr 0 0,V.sl 6291457 (Sp.app (Sp.app L s) [41]) 1,V.d (D.bool false)])),(1,Ob.tok (Sp.app (Sp.app L s) [41]).length),(2,Ob.val 1 (V.ptr 0 0)),(3,Ob.val 5 (V.d (D.agg [D.int .i64 k,D.str nm,D.sl 5 (T.ds kids),D.sl 1 (List.map D.str nms),D.int .i64 pl])))]))) else some (Out.ret (V.tup []),[(0,Ob.val 187695107 (V.agg [V.ptr 0 0,V.sl 6291457 (Sp.app L s) 1,V.d (D.bool false)])),(1,Ob.tok (Sp.app L s).length),(2,Ob.val 1 (V.ptr 0 0)),(3,Ob.val 5 (V.d (D.agg [D.int .i64 k,D.str nm,D.sl 5 (T.ds kids),D.sl 1 (List.map D.str nms),D.int .i64 pl])))]))):=by cases u <;> kernel_rfl
theorem z9b(n m:Nat)(L:List D)(u:Bool)(k:Int)(nm:List UInt8)(kids:List T)(nms:List (List UInt8))(pl:Int)(b:Bool):zk cx (clK 216 zlu zlh zre (λ _ x=>z0l m (x,1)) K91) n 160 [.ptr 0 0,.d (.bool b),.func 216 [.ptr 2 0,.ptr 3 0]] (psB u L (.agg [.int .i64 k,.str nm,.sl 5 (T.ds kids),.sl 1 (nms.map .str),.int .i64 pl]))=bif b then za (Sp.fit L.length L) (za (Sp.room L [40]) (zd (zd (zi m (D.agg [D.int .i64 k,D.str nm,D.sl 5 (T.ds kids),D.sl 1 (List.map D.str nms),D.int .i64 pl])) λ t=>za (Sp.right t) (some (Sp.text t 1))) λ s=>za (Sp.fit (Sp.app L [40]).length (Sp.app L [40])) (za (Sp.room (Sp.app L [40]) s) (bif b then za (Sp.fit (Sp.app (Sp.app L [40]) s).length (Sp.app (Sp.app L [40]) s)) (za (Sp.room (Sp.app (Sp.app L [40]) s) [41]) (some (Out.ret (V.tup []),[(0,Ob.val 187695107 (V.agg [V.ptr 0 0,V.sl 6291457 (Sp.app (Sp.app (Sp.app L [40]) s) [41]) 1,V.d (D.bool false)])),(1,Ob.tok (Sp.app (Sp.app (Sp.app L [40]) s) [41]).length),(2,Ob.val 1 (V.ptr 0 0)),(3,Ob.val 5 (V.d (D.agg [D.int .i64 k,D.str nm,D.sl 5 (T.ds kids),D.sl 1 (List.map D.str nms),D.int .i64 pl])))]))) else some (Out.ret (V.tup []),[(0,Ob.val 187695107 (V.agg [V.ptr 0 0,V.sl 6291457 (Sp.app (Sp.app L [40]) s) 1,V.d (D.bool false)])),(1,Ob.tok (Sp.app (Sp.app L [40]) s).length),(2,Ob.val 1 (V.ptr 0 0)),(3,Ob.val 5 (V.d (D.agg [D.int .i64 k,D.str nm,D.sl 5 (T.ds kids),D.sl 1 (List.map D.str nms),D.int .i64 pl])))]))))) else zd (zd (zi m (D.agg [D.int .i64 k,D.str nm,D.sl 5 (T.ds kids),D.sl 1 (List.map D.str nms),D.int .i64 pl])) λ t=>za (Sp.right t) (some (Sp.text t 1))) λ s=>za (Sp.fit L.length L) (za (Sp.room L s) (bif b then za (Sp.fit (Sp.app L s).length (Sp.app L s)) (za (Sp.room (Sp.app L s) [41]) (some (Out.ret (V.tup []),[(0,Ob.val 187695107 (V.agg [V.ptr 0 0,V.sl 6291457 (Sp.app (Sp.app L s) [41]) 1,V.d (D.bool false)])),(1,Ob.tok (Sp.app (Sp.app L s) [41]).length),(2,Ob.val 1 (V.ptr 0 0)),(3,Ob.val 5 (V.d (D.agg [D.int .i64 k,D.str nm,D.sl 5 (T.ds kids),D.sl 1 (List.map D.str nms),D.int .i64 pl])))]))) else some (Out.ret (V.tup []),[(0,Ob.val 187695107 (V.agg [V.ptr 0 0,V.sl 6291457 (Sp.app L s) 1,V.d (D.bool false)])),(1,Ob.tok (Sp.app L s).length),(2,Ob.val 1 (V.ptr 0 0)),(3,Ob.val 5 (V.d (D.agg [D.int .i64 k,D.str nm,D.sl 5 (T.ds kids),D.sl 1 (List.map D.str nms),D.int .i64 pl])))]))):=by cases u <;> kernel_rfl
theorem z9a(n m:Nat)(L:List D)(u:Bool)(k:Int)(nm:List UInt8)(kids:List T)(nms:List (List UInt8))(pl:Int)(b:Bool):zk cx (clK 218 zn2 zms zer (λ _ x=>zwx m x) K91) n 160 [.ptr 0 0,.d (.bool b),.func 218 [.ptr 2 0,.ptr 3 0]] (psF u L (.agg [.int .i64 k,.str nm,.sl 5 (T.ds kids),.sl 1 (nms.map .str),.int .i64 pl]))=bif b then za (Sp.fit L.length L) (za (Sp.room L [40]) (zd (zd (zi m (D.agg [D.int .i64 k,D.str nm,D.sl 5 (T.ds kids),D.sl 1 (List.map D.str nms),D.int .i64 pl])) λ t=>za (Sp.form t) (some (xw t))) λ s=>za (Sp.fit (Sp.app L [40]).length (Sp.app L [40])) (za (Sp.room (Sp.app L [40]) s) (bif b then za (Sp.fit (Sp.app (Sp.app L [40]) s).length (Sp.app (Sp.app L [40]) s)) (za (Sp.room (Sp.app (Sp.app L [40]) s) [41]) (some (Out.ret (V.tup []),[(0,Ob.val 187695107 (V.agg [V.ptr 0 0,V.sl 6291457 (Sp.app (Sp.app (Sp.app L [40]) s) [41]) 1,V.d (D.bool false)])),(1,Ob.tok (Sp.app (Sp.app (Sp.app L [40]) s) [41]).length),(2,Ob.val 5 (V.d (D.agg [D.int .i64 k,D.str nm,D.sl 5 (T.ds kids),D.sl 1 (List.map D.str nms),D.int .i64 pl]))),(3,Ob.val 1 (V.ptr 0 0))]))) else some (Out.ret (V.tup []),[(0,Ob.val 187695107 (V.agg [V.ptr 0 0,V.sl 6291457 (Sp.app (Sp.app L [40]) s) 1,V.d (D.bool false)])),(1,Ob.tok (Sp.app (Sp.app L [40]) s).length),(2,Ob.val 5 (V.d (D.agg [D.int .i64 k,D.str nm,D.sl 5 (T.ds kids),D.sl 1 (List.map D.str nms),D.int .i64 pl]))),(3,Ob.val 1 (V.ptr 0 0))]))))) else zd (zd (zi m (D.agg [D.int .i64 k,D.str nm,D.sl 5 (T.ds kids),D.sl 1 (List.map D.str nms),D.int .i64 pl])) λ t=>za (Sp.form t) (some (xw t))) λ s=>za (Sp.fit L.length L) (za (Sp.room L s) (bif b then za (Sp.fit (Sp.app L s).length (Sp.app L s)) (za (Sp.room (Sp.app L s) [41]) (some (Out.ret (V.tup []),[(0,Ob.val 187695107 (V.agg [V.ptr 0 0,V.sl 6291457 (Sp.app (Sp.app L s) [41]) 1,V.d (D.bool false)])),(1,Ob.tok (Sp.app (Sp.app L s) [41]).length),(2,Ob.val 5 (V.d (D.agg [D.int .i64 k,D.str nm,D.sl 5 (T.ds kids),D.sl 1 (List.map D.str nms),D.int .i64 pl]))),(3,Ob.val 1 (V.ptr 0 0))]))) else some (Out.ret (V.tup []),[(0,Ob.val 187695107 (V.agg [V.ptr 0 0,V.sl 6291457 (Sp.app L s) 1,V.d (D.bool false)])),(1,Ob.tok (Sp.app L s).length),(2,Ob.val 5 (V.d (D.agg [D.int .i64 k,D.str nm,D.sl 5 (T.ds kids),D.sl 1 (List.map D.str nms),D.int .i64 pl]))),(3,Ob.val 1 (V.ptr 0 0))]))):=by cases u <;> kernel_rfl
theorem yau(n m:Nat)(L:List D)(u:Bool)(k:Int)(nm:List UInt8)(kids:List T)(nms:List (List UInt8))(pl a:Int):zk cx (yaf m) n 194 [.ptr 0 0,.d (.agg [.int .i64 k,.str nm,.sl 5 (T.ds kids),.sl 1 (nms.map .str),.int .i64 pl]),.d (.int .i64 a)] (psS u L)=zd (zd (zd (zi m (D.agg [D.int .i64 k,D.str nm,D.sl 5 (T.ds kids),D.sl 1 (List.map D.str nms),D.int .i64 pl])) λ t=>za (Sp.form t) (some (xw t))) λ s=>some (yw (decide (zb6 k<a)) s)) λ s=>za (Sp.fit L.length L) (za (Sp.room L s) (some (Out.ret (V.tup []),[(0,Ob.val 187695107 (V.agg [V.ptr 0 0,V.sl 6291457 (Sp.app L s) 1,V.d (D.bool false)])),(1,Ob.tok (Sp.app L s).length)]))):=by cases u <;> kernel_rfl
theorem ya3(n m:Nat)(L:List D)(u:Bool)(k:Int)(nm:List UInt8)(kids:List T)(nms:List (List UInt8))(pl a:Int):zk cx (K70 m) n 128 [.ptr 0 0,.d (.agg [.int .i64 k,.str nm,.sl 5 (T.ds kids),.sl 1 (nms.map .str),.int .i64 pl]),.d (.int .i64 a)] (psS u L)=zd (Sp.toC (D.agg [D.int .i64 k,D.str nm,D.sl 5 (T.ds kids),D.sl 1 (List.map D.str nms),D.int .i64 pl])) λ b=>zd (zd (zd (zi m (D.agg [D.int .i64 k,D.str nm,D.sl 5 (T.ds kids),D.sl 1 (List.map D.str nms),D.int .i64 pl])) λ t=>za (Sp.right t) (some (Sp.bare t))) λ s=>some (yw (decide (zeo b.k<a)) s)) λ s=>za (Sp.fit L.length L) (za (Sp.room L s) (some (Out.ret (V.tup []),[(0,Ob.val 187695107 (V.agg [V.ptr 0 0,V.sl 6291457 (Sp.app L s) 1,V.d (D.bool false)])),(1,Ob.tok (Sp.app L s).length)]))):=by cases u <;> kernel_rfl
theorem yav(n m:Nat)(L:List D)(u:Bool)(k:Int)(nm:List UInt8)(kids:List T)(nms:List (List UInt8))(pl:Int)(s:List UInt8):zk cx (yag m) n 193 [.ptr 0 0,.d (.agg [.int .i64 k,.str nm,.sl 5 (T.ds kids),.sl 1 (nms.map .str),.int .i64 pl]),.d (.str s)] (psS u L)=za (decide ((0:Int)<(↑(T.ds kids).length:Int))) (ze (T.ds kids) (0:Int).toNat λ y=>ze y.cells 0 λ c=>ze y.cells 1 λ c_1=>ze y.cells 2 λ c_2=>ze y.cells 3 λ c_3=>ze y.cells 4 λ c_4=>bif decide ((↑(List.map D.str nms).length:Int)=(1:Int)) then za (decide ((0:Int)<(↑(List.map D.str nms).length:Int))) (ze (List.map D.str nms) (0:Int).toNat λ y=>ze y.cells 0 λ c_5=>match c_5 with
 | D.str s_1=>za (Sp.fit L.length L) (za (Sp.room L (40::(s_1++([32,58,32]++[])))) (zd (zd (zi m (D.agg [c,c_1,c_2,c_3,c_4])) λ t=>za (Sp.right t) (some (Sp.text t (0:Int)))) λ s_2=>za (Sp.fit (Sp.app L (40::(s_1++([32,58,32]++[])))).length (Sp.app L (40::(s_1++([32,58,32]++[]))))) (za (Sp.room (Sp.app L (40::(s_1++([32,58,32]++[])))) s_2) (za (Sp.fit (Sp.app (Sp.app L (40::(s_1++([32,58,32]++[])))) s_2).length (Sp.app (Sp.app L (40::(s_1++([32,58,32]++[])))) s_2)) (za (Sp.room (Sp.app (Sp.app L (40::(s_1++([32,58,32]++[])))) s_2) [41]) (za (Sp.fit (Sp.app (Sp.app (Sp.app L (40::(s_1++([32,58,32]++[])))) s_2) [41]).length (Sp.app (Sp.app (Sp.app L (40::(s_1++([32,58,32]++[])))) s_2) [41])) (za (Sp.room (Sp.app (Sp.app (Sp.app L (40::(s_1++([32,58,32]++[])))) s_2) [41]) (s++[])) (za (decide ((1:Int)<(↑(T.ds kids).length:Int))) (ze (T.ds kids) (1:Int).toNat λ y=>ze y.cells 0 λ c=>ze y.cells 1 λ c_6=>ze y.cells 2 λ c_7=>ze y.cells 3 λ c_8=>ze y.cells 4 λ c_9=>zd (zd (zi m (D.agg [c,c_6,c_7,c_8,c_9])) λ t=>za (Sp.right t) (some (Sp.text t (0:Int)))) λ s_3=>za (Sp.fit (Sp.app (Sp.app (Sp.app (Sp.app L (40::(s_1++([32,58,32]++[])))) s_2) [41]) (s++[])).length (Sp.app (Sp.app (Sp.app (Sp.app L (40::(s_1++([32,58,32]++[])))) s_2) [41]) (s++[]))) (za (Sp.room (Sp.app (Sp.app (Sp.app (Sp.app L (40::(s_1++([32,58,32]++[])))) s_2) [41]) (s++[])) s_3) (some (Out.ret (V.tup []),[(0,Ob.val 187695107 (V.agg [V.ptr 0 0,V.sl 6291457 (Sp.app (Sp.app (Sp.app (Sp.app (Sp.app L (40::(s_1++([32,58,32]++[])))) s_2) [41]) (s++[])) s_3) 1,V.d (D.bool false)])),(1,Ob.tok (Sp.app (Sp.app (Sp.app (Sp.app (Sp.app L (40::(s_1++([32,58,32]++[])))) s_2) [41]) (s++[])) s_3).length)]))))))))))))
 | x=>none) else match c with
 | D.int k' n=>bif decide (k'=IntKind.i64) then bif decide (n=(9:Int)) then match c_2 with
  | D.sl s_1 l=>bif s_1.beq (cx.P.cellsOf 26)||l.isEmpty then za (decide ((0:Int)<(↑l.length:Int))) (ze l (0:Int).toNat λ y=>ze y.cells 0 λ c_5=>match c_5 with
   | D.int k' n=>bif decide (k'=IntKind.i64) then zd (zd (zd (zi m (D.agg [c,c_1,c_2,c_3,c_4])) λ t=>za (Sp.right t) (some (Sp.text t 1))) λ s=>some (yw (decide (n=(1:Int))) s)) λ s_2=>za (Sp.fit L.length L) (za (Sp.room L s_2) (za (Sp.fit (Sp.app L s_2).length (Sp.app L s_2)) (za (Sp.room (Sp.app L s_2) (s++[])) (za (decide ((1:Int)<(↑(T.ds kids).length:Int))) (ze (T.ds kids) (1:Int).toNat λ y=>ze y.cells 0 λ c=>ze y.cells 1 λ c_6=>ze y.cells 2 λ c_7=>ze y.cells 3 λ c_8=>ze y.cells 4 λ c_9=>zd (zd (zi m (D.agg [c,c_6,c_7,c_8,c_9])) λ t=>za (Sp.right t) (some (Sp.text t (0:Int)))) λ s_3=>za (Sp.fit (Sp.app (Sp.app L s_2) (s++[])).length (Sp.app (Sp.app L s_2) (s++[]))) (za (Sp.room (Sp.app (Sp.app L s_2) (s++[])) s_3) (some (Out.ret (V.tup []),[(0,Ob.val 187695107 (V.agg [V.ptr 0 0,V.sl 6291457 (Sp.app (Sp.app (Sp.app L s_2) (s++[])) s_3) 1,V.d (D.bool false)])),(1,Ob.tok (Sp.app (Sp.app (Sp.app L s_2) (s++[])) s_3).length)])))))))) else none
   | x=>none) else none
  | x=>none else zd (zd (zd (zi m (D.agg [c,c_1,c_2,c_3,c_4])) λ t=>za (Sp.right t) (some (Sp.text t 1))) λ s=>some s) λ s_1=>za (Sp.fit L.length L) (za (Sp.room L s_1) (za (Sp.fit (Sp.app L s_1).length (Sp.app L s_1)) (za (Sp.room (Sp.app L s_1) (s++[])) (za (decide ((1:Int)<(↑(T.ds kids).length:Int))) (ze (T.ds kids) (1:Int).toNat λ y=>ze y.cells 0 λ c=>ze y.cells 1 λ c_5=>ze y.cells 2 λ c_6=>ze y.cells 3 λ c_7=>ze y.cells 4 λ c_8=>zd (zd (zi m (D.agg [c,c_5,c_6,c_7,c_8])) λ t=>za (Sp.right t) (some (Sp.text t (0:Int)))) λ s_2=>za (Sp.fit (Sp.app (Sp.app L s_1) (s++[])).length (Sp.app (Sp.app L s_1) (s++[]))) (za (Sp.room (Sp.app (Sp.app L s_1) (s++[])) s_2) (some (Out.ret (V.tup []),[(0,Ob.val 187695107 (V.agg [V.ptr 0 0,V.sl 6291457 (Sp.app (Sp.app (Sp.app L s_1) (s++[])) s_2) 1,V.d (D.bool false)])),(1,Ob.tok (Sp.app (Sp.app (Sp.app L s_1) (s++[])) s_2).length)])))))))) else none
 | x=>none):=by cases u <;> kernel_rfl
theorem z6n(n m:Nat)(L:List D)(u:Bool)(nm:List UInt8)(kids:List T)(nms:List (List UInt8))(pl:Int):zk cx (K71 m) n 163 [.ptr 0 0,.d (.agg [.int .i64 1,.str nm,.sl 5 (T.ds kids),.sl 1 (nms.map .str),.int .i64 pl])] (psS u L)=za (Sp.fit L.length L) (za (Sp.room L (nm++[])) (some (Out.ret (V.tup []),[(0,Ob.val 187695107 (V.agg [V.ptr 0 0,V.sl 6291457 (Sp.app L (nm++[])) 1,V.d (D.bool false)])),(1,Ob.tok (Sp.app L (nm++[])).length)]))):=by cases u <;> kernel_rfl
theorem z6m(n m:Nat)(L:List D)(u:Bool)(nm:List UInt8)(kids:List T)(nms:List (List UInt8))(pl:Int):zk cx (K71 m) n 163 [.ptr 0 0,.d (.agg [.int .i64 2,.str nm,.sl 5 (T.ds kids),.sl 1 (nms.map .str),.int .i64 pl])] (psS u L)=zd (zk6 (D.sl 1 (List.map D.str nms),[32])) λ b=>za (Sp.fit L.length L) (za (Sp.room L (92::(yp b.fst b.snd++([46,32]++[])))) (za (decide ((0:Int)<(↑(T.ds kids).length:Int))) (ze (T.ds kids) (0:Int).toNat λ y=>ze y.cells 0 λ c=>ze y.cells 1 λ c_1=>ze y.cells 2 λ c_2=>ze y.cells 3 λ c_3=>ze y.cells 4 λ c_4=>zd (zd (zi m (D.agg [c,c_1,c_2,c_3,c_4])) λ t=>za (Sp.right t) (some (Sp.text t (0:Int)))) λ s=>za (Sp.fit (Sp.app L (92::(yp b.fst b.snd++([46,32]++[])))).length (Sp.app L (92::(yp b.fst b.snd++([46,32]++[]))))) (za (Sp.room (Sp.app L (92::(yp b.fst b.snd++([46,32]++[])))) s) (some (Out.ret (V.tup []),[(0,Ob.val 187695107 (V.agg [V.ptr 0 0,V.sl 6291457 (Sp.app (Sp.app L (92::(yp b.fst b.snd++([46,32]++[])))) s) 1,V.d (D.bool false)])),(1,Ob.tok (Sp.app (Sp.app L (92::(yp b.fst b.snd++([46,32]++[])))) s).length)])))))):=by cases u <;> kernel_rfl
theorem z6l(n m:Nat)(L:List D)(u:Bool)(nm:List UInt8)(kids:List T)(nms:List (List UInt8))(pl:Int):zk cx (K71 m) n 163 [.ptr 0 0,.d (.agg [.int .i64 3,.str nm,.sl 5 (T.ds kids),.sl 1 (nms.map .str),.int .i64 pl])] (psS u L)=zd (zk6 (D.sl 1 (List.map D.str nms),[32])) λ b=>za (Sp.fit L.length L) (za (Sp.room L (60::(yp b.fst b.snd++([62,32]++[])))) (za (decide ((0:Int)<(↑(T.ds kids).length:Int))) (ze (T.ds kids) (0:Int).toNat λ y=>ze y.cells 0 λ c=>ze y.cells 1 λ c_1=>ze y.cells 2 λ c_2=>ze y.cells 3 λ c_3=>ze y.cells 4 λ c_4=>zd (zd (zi m (D.agg [c,c_1,c_2,c_3,c_4])) λ t=>za (Sp.right t) (some (Sp.text t (0:Int)))) λ s=>za (Sp.fit (Sp.app L (60::(yp b.fst b.snd++([62,32]++[])))).length (Sp.app L (60::(yp b.fst b.snd++([62,32]++[]))))) (za (Sp.room (Sp.app L (60::(yp b.fst b.snd++([62,32]++[])))) s) (some (Out.ret (V.tup []),[(0,Ob.val 187695107 (V.agg [V.ptr 0 0,V.sl 6291457 (Sp.app (Sp.app L (60::(yp b.fst b.snd++([62,32]++[])))) s) 1,V.d (D.bool false)])),(1,Ob.tok (Sp.app (Sp.app L (60::(yp b.fst b.snd++([62,32]++[])))) s).length)])))))):=by cases u <;> kernel_rfl
theorem z6k(n m:Nat)(L:List D)(u:Bool)(nm:List UInt8)(kids:List T)(nms:List (List UInt8))(pl:Int):zk cx (K71 m) n 163 [.ptr 0 0,.d (.agg [.int .i64 4,.str nm,.sl 5 (T.ds kids),.sl 1 (nms.map .str),.int .i64 pl])] (psS u L)=zd (zd (zi (m+1) (D.agg [D.int .i64 (4:Int),D.str nm,D.sl 5 (T.ds kids),D.sl 1 (List.map D.str nms),D.int .i64 pl])) λ t=>za (zc3 t) (some (zdu t [32,45,62,32]))) λ s=>za (Sp.fit L.length L) (za (Sp.room L s) (some (Out.ret (V.tup []),[(0,Ob.val 187695107 (V.agg [V.ptr 0 0,V.sl 6291457 (Sp.app L s) 1,V.d (D.bool false)])),(1,Ob.tok (Sp.app L s).length)]))):=by cases u <;> kernel_rfl
theorem z6j(n m:Nat)(L:List D)(u:Bool)(nm:List UInt8)(kids:List T)(nms:List (List UInt8))(pl:Int):zk cx (K71 m) n 163 [.ptr 0 0,.d (.agg [.int .i64 5,.str nm,.sl 5 (T.ds kids),.sl 1 (nms.map .str),.int .i64 pl])] (psS u L)=zd (zd (zi (m+1) (D.agg [D.int .i64 (5:Int),D.str nm,D.sl 5 (T.ds kids),D.sl 1 (List.map D.str nms),D.int .i64 pl])) λ t=>za (zc3 t) (some (zdu t [32,42,32]))) λ s=>za (Sp.fit L.length L) (za (Sp.room L s) (some (Out.ret (V.tup []),[(0,Ob.val 187695107 (V.agg [V.ptr 0 0,V.sl 6291457 (Sp.app L s) 1,V.d (D.bool false)])),(1,Ob.tok (Sp.app L s).length)]))):=by cases u <;> kernel_rfl
theorem z6i(n m:Nat)(L:List D)(u:Bool)(nm:List UInt8)(kids:List T)(nms:List (List UInt8))(pl:Int):zk cx (K71 m) n 163 [.ptr 0 0,.d (.agg [.int .i64 6,.str nm,.sl 5 (T.ds kids),.sl 1 (nms.map .str),.int .i64 pl])] (psS u L)=za (decide ((0:Int)<(↑(T.ds kids).length:Int))) (ze (T.ds kids) (0:Int).toNat λ y=>ze y.cells 0 λ c=>ze y.cells 1 λ c_1=>ze y.cells 2 λ c_2=>ze y.cells 3 λ c_3=>ze y.cells 4 λ c_4=>zd (zd (zi m (D.agg [c,c_1,c_2,c_3,c_4])) λ t=>za (Sp.right t) (some (Sp.text t (1:Int)))) λ s=>za (Sp.fit L.length L) (za (Sp.room L s) (za (Sp.fit (Sp.app L s).length (Sp.app L s)) (za (Sp.room (Sp.app L s) [32]) (za (decide ((1:Int)<(↑(T.ds kids).length:Int))) (ze (T.ds kids) (1:Int).toNat λ y=>ze y.cells 0 λ c=>ze y.cells 1 λ c_5=>ze y.cells 2 λ c_6=>ze y.cells 3 λ c_7=>ze y.cells 4 λ c_8=>zd (zd (zi m (D.agg [c,c_5,c_6,c_7,c_8])) λ t=>za (Sp.right t) (some (Sp.text t (2:Int)))) λ s_1=>za (Sp.fit (Sp.app (Sp.app L s) [32]).length (Sp.app (Sp.app L s) [32])) (za (Sp.room (Sp.app (Sp.app L s) [32]) s_1) (some (Out.ret (V.tup []),[(0,Ob.val 187695107 (V.agg [V.ptr 0 0,V.sl 6291457 (Sp.app (Sp.app (Sp.app L s) [32]) s_1) 1,V.d (D.bool false)])),(1,Ob.tok (Sp.app (Sp.app (Sp.app L s) [32]) s_1).length)]))))))))):=by cases u <;> kernel_rfl
theorem z6h(n m:Nat)(L:List D)(u:Bool)(nm:List UInt8)(kids:List T)(nms:List (List UInt8))(pl:Int):zk cx (K71 m) n 163 [.ptr 0 0,.d (.agg [.int .i64 7,.str nm,.sl 5 (T.ds kids),.sl 1 (nms.map .str),.int .i64 pl])] (psS u L)=za (decide ((0:Int)<(↑(T.ds kids).length:Int))) (ze (T.ds kids) (0:Int).toNat λ y=>ze y.cells 0 λ c=>ze y.cells 1 λ c_1=>ze y.cells 2 λ c_2=>ze y.cells 3 λ c_3=>ze y.cells 4 λ c_4=>zd (zd (zi m (D.agg [c,c_1,c_2,c_3,c_4])) λ t=>za (Sp.right t) (some (Sp.text t (1:Int)))) λ s=>za (Sp.fit L.length L) (za (Sp.room L s) (za (Sp.fit (Sp.app L s).length (Sp.app L s)) (za (Sp.room (Sp.app L s) [32,64,32]) (za (decide ((1:Int)<(↑(T.ds kids).length:Int))) (ze (T.ds kids) (1:Int).toNat λ y=>ze y.cells 0 λ c=>ze y.cells 1 λ c_5=>ze y.cells 2 λ c_6=>ze y.cells 3 λ c_7=>ze y.cells 4 λ c_8=>zd (zd (Sp.toC (D.agg [c,c_5,c_6,c_7,c_8])) λ t=>za (Sp.form t) (some (za3 t (2:Int)))) λ s_1=>za (Sp.fit (Sp.app (Sp.app L s) [32,64,32]).length (Sp.app (Sp.app L s) [32,64,32])) (za (Sp.room (Sp.app (Sp.app L s) [32,64,32]) s_1) (some (Out.ret (V.tup []),[(0,Ob.val 187695107 (V.agg [V.ptr 0 0,V.sl 6291457 (Sp.app (Sp.app (Sp.app L s) [32,64,32]) s_1) 1,V.d (D.bool false)])),(1,Ob.tok (Sp.app (Sp.app (Sp.app L s) [32,64,32]) s_1).length)]))))))))):=by cases u <;> kernel_rfl
theorem z6g(n m:Nat)(L:List D)(u:Bool)(nm:List UInt8)(kids:List T)(nms:List (List UInt8))(pl:Int):zk cx (K71 m) n 163 [.ptr 0 0,.d (.agg [.int .i64 8,.str nm,.sl 5 (T.ds kids),.sl 1 (nms.map .str),.int .i64 pl])] (psS u L)=zd (zd (zi (m+1) (D.agg [D.int .i64 (8:Int),D.str nm,D.sl 5 (T.ds kids),D.sl 1 (List.map D.str nms),D.int .i64 pl])) λ t=>za (zc2 t) (some (zdq t [44,32]))) λ s=>za (Sp.fit L.length L) (za (Sp.room L s) (some (Out.ret (V.tup []),[(0,Ob.val 187695107 (V.agg [V.ptr 0 0,V.sl 6291457 (Sp.app L s) 1,V.d (D.bool false)])),(1,Ob.tok (Sp.app L s).length)]))):=by cases u <;> kernel_rfl
theorem z6f(n m:Nat)(L:List D)(u:Bool)(nm:List UInt8)(kids:List T)(nms:List (List UInt8))(pl:Int):zk cx (K71 m) n 163 [.ptr 0 0,.d (.agg [.int .i64 9,.str nm,.sl 5 (T.ds kids),.sl 1 (nms.map .str),.int .i64 pl])] (psS u L)=zd (zd (zi (m+1) (D.agg [D.int .i64 (9:Int),D.str nm,D.sl 5 (T.ds kids),D.sl 1 (List.map D.str nms),D.int .i64 pl])) λ t=>za (zc2 t) (some (zdq t [32,58,32]))) λ s=>za (Sp.fit L.length L) (za (Sp.room L s) (some (Out.ret (V.tup []),[(0,Ob.val 187695107 (V.agg [V.ptr 0 0,V.sl 6291457 (Sp.app L s) 1,V.d (D.bool false)])),(1,Ob.tok (Sp.app L s).length)]))):=by cases u <;> kernel_rfl
theorem z3u(n m:Nat)(L:List D)(u:Bool)(nm:List UInt8)(kids:List T)(nms:List (List UInt8))(pl:Int):zk cx (K71 m) n 163 [.ptr 0 0,.d (.agg [.int .i64 10,.str nm,.sl 5 (T.ds kids),.sl 1 (nms.map .str),.int .i64 pl])] (psS u L)=zd (zd (zi (m+1) (D.agg [D.int .i64 (10:Int),D.str nm,D.sl 5 (T.ds kids),D.sl 1 (List.map D.str nms),D.int .i64 pl])) λ t=>za (zhs t) (some (zix t))) λ s=>za (Sp.fit L.length L) (za (Sp.room L s) (some (Out.ret (V.tup []),[(0,Ob.val 187695107 (V.agg [V.ptr 0 0,V.sl 6291457 (Sp.app L s) 1,V.d (D.bool false)])),(1,Ob.tok (Sp.app L s).length)]))):=by cases u <;> kernel_rfl
theorem xx{L:List D}{s:List UInt8}(h:L.length+s.length≤65536):Sp.room L s=true:=pa h
theorem room_le{L:List D}{s:List UInt8}(h:Sp.room L s=true):L.length+s.length≤65536:=pc h
theorem zkd{k:Int}{nm:List UInt8}{kids:List T}{nms:List (List UInt8)}{pl:Int}(h:Sp.right (.mk k nm kids nms pl)=true)(hk:k=4∨k=5∨k=6∨k=8∨k=9) :
  ∃ a b,kids=[a,b]∧Sp.right a=true∧Sp.right b=true:=by
 rcases kids with _ | ⟨a,_ | ⟨b,_ | ⟨c,l⟩⟩⟩ <;> rcases hk with rfl | rfl | rfl | rfl | rfl <;> simp [Sp.right] at h ⊢
 all_goals exact ⟨a,b,⟨rfl,rfl⟩,h.2.1.2,h.2.2⟩
theorem z7s{m:Nat}(hm:knows cx (KT m).S (zh cx)){u:Bool}{L:List D}{t:T}{s:List UInt8}(hd:t.depth≤m+1)(ho:t.ok=true)(hi:zc2 t=true)(hr:Sp.room L (zdq t s)=true) :
  zh cx 195 [.ptr 0 0,.d t.d,.d (.str s)] (psS u L)=some (.ret (.tup []),psS true (Sp.app L (zdq t s))):=by
 obtain ⟨k,nm,kids,nms,pl⟩:=t;obtain ⟨h1,h2,h3,h4,h5⟩:=zad ho;have hkd:=za0 hd;simp only [zc2,zvj,ph,Bool.or_eq_true] at hi;obtain ⟨a,b,rfl,ha,hb⟩:=zkd hi.1 (by rcases hi.2 with h | h <;> have:=pc h <;> omega)
 have hT:∀ t∈[a,b],zi m t.d=some t:=λ t h=>zc0 hkd h5 h;have hlen:=room_le hr;simp only [zdq,zfm,wa [a,b] 0 0 a rfl,wa [a,b] 0 1 b rfl,pe,List.length_cons,List.length_nil] at hlen;refine zl hm (N:=0) ?_;refine (yat 0 m L u k nm [a,b] nms pl s).trans ?_;simp only [zdq,zfm,wa [a,b] 0 0 a rfl,wa [a,b] 0 1 b rfl];have e0:decide ((0:Int)<((T.ds [a,b]).length:Int))=true:=by rw [yc]; rfl
 have e1:decide ((1:Int)<((T.ds [a,b]).length:Int))=true:=by rw [yc]; rfl
 have n0:[a,b][(0:Int).toNat]?=some a:=rfl;have n1:[a,b][(1:Int).toNat]?=some b:=rfl;simp only [e0,e1,yu,n0,n1,xa,vq,zbm,zbt,zbs,zbr,za2,hT a (by simp),hT b (by simp),zd,za,cond_true,zz,ha,hb]
 simp (disch:=(simp only [xl,pe,List.length_cons,List.length_nil]; omega)) only [xx,cond_true];simp [xb,psS,adV]
theorem z7z(t:T)(h:t.ok=true):zh cx 161 [.d t.d] []=some (.ret (mkI (zeo t.k)),[]):=by
 obtain ⟨k,nm,kids,nms,pl⟩:=t;refine zl zq (N:=0) ?_;refine (g69 0 k nm kids nms pl).trans ?_;simp only [zvj,mkI,zeo];have hk:k=2∨k=3∨k=4∨k=5∨k=6∨k=7∨(k ≠ 2∧k ≠ 3∧k ≠ 4∧k ≠ 5∧k ≠ 6∧k ≠ 7):=by omega
 rcases hk with rfl | rfl | rfl | rfl | rfl | rfl | ⟨q1,q2,q3,q4,q5,q6⟩ <;> simp [*]
theorem z5x(k:Int):zh cx 217 [.d (.int .i64 k)] []=some (.ret (mkI (zb6 k)),[]):=by
 refine zl zq (N:=0) ?_;refine (ya5 0 k).trans ?_;simp only [mkI,zb6];cases decide (k=14) <;> cases decide (k=15) <;> rfl
theorem za4:knows cx K91.S (zh cx):=by
 have h107:=zj (f:=217) (dec:=z18) (sp:=some) (mk:=λ k=>mkI (zb6 k)) zzq λ a q b hd h hb=>by
  cases hb;unfold z18 at h;split at h
  ·cases h; exact z5x _
  ·cases h
 exact zj h107 λ a q b hd h hb=>by
  obtain rfl:=qj h;obtain ⟨rfl,h1⟩:=wl hb;exact z7z b h1
theorem zyv{k:Int}{nm:List UInt8}{kids:List T}{nms:List (List UInt8)}{pl:Int}(h:Sp.form (.mk k nm kids nms pl)=true) :
  (kids=[]∧(k=1∨k=17))∨(∃ a,kids=[a]∧k=16∧Sp.form a=true)∨(∃ a b,kids=[a,b]∧(k=14∨k=15)∧Sp.form a=true∧Sp.form b=true):=by
 rcases kids with _ | ⟨a,_ | ⟨b,_ | ⟨c,l⟩⟩⟩ <;> simp [Sp.form] at h ⊢
 ·rcases h.2 with h | h <;> simp [h.1]
 ·exact ⟨h.1.1.1,h.2⟩
 ·exact ⟨a,b,⟨rfl,rfl⟩,h.1.1.1.1,h.1.2,h.2⟩
theorem z5w{m:Nat}(hm:knows cx (KM m).S (zh cx)){u:Bool}{L:List D}{t:T}(hd:t.depth≤m+1)(ho:t.ok=true)(hi:Sp.form t=true)(hr:Sp.room L (xw t)=true) :
  zh cx 218 [.ptr 0 0,.ptr 1 0] (zer u L t.d)=some (.ret (.tup []),zer true (Sp.app L (xw t)) t.d):=by
 obtain ⟨k,nm,kids,nms,pl⟩:=t;obtain ⟨h1,h2,h3,h4,h5⟩:=zad ho;have hkd:=za0 hd;have hT:∀ t∈kids,zi m t.d=some t:=λ t h=>zc0 hkd h5 h;have hlen:=room_le hr;refine zl hm (N:=0) ?_;refine (z9d 0 m L u k nm kids nms pl).trans ?_;rcases zyv hi with ⟨rfl,hk⟩ | ⟨a,rfl,rfl,ha⟩ | ⟨a,b,rfl,hk,ha,hb⟩
 ·have e:xw (.mk k nm [] nms pl)=nm:=by rcases hk with rfl | rfl <;> simp [xw]
  rw [e] at hlen ⊢;rw [pb (p:=k=16) (by omega),pb (p:=k=15) (by omega),pb (p:=k=14) (by omega)]
  simp only [cond_false,zz,za,cond_true,List.append_nil];rw [xx hlen];simp [zer,T.d,T.ds]
 ·have e:xw (.mk 16 nm [a] nms pl)=[126]++za3 a 2:=by simp [xw,←zkw [a] 2 0 a rfl]
  rw [e] at hlen ⊢;simp only [pe,List.length_cons,List.length_nil] at hlen;have e0:decide ((0:Int)<((T.ds [a]).length:Int))=true:=by rw [yc]; rfl
  have n0:[a][(0:Int).toNat]?=some a:=rfl;simp only [decide_true,e0,yu,n0,xa,vq,zbm,zbt,zbs,zbr,za2,hT a (by simp),zd,za,cond_true,zz,ha]
  simp (disch:=((try simp only [xl,pe,List.length_cons,List.length_nil]); omega)) only [xx,cond_true]
  simp [xb,zer,T.d]
 ·have e0:decide ((0:Int)<((T.ds [a,b]).length:Int))=true:=by rw [yc]; rfl
  have e1:decide ((1:Int)<((T.ds [a,b]).length:Int))=true:=by rw [yc]; rfl
  have n0:[a,b][(0:Int).toNat]?=some a:=rfl;have n1:[a,b][(1:Int).toNat]?=some b:=rfl;rcases hk with rfl | rfl
  ·have e:xw (.mk 14 nm [a,b] nms pl)=za3 a 0++[32,92,47,32]++za3 b 1:=by simp [xw,←zkw [a,b] 0 0 a rfl,←zkw [a,b] 1 1 b rfl]
   rw [e] at hlen ⊢;simp only [pe,List.length_cons,List.length_nil] at hlen;simp only [Int.reduceEq,decide_false,cond_false,decide_true,e0,e1,yu,n0,n1,xa,vq,zbm,zbt,zbs,zbr,za2,hT a (by simp),hT b (by simp),zd,za,cond_true,zz,ha,hb]
   simp (disch:=((try simp only [xl,pe,List.length_cons,List.length_nil]); omega)) only [xx,cond_true]
   simp [xb,zer,T.d]
  ·have e:xw (.mk 15 nm [a,b] nms pl)=za3 a 1++[32,47,92,32]++za3 b 2:=by simp [xw,←zkw [a,b] 1 0 a rfl,←zkw [a,b] 2 1 b rfl]
   rw [e] at hlen ⊢;simp only [pe,List.length_cons,List.length_nil] at hlen;simp only [Int.reduceEq,decide_false,cond_false,decide_true,e0,e1,yu,n0,n1,xa,vq,zbm,zbt,zbs,zbr,za2,hT a (by simp),hT b (by simp),zd,za,cond_true,zz,ha,hb]
   simp (disch:=((try simp only [xl,pe,List.length_cons,List.length_nil]); omega)) only [xx,cond_true]
   simp [xb,zer,T.d]
theorem zj0(b:Bool)(s:List UInt8):(yw b s).length=s.length+bif b then 2 else 0:=by cases b <;> simp [yw]
theorem z5q{m:Nat}(hc:knows cx (clK 218 zn2 zms zer (λ _ x=>zwx m x) K91).S (zh cx)){u b:Bool}{L:List D}{t:T}(hd:t.depth≤m)(ho:t.ok=true)(hi:Sp.form t=true)(hr:Sp.room L (yw b (xw t))=true) :
  zh cx 160 [.ptr 0 0,.d (.bool b),.func 218 [.ptr 2 0,.ptr 3 0]] (psF u L t.d)=some (.ret (.tup []),psF true (Sp.app L (yw b (xw t))) t.d):=by
 have hT:=zd0 hd ho;have hlen:=room_le hr;rw [zj0] at hlen;refine zl hc (N:=0) ?_;obtain ⟨k,nm,kids,nms,pl⟩:=t;refine (z9a 0 m L u k nm kids nms pl b).trans ?_;simp only [T.d] at hT;cases b
 ·simp only [cond_false] at hlen;simp only [hT,zd,za,hi,cond_true,cond_false,zz];simp (disch:=((try simp only [xl,pe,List.length_cons,List.length_nil]); omega)) only [xx,cond_true]
  simp [xb,psF,psS,adV,T.d,yw]
 ·simp only [cond_true] at hlen;simp only [hT,zd,za,hi,cond_true,cond_false,zz];simp (disch:=((try simp only [xl,pe,List.length_cons,List.length_nil]); omega)) only [xx,cond_true]
  simp [xb,psF,psS,adV,T.d,yw]
theorem zwt{m:Nat}(h:∀ {u L t},t.depth≤m→t.ok=true→Sp.form t=true→Sp.room L (xw t)=true→zh cx 218 [.ptr 0 0,.ptr 1 0] (zer u L t.d)=some (.ret (.tup []),zer true (Sp.app L (xw t)) t.d)) :
  knows cx (yaf m).S (zh cx):=by
 have hc:knows cx (clK 218 zn2 zms zer (λ _ x=>zwx m x) K91).S (zh cx):=zda za4 zs4 λ a b x s u L ha hs hr=>by
  obtain rfl:=zug ha;obtain ⟨t,ht,hs⟩:=zb hs;obtain ⟨hf,hs⟩:=zc hs;cases hs;obtain ⟨rfl,h1,h2⟩:=y6 ht;exact h h1 h2 hf hr
 exact zda za4 zx8 λ a b x s u L ha hs hr=>by
  obtain rfl:=zip ha;obtain ⟨s',hs',hs⟩:=zb hs;cases hs;obtain ⟨t,ht,hs'⟩:=zb hs';obtain ⟨hf,hs'⟩:=zc hs';cases hs';obtain ⟨rfl,h1,h2⟩:=y6 ht;exact z5q hc h1 h2 hf hr
theorem z4u:∀ (m:Nat) (u:Bool) (L:List D) (t:T) (a:Int),t.depth≤m→t.ok=true→Sp.form t=true→Sp.room L (za3 t a)=true →
  zh cx 194 [.ptr 0 0,.d t.d,.d (.int .i64 a)] (psS u L)=some (.ret (.tup []),psS true (Sp.app L (za3 t a)))
 | 0,_,_,.mk ..,_,h,_,_,_=>by simp [T.depth] at h
 | m+1,u,L,t,a,hd,ho,hi,hr=>by
  have hm:knows cx (KM m).S (zh cx):=qf za4 λ a q s u L ha hs hr=>by
   obtain ⟨x,n⟩:=q;obtain rfl:=zft ha;obtain ⟨t,ht,hs⟩:=zb hs;obtain ⟨hf,hs⟩:=zc hs;cases hs;obtain ⟨rfl,h1,h2⟩:=y6 ht;exact z4u m u L t n h1 h2 hf hr
  have hK:=zwt (m:=m+1) λ h1 h2 h3 h4=>z5w hm h1 h2 h3 h4;have hT:=zd0 hd ho;refine zl hK (N:=0) ?_;obtain ⟨k,nm,kids,nms,pl⟩:=t;refine (yau 0 (m+1) L u k nm kids nms pl a).trans ?_;simp only [T.d] at hT;have hr:Sp.room L (yw (decide (zb6 k<a)) (xw (.mk k nm kids nms pl)))=true:=hr;show _=some (Out.ret (V.tup []),psS true (Sp.app L (yw (decide (zb6 k<a)) (xw (.mk k nm kids nms pl)))));simp only [hT,zd,za,hi,cond_true,zz,hr];rfl
theorem ze1{k:Int}{nm:List UInt8}{kids:List T}{nms:List (List UInt8)}{pl:Int}:(T.mk k nm kids nms pl).d.cells=[.int .i64 k,.str nm,.sl 5 (T.ds kids),.sl 1 (nms.map .str),.int .i64 pl]:=rfl
theorem zk0(s:List UInt8):(D.str s).cells=[.str s]:=rfl
theorem zrn(t:T):T.mk t.k t.nm t.kids t.nms t.pl=t:=by cases t; rfl
theorem zsd{k:Int}{nm:List UInt8}{kids:List T}{nms:List (List UInt8)}{pl:Int}:D.agg [.int .i64 k,.str nm,.sl 5 (T.ds kids),.sl 1 (nms.map .str),.int .i64 pl]=(T.mk k nm kids nms pl).d:=rfl
theorem zx5{k : Int}{nm : List UInt8}{kids : List T}{nms : List (List UInt8)}{pl : Int}(h : Sp.right (.mk k nm kids nms pl) = true)(hk : k = 4 ∨ k = 5) : nms = [] ∨ ∃ x, nms = [x] := by
  rcases kids with _ | ⟨a, _ | ⟨b, _ | ⟨c, l⟩⟩⟩ <;> rcases hk with rfl | rfl <;> simp [Sp.right] at h
  all_goals (rcases nms with _ | ⟨x, _ | ⟨y, r⟩⟩
             · exact .inl rfl
             · exact .inr ⟨x, rfl⟩
             · have := h.2.1.1.1; simp at this; omega)
theorem z5r{m:Nat}(hc:knows cx (clK 216 zlu zlh zre (λ _ x=>z0l m (x,1)) K91).S (zh cx)){u b:Bool}{L:List D}{t:T}(hd:t.depth≤m)(ho:t.ok=true)(hi:Sp.right t=true)(hr:Sp.room L (yw b (Sp.text t 1))=true) :
  zh cx 160 [.ptr 0 0,.d (.bool b),.func 216 [.ptr 2 0,.ptr 3 0]] (psB u L t.d)=some (.ret (.tup []),psB true (Sp.app L (yw b (Sp.text t 1))) t.d):=by
 have hT:=zd0 hd ho;have hlen:=room_le hr;rw [zj0] at hlen;refine zl hc (N:=0) ?_;obtain ⟨k,nm,kids,nms,pl⟩:=t;refine (z9b 0 m L u k nm kids nms pl b).trans ?_;simp only [T.d] at hT;cases b
 ·simp only [cond_false] at hlen;simp only [hT,zd,za,hi,cond_true,cond_false,zz];simp (disch:=((try simp only [xl,pe,List.length_cons,List.length_nil]); omega)) only [xx,cond_true]
  simp [xb,psB,psS,adV,T.d,yw]
 ·simp only [cond_true] at hlen;simp only [hT,zd,za,hi,cond_true,cond_false,zz];simp (disch:=((try simp only [xl,pe,List.length_cons,List.length_nil]); omega)) only [xx,cond_true]
  simp [xb,psB,psS,adV,T.d,yw]
theorem zwu{m:Nat}(hm:knows cx (KT m).S (zh cx)):knows cx (yag m).S (zh cx):=by
 have hc:knows cx (clK 216 zlu zlh zre (λ _ x=>z0l m (x,1)) K91).S (zh cx):=zda za4 zmr λ a b x s u L ha hs hr=>by
  obtain rfl:=zn0 ha;obtain ⟨t,ht,hs⟩:=zb hs;obtain ⟨hf,hs⟩:=zc hs;cases hs;obtain ⟨rfl,h1,h2⟩:=y6 ht;have hT:=zd0 h1 h2;refine zl hm (N:=0) ?_;obtain ⟨k,nm,kids,nms,pl⟩:=t;refine (z9e 0 m L u k nm kids nms pl).trans ?_;simp only [T.d] at hT;simp only [hT,zd,za,hf,cond_true,zz,hr];rfl
 exact zda hm zpo λ a b x s u L ha hs hr=>by
  obtain rfl:=zip ha;obtain ⟨s',hs',hs⟩:=zb hs;cases hs;obtain ⟨t,ht,hs'⟩:=zb hs';obtain ⟨hf,hs'⟩:=zc hs';cases hs';obtain ⟨rfl,h1,h2⟩:=y6 ht;exact z5r hc h1 h2 hf hr
theorem z7t{m:Nat}(hm:knows cx (KT m).S (zh cx)){u:Bool}{L:List D}{t:T}{s:List UInt8}(hd:t.depth≤m+1)(ho:t.ok=true)(hi:zc3 t=true)(hr:Sp.room L (zdu t s)=true) :
  zh cx 193 [.ptr 0 0,.d t.d,.d (.str s)] (psS u L)=some (.ret (.tup []),psS true (Sp.app L (zdu t s))):=by
 obtain ⟨k,nm,kids,nms,pl⟩:=t;obtain ⟨h1,h2,h3,h4,h5⟩:=zad ho;have hkd:=za0 hd;simp only [zc3,zvj,ph,Bool.or_eq_true] at hi;have hk:k=4∨k=5:=by rcases hi.2 with h | h <;> have:=pc h <;> omega
 obtain ⟨a,b,rfl,ha,hb⟩:=zkd hi.1 (by omega)
 have hT:∀ t∈[a,b],zi m t.d=some t:=λ t h=>zc0 hkd h5 h;have hlen:=room_le hr;simp only [zdu,wa [a,b] 0 0 a rfl,wa [a,b] 1 0 a rfl,wa [a,b] 0 1 b rfl] at hlen;refine zl (zwu hm) (N:=0) ?_;refine (yav 0 m L u k nm [a,b] nms pl s).trans ?_;simp only [zdu,wa [a,b] 0 0 a rfl,wa [a,b] 1 0 a rfl,wa [a,b] 0 1 b rfl];have e0:decide ((0:Int)<((T.ds [a,b]).length:Int))=true:=by rw [yc]; rfl
 have e1:decide ((1:Int)<((T.ds [a,b]).length:Int))=true:=by rw [yc]; rfl
 have n0:[a,b][(0:Int).toNat]?=some a:=rfl;have n1:[a,b][(1:Int).toNat]?=some b:=rfl;rcases zx5 hi.1 hk with rfl | ⟨x,rfl⟩
 ·have hl0:decide ((([]:List (List UInt8)).map D.str).length=(1:Int))=false:=rfl;simp only [List.length_nil,Nat.zero_ne_one,decide_false,cond_false,pe,zj0] at hlen ⊢;by_cases h9:a.k=9
  ·obtain ⟨k',nm',kids',nms',pl'⟩:=a;simp only [zvj] at h9;subst h9;obtain ⟨c,d,rfl,_,_⟩:=zkd ha (by omega)
   have e2:decide ((0:Int)<((T.ds [c,d]).length:Int))=true:=by rw [yc]; rfl
   have n2:[c,d][(0:Int).toNat]?=some c:=rfl;have ea:zbk [.mk 9 nm' [c,d] nms' pl',b]=decide (c.k=1):=by
    obtain ⟨k3,_,_,_,_⟩:=c;simp only [zbk,decide_true,Bool.true_and]; rfl
   simp only [hl0,e0,e1,e2,yu,n0,n1,n2,↓ze1,xa,vq,zbm,zbt,zbs,zbr,zsd,zrn,hT _ (pn ..),hT b (by simp),zd,za,cond_true,cond_false,zz,ha,hb,decide_true,zpl,Bool.true_or]
   rw [ea] at hlen ⊢;generalize decide (c.k=1)=q at hlen ⊢;cases q
   ·simp only [cond_false,yw] at hlen ⊢;simp (disch:=((try simp only [xl,pe,List.length_cons,List.length_nil]); omega)) only [xx,cond_true]
    simp [xb,psS,adV]
   ·simp only [cond_true,yw] at hlen ⊢;simp (disch:=((try simp only [xl,pe,List.length_cons,List.length_nil]); omega)) only [xx,cond_true]
    simp [xb,psS,adV]
  ·have ea:zbk [a,b]=false:=by
    obtain ⟨k',nm',kids',nms',pl'⟩:=a;simp only [zvj] at h9;rcases kids' with _ | ⟨⟨_,_,_,_,_⟩,_⟩ <;> simp [zbk,h9]
   simp only [hl0,e0,e1,yu,n0,n1,xa,vq,zbm,zbt,zbs,zbr,za2,hT a (by simp),hT b (by simp),zd,za,cond_true,cond_false,zz,ha,hb,decide_true]
   rw [ea] at hlen ⊢;rw [pb h9];simp only [decide_true,cond_true,cond_false,yw] at hlen ⊢;simp (disch:=((try simp only [xl,pe,List.length_cons,List.length_nil]); omega)) only [xx,cond_true]
   simp [xb,psS,adV]
 ·simp only [List.length_cons,List.length_nil,Nat.zero_add,decide_true,cond_true,pe] at hlen ⊢;have nx:[x][(0:Int).toNat]?=some x:=rfl;have ex:Sp.at [x] 0=x:=rfl;rw [ex] at hlen ⊢;simp only [e0,e1,yu,n0,n1,xa,vq,zbm,zbt,zbs,zbr,za2,hT a (by simp),hT b (by simp),zd,za,cond_true,zz,ha,hb,pf,zyl,zyk,qg,nx,List.length_cons,List.length_nil,Nat.lt_add_one,decide_true,zk0]
  simp (disch:=((try simp only [xl,pe,List.length_cons,List.length_nil]); omega)) only [xx,cond_true]
  simp [xb,psS,adV]
theorem yas(n m:Nat)(L:List D)(u:Bool)(k:Int)(nm:List UInt8)(kids:List T)(nms:List (List UInt8))(pl:Int):zk cx (KT m) n 196 [.ptr 0 0,.d (.agg [.int .i64 k,.str nm,.sl 5 (T.ds kids),.sl 1 (nms.map .str),.int .i64 pl])] (psS u L)=za (Sp.fit L.length L) (za (Sp.room L [91]) (LP cx (KT m) n 196 2 3 n [(0,V.ptr 0 0),(12,V.d (D.sl 5 (T.ds kids))),(13,V.d (D.int .i64 (↑(T.ds kids).length:Int))),(14,V.d (D.int .i64 (0:Int)))] [(0,Ob.val 187695107 (V.agg [V.ptr 0 0,V.sl 6291457 (Sp.app L [91]) 1,V.d (D.bool false)])),(1,Ob.tok (Sp.app L [91]).length)] (AK cx (KT m) n 196 2 3 (EK cx 196 2)))):=by cases u <;> kernel_rfl
theorem l94(n m r:Nat)(L:List D)(kids:List T)(i:Int):LP cx (KT m) n 196 2 3 (r+1) [(0,V.ptr 0 0),(12,V.d (D.sl 5 (T.ds kids))),(13,V.d (D.int .i64 (kids.length:Int))),(14,V.d (D.int .i64 i))] (psS true L) (AK cx (KT m) n 196 2 3 (EK cx 196 2))=bif decide (i<(↑kids.length:Int)) then za (decide (0≤i)&&decide (i<(↑(T.ds kids).length:Int))) (ze (T.ds kids) i.toNat λ y=>ze y.cells 0 λ c=>ze y.cells 1 λ c_1=>ze y.cells 2 λ c_2=>ze y.cells 3 λ c_3=>ze y.cells 4 λ c_4=>bif decide ((0:Int)<i) then za (Sp.fit L.length L) (za (Sp.room L [44,32]) (match c_2 with
 | D.sl s l=>bif s.beq (cx.P.cellsOf 26)||l.isEmpty then za (decide ((0:Int)<(↑l.length:Int))) (ze l (0:Int).toNat λ y=>ze y.cells 2 λ c_5=>match c_5 with
  | D.sl s l=>bif s.beq (cx.P.cellsOf 26)||l.isEmpty then bif decide ((↑l.length:Int)=(0:Int)) then za (Sp.fit (Sp.app L [44,32]).length (Sp.app L [44,32])) (za (Sp.room (Sp.app L [44,32]) [49]) (match c_2 with
   | D.sl s l=>bif s.beq (cx.P.cellsOf 26)||l.isEmpty then za (decide ((0:Int)<(↑l.length:Int))) (ze l (0:Int).toNat λ y=>ze y.cells 2 λ c_6=>match c_6 with
    | D.sl s l=>bif s.beq (cx.P.cellsOf 26)||l.isEmpty then LP cx (KT m) n 196 2 10 n [(0,V.ptr 0 0),(5,V.ptr 7 0),(12,V.d (D.sl 5 (T.ds kids))),(13,V.d (D.int .i64 (↑kids.length:Int))),(14,V.d (D.int .i64 i)),(38,V.d (D.sl 5 l)),(39,V.d (D.int .i64 (↑l.length:Int))),(40,V.d (D.int .i64 (0:Int)))] [(0,Ob.val 187695107 (V.agg [V.ptr 0 0,V.sl 6291457 (Sp.app (Sp.app L [44,32]) [49]) 1,V.d (D.bool false)])),(1,Ob.tok (Sp.app (Sp.app L [44,32]) [49]).length),(7,Ob.val 5 (V.d (D.agg [c,c_1,c_2,c_3,c_4])))] (AL cx (KT m) n 196 2 3 10 (inK cx (KT m) n 196 2 3 r (AK cx (KT m) n 196 2 3 (EK cx 196 2)))) else none
    | x=>none) else none
   | x=>none)) else match c_2 with
   | D.sl s l=>bif s.beq (cx.P.cellsOf 26)||l.isEmpty then za (decide ((0:Int)<(↑l.length:Int))) (ze l (0:Int).toNat λ y=>ze y.cells 2 λ c_6=>match c_6 with
    | D.sl s l=>bif s.beq (cx.P.cellsOf 26)||l.isEmpty then LP cx (KT m) n 196 2 10 n [(0,V.ptr 0 0),(5,V.ptr 7 0),(12,V.d (D.sl 5 (T.ds kids))),(13,V.d (D.int .i64 (↑kids.length:Int))),(14,V.d (D.int .i64 i)),(38,V.d (D.sl 5 l)),(39,V.d (D.int .i64 (↑l.length:Int))),(40,V.d (D.int .i64 (0:Int)))] [(0,Ob.val 187695107 (V.agg [V.ptr 0 0,V.sl 6291457 (Sp.app L [44,32]) 1,V.d (D.bool false)])),(1,Ob.tok (Sp.app L [44,32]).length),(7,Ob.val 5 (V.d (D.agg [c,c_1,c_2,c_3,c_4])))] (AL cx (KT m) n 196 2 3 10 (inK cx (KT m) n 196 2 3 r (AK cx (KT m) n 196 2 3 (EK cx 196 2)))) else none
    | x=>none) else none
   | x=>none else none
  | x=>none) else none
 | x=>none)) else match c_2 with
 | D.sl s l=>bif s.beq (cx.P.cellsOf 26)||l.isEmpty then za (decide ((0:Int)<(↑l.length:Int))) (ze l (0:Int).toNat λ y=>ze y.cells 2 λ c_5=>match c_5 with
  | D.sl s l=>bif s.beq (cx.P.cellsOf 26)||l.isEmpty then bif decide ((↑l.length:Int)=(0:Int)) then za (Sp.fit L.length L) (za (Sp.room L [49]) (match c_2 with
   | D.sl s l=>bif s.beq (cx.P.cellsOf 26)||l.isEmpty then za (decide ((0:Int)<(↑l.length:Int))) (ze l (0:Int).toNat λ y=>ze y.cells 2 λ c_6=>match c_6 with
    | D.sl s l=>bif s.beq (cx.P.cellsOf 26)||l.isEmpty then LP cx (KT m) n 196 2 10 n [(0,V.ptr 0 0),(5,V.ptr 7 0),(12,V.d (D.sl 5 (T.ds kids))),(13,V.d (D.int .i64 (↑kids.length:Int))),(14,V.d (D.int .i64 i)),(38,V.d (D.sl 5 l)),(39,V.d (D.int .i64 (↑l.length:Int))),(40,V.d (D.int .i64 (0:Int)))] [(0,Ob.val 187695107 (V.agg [V.ptr 0 0,V.sl 6291457 (Sp.app L [49]) 1,V.d (D.bool false)])),(1,Ob.tok (Sp.app L [49]).length),(7,Ob.val 5 (V.d (D.agg [c,c_1,c_2,c_3,c_4])))] (AL cx (KT m) n 196 2 3 10 (inK cx (KT m) n 196 2 3 r (AK cx (KT m) n 196 2 3 (EK cx 196 2)))) else none
    | x=>none) else none
   | x=>none)) else match c_2 with
   | D.sl s l=>bif s.beq (cx.P.cellsOf 26)||l.isEmpty then za (decide ((0:Int)<(↑l.length:Int))) (ze l (0:Int).toNat λ y=>ze y.cells 2 λ c_6=>match c_6 with
    | D.sl s l=>bif s.beq (cx.P.cellsOf 26)||l.isEmpty then LP cx (KT m) n 196 2 10 n [(0,V.ptr 0 0),(5,V.ptr 7 0),(12,V.d (D.sl 5 (T.ds kids))),(13,V.d (D.int .i64 (↑kids.length:Int))),(14,V.d (D.int .i64 i)),(38,V.d (D.sl 5 l)),(39,V.d (D.int .i64 (↑l.length:Int))),(40,V.d (D.int .i64 (0:Int)))] [(0,Ob.val 187695107 (V.agg [V.ptr 0 0,V.sl 6291457 L 1,V.d (D.bool false)])),(1,Ob.tok L.length),(7,Ob.val 5 (V.d (D.agg [c,c_1,c_2,c_3,c_4])))] (AL cx (KT m) n 196 2 3 10 (inK cx (KT m) n 196 2 3 r (AK cx (KT m) n 196 2 3 (EK cx 196 2)))) else none
    | x=>none) else none
   | x=>none else none
  | x=>none) else none
 | x=>none) else za (Sp.fit L.length L) (za (Sp.room L [93]) (some (Out.ret (V.tup []),[(0,Ob.val 187695107 (V.agg [V.ptr 0 0,V.sl 6291457 (Sp.app L [93]) 1,V.d (D.bool false)])),(1,Ob.tok (Sp.app L [93]).length)]))):=by kernel_rfl
theorem i94(n m r q:Nat)(L:List D)(kids qs kids':List T)(i j k' pl':Int)(nm':List UInt8)(nms':List (List UInt8)):LP cx (KT m) n 196 2 10 (q+1) [(0,V.ptr 0 0),(5,V.ptr 7 0),(12,V.d (D.sl 5 (T.ds kids))),(13,V.d (D.int .i64 (kids.length:Int))),(14,V.d (D.int .i64 i)),(38,V.d (D.sl 5 (T.ds qs))),(39,V.d (D.int .i64 (qs.length:Int))),(40,V.d (D.int .i64 j))] [(0,Ob.val 187695107 (V.agg [V.ptr 0 0,V.sl 6291457 L 1,V.d (D.bool false)])),(1,Ob.tok L.length),(7,Ob.val 5 (V.d (D.agg [D.int .i64 k',D.str nm',D.sl 5 (T.ds kids'),D.sl 1 (nms'.map .str),D.int .i64 pl'])))] (AL cx (KT m) n 196 2 3 10 (inK cx (KT m) n 196 2 3 r (AK cx (KT m) n 196 2 3 (EK cx 196 2))))=bif decide (j<(↑qs.length:Int)) then za (decide (0≤j)&&decide (j<(↑(T.ds qs).length:Int))) (ze (T.ds qs) j.toNat λ y=>ze y.cells 0 λ c=>ze y.cells 1 λ c=>ze y.cells 2 λ c_1=>ze y.cells 3 λ c_2=>ze y.cells 4 λ c_3=>match c with
 | D.str s=>match c_2 with
  | D.sl s_1 l=>bif s_1.beq (cx.P.cellsOf 9)||l.isEmpty then za (decide ((0:Int)<(↑l.length:Int))) (ze l (0:Int).toNat λ y=>ze y.cells 0 λ c=>match c with
   | D.str s_2=>za (Sp.fit L.length L) (za (Sp.room L (40::(s++([61]++(s_2++([41]++[])))))) (LP cx (KT m) n 196 2 10 q [(0,V.ptr 0 0),(5,V.ptr 7 0),(12,V.d (D.sl 5 (T.ds kids))),(13,V.d (D.int .i64 (↑kids.length:Int))),(14,V.d (D.int .i64 i)),(38,V.d (D.sl 5 (T.ds qs))),(39,V.d (D.int .i64 (↑qs.length:Int))),(40,V.d (D.int .i64 (IntKind.i64.wrap (j+(1:Int)))))] [(0,Ob.val 187695107 (V.agg [V.ptr 0 0,V.sl 6291457 (Sp.app L (40::(s++([61]++(s_2++([41]++[])))))) 1,V.d (D.bool false)])),(1,Ob.tok (Sp.app L (40::(s++([61]++(s_2++([41]++[])))))).length),(7,Ob.val 5 (V.d (D.agg [D.int .i64 k',D.str nm',D.sl 5 (T.ds kids'),D.sl 1 (List.map D.str nms'),D.int .i64 pl'])))] (AL cx (KT m) n 196 2 3 10 (inK cx (KT m) n 196 2 3 r (AK cx (KT m) n 196 2 3 (EK cx 196 2))))))
   | x=>none) else none
  | x=>none
 | x=>none) else bif decide ((↑(T.ds kids').length:Int)=(2:Int)) then za (Sp.fit L.length L) (za (Sp.room L [32,45,62,32]) (za (decide ((1:Int)<(↑(T.ds kids').length:Int))) (ze (T.ds kids') (1:Int).toNat λ y=>ze y.cells 0 λ c=>ze y.cells 1 λ c_1=>ze y.cells 2 λ c_2=>ze y.cells 3 λ c_3=>ze y.cells 4 λ c_4=>zd (zd (zi m (D.agg [c,c_1,c_2,c_3,c_4])) λ t=>za (Sp.right t) (some (Sp.text t (0:Int)))) λ s=>za (Sp.fit (Sp.app L [32,45,62,32]).length (Sp.app L [32,45,62,32])) (za (Sp.room (Sp.app L [32,45,62,32]) s) (LP cx (KT m) n 196 2 3 r [(0,V.ptr 0 0),(12,V.d (D.sl 5 (T.ds kids))),(13,V.d (D.int .i64 (↑kids.length:Int))),(14,V.d (D.int .i64 (IntKind.i64.wrap (i+(1:Int)))))] [(0,Ob.val 187695107 (V.agg [V.ptr 0 0,V.sl 6291457 (Sp.app (Sp.app L [32,45,62,32]) s) 1,V.d (D.bool false)])),(1,Ob.tok (Sp.app (Sp.app L [32,45,62,32]) s).length)] (AK cx (KT m) n 196 2 3 (EK cx 196 2))))))) else LP cx (KT m) n 196 2 3 r [(0,V.ptr 0 0),(12,V.d (D.sl 5 (T.ds kids))),(13,V.d (D.int .i64 (↑kids.length:Int))),(14,V.d (D.int .i64 (IntKind.i64.wrap (i+(1:Int)))))] [(0,Ob.val 187695107 (V.agg [V.ptr 0 0,V.sl 6291457 L 1,V.d (D.bool false)])),(1,Ob.tok L.length)] (AK cx (KT m) n 196 2 3 (EK cx 196 2)):=by kernel_rfl
abbrev O94 (m n r:Nat) (L:List D) (kids:List T) (i:Int):Option R1:=
 LP cx (KT m) n 196 2 3 r [(0,V.ptr 0 0),(12,V.d (D.sl 5 (T.ds kids))),(13,V.d (D.int .i64 (kids.length:Int))),(14,V.d (D.int .i64 i))] [(0,Ob.val 187695107 (V.agg [V.ptr 0 0,V.sl 6291457 L 1,V.d (D.bool false)])),(1,Ob.tok L.length)] (AK cx (KT m) n 196 2 3 (EK cx 196 2))
abbrev I94 (m n r q:Nat) (L:List D) (kids qs kids':List T) (i j k' pl':Int) (nm':List UInt8) (nms':List (List UInt8)):Option R1:=
 LP cx (KT m) n 196 2 10 q [(0,V.ptr 0 0),(5,V.ptr 7 0),(12,V.d (D.sl 5 (T.ds kids))),(13,V.d (D.int .i64 (kids.length:Int))),(14,V.d (D.int .i64 i)),(38,V.d (D.sl 5 (T.ds qs))),(39,V.d (D.int .i64 (qs.length:Int))),(40,V.d (D.int .i64 j))] [(0,Ob.val 187695107 (V.agg [V.ptr 0 0,V.sl 6291457 L 1,V.d (D.bool false)])),(1,Ob.tok L.length),(7,Ob.val 5 (V.d (D.agg [D.int .i64 k',D.str nm',D.sl 5 (T.ds kids'),D.sl 1 (nms'.map .str),D.int .i64 pl'])))] (AL cx (KT m) n 196 2 3 10 (inK cx (KT m) n 196 2 3 r (AK cx (KT m) n 196 2 3 (EK cx 196 2))))
def zbi(kids:List T):List UInt8:=bif decide (kids.length=2) then [32,45,62,32]++Sp.at (Sp.texts kids 0) 1 else []
theorem z3z{t:T}(h:zbj t=true):∃ nm x pl,t=.mk 13 nm [] [x] pl∧Sp.named nm=true∧Sp.bit x=true:=by
 obtain ⟨k,nm,kids,nms,pl⟩:=t;rcases kids with _ | ⟨a,kids⟩ <;> rcases nms with _ | ⟨x,_ | ⟨y,nms⟩⟩ <;> simp [zbj] at h
 obtain ⟨⟨rfl,h1⟩,h2⟩:=h;exact ⟨nm,x,pl,rfl,h1,h2⟩
theorem zxh{m n r:Nat}{kids qs kids':List T}{i k' pl':Int}{nm':List UInt8}{nms':List (List UInt8)}(hq:∀ t∈qs,zbj t=true)(hl:qs.length<4294967296)
  (hk:kids'.length=2→∃ t,kids'[1]?=some t∧zi m t.d=some t∧Sp.right t=true) :
  ∀ (rest:List T) (j q:Nat) (L:List D),qs.drop j=rest→j≤qs.length→rest.length<q→Sp.room L ((rest.map zds).flatten++zbi kids')=true →
   I94 m n r q L kids qs kids' i j k' pl' nm' nms'=O94 m n r (Sp.app L ((rest.map zds).flatten++zbi kids')) kids (IntKind.i64.wrap (i+1))
 | [],j,q,L,hd,hj,hk',hr=>by
  obtain ⟨q,rfl⟩:∃ i,q=i+1:=⟨q - 1,by omega⟩
  have:qs.length≤j:=by simpa using hd
  obtain rfl:j=qs.length:=by omega
  simp only [List.map_nil,List.flatten_nil,List.nil_append] at hr ⊢;have hlen:=room_le hr;simp only [I94,O94];rw [i94,x6,cond_false,yc,z1f];by_cases h2:kids'.length=2
  ·obtain ⟨t,ht,hT,hrt⟩:=hk h2;have n1:kids'[(1:Int).toNat]?=some t:=ht;have e:zbi kids'=[32,45,62,32]++Sp.text t 0:=by
    unfold zbi;rw [pa h2,cond_true,wa kids' 0 1 t ht]
   rw [e] at hlen ⊢;have e1:decide ((1:Int)<(kids'.length:Int))=true:=pa (by omega)
   simp only [pe,List.length_cons,List.length_nil] at hlen;rw [pa h2];simp only [cond_true,e1,yu,n1,xa,vq,zbm,zbt,zbs,zbr,za2,hT,zd,za,hrt,zz];simp (disch:=((try simp only [xl,pe,List.length_cons,List.length_nil]); omega)) only [xx,cond_true]
   simp [xb]
  ·have e:zbi kids'=[]:=by unfold zbi; rw [pb h2]; rfl
   rw [pb h2,cond_false,e,zmd]
 | t::rest,j,q,L,hd,hj,hk',hr=>by
  obtain ⟨q,rfl⟩:∃ i,q=i+1:=⟨q - 1,by omega⟩
  obtain ⟨h1,h2,h3⟩:=zcc hd;obtain ⟨nm,x,pl,rfl,_,_⟩:=z3z (hq t (po h2));have et:zds (.mk 13 nm [] [x] pl)=40::(nm++([61]++(x++([41]++[])))):=by simp [zds,T.nm,T.nms,Sp.at]
  simp only [List.map_cons,List.flatten_cons,List.append_assoc] at hr ⊢;obtain ⟨hr1,hr2⟩:=zeq hr;have ih:=zxh (n:=n) (r:=r) (kids:=kids) (i:=i) (k':=k') (pl':=pl') (nm':=nm') (nms':=nms') hq hl hk rest (j+1) q (Sp.app L (zds (.mk 13 nm [] [x] pl))) h3 h1 (by simp at hk'; omega) hr2
  rw [xb] at ih;rw [←ih,et];rw [et] at hr1;simp only [I94];have nx:[x][(0:Int).toNat]?=some x:=rfl;have ex:decide ((0:Int)<(([x].map D.str).length:Int))=true:=rfl;rw [i94,yq h1,yc,yq h1,xi,yu,pm,h2,vh h1 hl];simp only [cond_true,za,zd,Bool.and_self,ze1,vq,zbm,zbt,zbs,zbr,z7h,Bool.true_or,ex,qg,nx,zk0,zz,hr1]
theorem z12{t:T}(h:Sp.elem t=true):∃ qs plf r pl,t=.mk 11 [] (.mk 12 [] qs [] plf::r) [] pl∧(∀ q∈qs,zbj q=true)∧(r=[]∨∃ u,r=[u]∧Sp.right u=true):=by
 obtain ⟨k,nm,kids,nms,pl⟩:=t;rcases kids with _ | ⟨f,_ | ⟨u,_ | ⟨c,l⟩⟩⟩ <;> simp [Sp.elem] at h
 ·obtain ⟨k',nm',kids',nms',pl'⟩:=f;simp [ze2] at h;obtain ⟨⟨⟨rfl,rfl⟩,rfl⟩,⟨⟨rfl,rfl⟩,rfl⟩,h⟩:=h;exact ⟨kids',pl',[],pl,rfl,h,.inl rfl⟩
 ·obtain ⟨k',nm',kids',nms',pl'⟩:=f;simp [ze2] at h;obtain ⟨⟨⟨⟨rfl,rfl⟩,rfl⟩,⟨⟨rfl,rfl⟩,rfl⟩,h⟩,hu⟩:=h;exact ⟨kids',pl',[u],pl,rfl,h,.inr ⟨u,rfl,hu⟩⟩
theorem z6q(k:Int)(nm:List UInt8)(f:T)(r:List T)(nms:List (List UInt8))(pl:Int):zk8 (.mk k nm (f::r) nms pl)=zg1 f++zbi (f::r):=rfl
theorem zw3{m n:Nat}{kids:List T}(hn:4294967296<n)(hl:kids.length<4294967296)(ho:T.oks kids=true)(hd0:T.depths kids≤m)(he:∀ t∈kids,Sp.elem t=true) :
  ∀ (rest:List T) (j r:Nat) (L:List D),kids.drop j=rest→j≤kids.length→rest.length<r→Sp.room L (zan (decide (j=0)) rest++[93])=true →
   O94 m n r L kids j=some (.ret (.tup []),psS true (Sp.app L (zan (decide (j=0)) rest++[93])))
 | [],j,r,L,hd,hj,hk',hr=>by
  obtain ⟨r,rfl⟩:∃ i,r=i+1:=⟨r - 1,by omega⟩
  have:kids.length≤j:=by simpa using hd
  obtain rfl:j=kids.length:=by omega
  have e:zan (decide (kids.length=0)) []++[93]=[93]:=by cases decide (kids.length=0) <;> rfl
  rw [e] at hr ⊢;simp only [O94];refine (l94 n m r L kids kids.length).trans ?_;rw [x6,cond_false];simp only [zz,za,cond_true,hr];rfl
 | t::rest,j,r,L,hd,hj,hk',hr=>by
  obtain ⟨r,rfl⟩:∃ i,r=i+1:=⟨r - 1,by omega⟩
  obtain ⟨h1,h2,h3⟩:=zcc hd;have htm:=po h2;obtain ⟨qs,plf,r',pl,rfl,hq,hr'⟩:=z12 (he t htm);obtain ⟨_,o2,_,_,o5⟩:=zad (vp ho htm);have hdx:T.depths (.mk 12 [] qs [] plf::r')≤m:=by
   have:=zkz htm;simp only [T.depth] at this; omega
  have hql:qs.length<4294967296:=by
   obtain ⟨_,q2,_,_,_⟩:=zad (vp o5 (pn ..));exact y9 q2
  have hkt:(T.mk 12 [] qs [] plf::r').length=2→∃ t,(T.mk 12 [] qs [] plf::r')[1]?=some t∧zi m t.d=some t∧Sp.right t=true:=by
   intro h;rcases hr' with rfl | ⟨u,rfl,hu⟩
   ·simp at h
   ·exact ⟨u,rfl,zc0 hdx o5 (by simp),hu⟩
  have step:∀ s:List UInt8,zan (decide (j=0)) (.mk 11 [] (.mk 12 [] qs [] plf::r') [] pl::rest)++[93]=(bif decide (j=0) then [] else [44,32])++(bif qs.isEmpty then [49] else [])++((qs.map zds).flatten++zbi (.mk 12 [] qs [] plf::r'))++(zan (decide (j+1=0)) rest++[93]):=by
   intro _;rw [zan,z6q,zg1,zfm,pb (p:=j+1=0) (by omega)]
   simp only [List.append_assoc]
  rw [step []] at hr ⊢;generalize hP:(bif decide (j=0) then [] else [44,32]:List UInt8)=P at hr ⊢;generalize hQ:(bif qs.isEmpty then [49] else []:List UInt8)=Q at hr ⊢;obtain ⟨r1,r2⟩:=zeq hr;obtain ⟨r3,r4⟩:=zeq r1;obtain ⟨r5,r6⟩:=zeq r3;have h_in:=zxh (n:=n) (r:=r) (kids:=kids) (i:=(j:Int)) (k':=11) (pl':=pl) (nm':=[]) (nms':=[]) hq hql hkt qs 0 n (Sp.app L (P++Q)) rfl (Nat.zero_le _) (by omega) r4
  have h_out:=zw3 hn hl ho hd0 he rest (j+1) r (Sp.app L (P++Q++((qs.map zds).flatten++zbi (.mk 12 [] qs [] plf::r')))) h3 h1 (by simp at hk'; omega) r2
  rw [xb,vh h1 hl] at h_in;have h:=h_in.trans h_out;rw [xb] at h;rw [←h];have f0:(T.mk 12 [] qs [] plf::r')[(0:Int).toNat]?=some (T.mk 12 [] qs [] plf):=rfl;have g0:decide ((0:Int)<((T.ds (T.mk 12 [] qs [] plf::r')).length:Int))=true:=pa (by rw [yc]; simp)
  simp only [O94,I94];refine (l94 n m r L kids j).trans ?_;rw [yq h1,yc,yq h1,xi,yu,pm,h2];simp only [cond_true,za,zd,Bool.and_self,ze1,vq,zbm,zbt,zbs,zbr,zpl,Bool.true_or,yu,f0,g0,zz];rw [yc,zyi];rcases j with _ | j
  ·simp only [decide_true,cond_true] at hP;subst hP;rcases qs with _ | ⟨q,qs⟩
   ·simp only [List.isEmpty_nil,cond_true] at hQ;subst hQ;simp only [List.nil_append] at r6 ⊢;rw [zmd] at r6;simp [r6]
   ·simp only [List.isEmpty_cons,cond_false] at hQ;subst hQ;simp [zmd]
  ·simp only [Nat.succ_ne_zero,decide_false,cond_false] at hP;subst hP;have hj0:decide ((0:Int)<((j+1:Nat):Int))=true:=pa (by omega)
   rw [hj0];rcases qs with _ | ⟨q,qs⟩
   ·simp only [List.isEmpty_nil,cond_true] at hQ;subst hQ;simp [r5,r6,xb]
   ·simp only [List.isEmpty_cons,cond_false] at hQ;subst hQ;simp [r5]
theorem zx6{nm:List UInt8}{kids:List T}{nms:List (List UInt8)}{pl:Int}(h:Sp.right (.mk 10 nm kids nms pl)=true):∀ t∈kids,Sp.elem t=true:=by
 rcases kids with _ | ⟨a,_ | ⟨b,_ | ⟨c,l⟩⟩⟩ <;> simp [Sp.right,zhl] at h ⊢ <;> simp_all
theorem z7r{m:Nat}(hm:knows cx (KT m).S (zh cx)){u:Bool}{L:List D}{t:T}(hd:t.depth≤m+1)(ho:t.ok=true)(hi:zhs t=true)(hr:Sp.room L (zix t)=true) :
  zh cx 196 [.ptr 0 0,.d t.d] (psS u L)=some (.ret (.tup []),psS true (Sp.app L (zix t))):=by
 obtain ⟨k,nm,kids,nms,pl⟩:=t;obtain ⟨h1,h2,h3,h4,h5⟩:=zad ho;have hkd:=za0 hd;simp only [zhs,ph] at hi;have hk:k=10:=pc hi.2;subst hk;refine zl hm (N:=4294967297) ?_;refine (yas _ m L u 10 nm kids nms pl).trans ?_;simp only [zix,List.append_assoc] at hr ⊢;obtain ⟨r1,r2⟩:=zeq hr;have h:=zw3 (m:=m) (n:=4294967297) (kids:=kids) (by omega) (y9 h2) h5 hkd (zx6 hi.1) kids 0 4294967297 (Sp.app L [91]) rfl (Nat.zero_le _) (by have:=y9 h2; omega) r2
 rw [xb] at h;simp only [zz,za,cond_true,r1,yc];exact h
theorem z3c{k:Int}{nm:List UInt8}{kids:List T}{nms:List (List UInt8)}{pl:Int}(h:Sp.right (.mk k nm kids nms pl)=true) :
  k=1∨((k=2∨k=3)∧∃ a,kids=[a]∧Sp.right a=true)∨(k=4∨k=5)∨(k=6∧∃ a b,kids=[a,b]∧Sp.right a=true∧Sp.right b=true)∨(k=7∧∃ a b,kids=[a,b]∧Sp.right a=true∧Sp.form b=true)∨(k=8∨k=9)∨k=10:=by
 rcases kids with _ | ⟨a,_ | ⟨b,_ | ⟨c,l⟩⟩⟩
 ·simp [Sp.right] at h;rcases h.2 with h | h <;> simp [h.1]
 ·simp [Sp.right] at h;rcases h.2 with h | h
  ·refine .inr (.inl ⟨h.1.1.1,a,rfl,h.2⟩)
  ·simp [h.1.1]
 ·simp [Sp.right] at h;rcases h.2 with ((h | h) | h) | h
  ·rcases h.1.1.1.1 with rfl | rfl <;> simp
  ·rcases h.1.1.1 with (hk | hk) | hk
   ·exact .inr (.inr (.inr (.inl ⟨hk,a,b,rfl,h.1.2,h.2⟩)))
   ·simp [hk]
   ·simp [hk]
  ·exact .inr (.inr (.inr (.inr (.inl ⟨h.1.1.1,a,b,rfl,h.1.2,h.2⟩))))
  ·simp [h.1.1.1]
 ·simp [Sp.right] at h;simp [h]
theorem z00{nms:List (List UInt8)}{sep:List UInt8}(h3:yi nms=true)(h4:nms.all yi=true)(h:(yp nms sep).length≤140737488355328):zk6 (D.sl 1 (nms.map D.str),sep)=some (nms,sep):=by
 unfold zk6;simp only [z0z h3 h4];rw [pa (by unfold yp at h; omega)]
 rfl
theorem zzv{m:Nat}(hm:knows cx (KT m).S (zh cx)):knows cx (K71 m).S (zh cx):=by
 have h92:=qf (f:=194) (dec:=zlr) (sp:=z4l) hm λ a q s u L ha hs hr=>by
  obtain ⟨x,n⟩:=q;obtain rfl:=zft ha;obtain ⟨t,ht,hs⟩:=zb hs;obtain ⟨hf,hs⟩:=zc hs;cases hs;obtain ⟨rfl,h2⟩:=wl ht;exact z4u t.depth u L t n (Nat.le_refl _) h2 hf hr
 have h94:=qf (f:=196) (dec:=zqs) (sp:=z7i (m+1)) h92 λ a x s u L ha hs hr=>by
  obtain rfl:=znx ha;obtain ⟨t,ht,hs⟩:=zb hs;obtain ⟨hf,hs⟩:=zc hs;cases hs;obtain ⟨rfl,h1,h2⟩:=y6 ht;exact z7r hm h1 h2 hf hr
 have h93:=qf (f:=195) (dec:=zua) (sp:=z7j (m+1)) h94 λ a q s u L ha hs hr=>by
  obtain ⟨x,g⟩:=q;obtain rfl:=znw ha;obtain ⟨t,ht,hs⟩:=zb hs;obtain ⟨hf,hs⟩:=zc hs;cases hs;obtain ⟨rfl,h1,h2⟩:=y6 ht;exact z7s hm h1 h2 hf hr
 exact qf h93 λ a q s u L ha hs hr=>by
  obtain ⟨x,g⟩:=q;obtain rfl:=znw ha;obtain ⟨t,ht,hs⟩:=zb hs;obtain ⟨hf,hs⟩:=zc hs;cases hs;obtain ⟨rfl,h1,h2⟩:=y6 ht;exact z7t hm h1 h2 hf hr
theorem z7y{m:Nat}(hm:knows cx (KT m).S (zh cx)){u:Bool}{L:List D}{t:T}(hd:t.depth≤m+1)(ho:t.ok=true)(hi:Sp.right t=true)(hr:Sp.room L (Sp.bare t)=true) :
  zh cx 163 [.ptr 0 0,.d t.d] (psS u L)=some (.ret (.tup []),psS true (Sp.app L (Sp.bare t))):=by
 have hTt:=zd0 hd ho;obtain ⟨k,nm,kids,nms,pl⟩:=t;obtain ⟨h1,h2,h3,h4,h5⟩:=zad ho;have hkd:=za0 hd;have hT:∀ t∈kids,zi m t.d=some t:=λ t h=>zc0 hkd h5 h;simp only [T.d] at hTt;refine zl (zzv hm) (N:=0) ?_;rcases z3c hi with rfl | ⟨hk,a,rfl,ha⟩ | hk | ⟨rfl,a,b,rfl,ha,hb⟩ | ⟨rfl,a,b,rfl,ha,hb⟩ | hk | rfl
 ·refine (z6n 0 m L u nm kids nms pl).trans ?_;have e:Sp.bare (.mk 1 nm kids nms pl)=nm:=by simp [Sp.bare]
  rw [e] at hr ⊢;simp only [zz,za,cond_true,List.append_nil,hr];rfl
 ·have e0:decide ((0:Int)<((T.ds [a]).length:Int))=true:=by rw [yc]; rfl
  have n0:[a][(0:Int).toNat]?=some a:=rfl;rcases hk with rfl | rfl
  ·have e:Sp.bare (.mk 2 nm [a] nms pl)=[92]++yp nms [32]++[46,32]++Sp.text a 0:=by simp [Sp.bare,←wa [a] 0 0 a rfl]
   rw [e] at hr ⊢;have hlen:=room_le hr;simp only [pe,List.length_cons,List.length_nil] at hlen;refine (z6m 0 m L u nm [a] nms pl).trans ?_;simp only [z00 h3 h4 (sep:=[32]) (by omega),e0,yu,n0,xa,vq,zbm,zbt,zbs,zbr,za2,hT a (by simp),zd,za,cond_true,zz,ha]
   simp (disch:=((try simp only [xl,pe,List.length_cons,List.length_nil]); omega)) only [xx,cond_true]
   simp [xb,psS,adV]
  ·have e:Sp.bare (.mk 3 nm [a] nms pl)=[60]++yp nms [32]++[62,32]++Sp.text a 0:=by simp [Sp.bare,←wa [a] 0 0 a rfl]
   rw [e] at hr ⊢;have hlen:=room_le hr;simp only [pe,List.length_cons,List.length_nil] at hlen;refine (z6l 0 m L u nm [a] nms pl).trans ?_;simp only [z00 h3 h4 (sep:=[32]) (by omega),e0,yu,n0,xa,vq,zbm,zbt,zbs,zbr,za2,hT a (by simp),zd,za,cond_true,zz,ha]
   simp (disch:=((try simp only [xl,pe,List.length_cons,List.length_nil]); omega)) only [xx,cond_true]
   simp [xb,psS,adV]
 ·rcases hk with rfl | rfl
  ·have hB:zc3 (.mk 4 nm kids nms pl)=true:=by unfold zc3; rw [hi]; rfl
   have e:Sp.bare (.mk 4 nm kids nms pl)=zdu (.mk 4 nm kids nms pl) [32,45,62,32]:=by simp [Sp.bare,zdu]
   rw [e] at hr ⊢;refine (z6k 0 m L u nm kids nms pl).trans ?_;simp only [hTt,hB,zd,za,cond_true,zz,hr];rfl
  ·have hB:zc3 (.mk 5 nm kids nms pl)=true:=by unfold zc3; rw [hi]; rfl
   have e:Sp.bare (.mk 5 nm kids nms pl)=zdu (.mk 5 nm kids nms pl) [32,42,32]:=by simp [Sp.bare,zdu]
   rw [e] at hr ⊢;refine (z6j 0 m L u nm kids nms pl).trans ?_;simp only [hTt,hB,zd,za,cond_true,zz,hr];rfl
 ·have e0:decide ((0:Int)<((T.ds [a,b]).length:Int))=true:=by rw [yc]; rfl
  have e1:decide ((1:Int)<((T.ds [a,b]).length:Int))=true:=by rw [yc]; rfl
  have n0:[a,b][(0:Int).toNat]?=some a:=rfl;have n1:[a,b][(1:Int).toNat]?=some b:=rfl;have e:Sp.bare (.mk 6 nm [a,b] nms pl)=Sp.text a 1++[32]++Sp.text b 2:=by simp [Sp.bare,←wa [a,b] 1 0 a rfl,←wa [a,b] 2 1 b rfl]
  rw [e] at hr ⊢;have hlen:=room_le hr;simp only [pe,List.length_cons,List.length_nil] at hlen;refine (z6i 0 m L u nm [a,b] nms pl).trans ?_;simp only [e0,e1,yu,n0,n1,xa,vq,zbm,zbt,zbs,zbr,za2,hT a (by simp),hT b (by simp),zd,za,cond_true,zz,ha,hb]
  simp (disch:=((try simp only [xl,pe,List.length_cons,List.length_nil]); omega)) only [xx,cond_true]
  simp [xb,psS,adV]
 ·have e0:decide ((0:Int)<((T.ds [a,b]).length:Int))=true:=by rw [yc]; rfl
  have e1:decide ((1:Int)<((T.ds [a,b]).length:Int))=true:=by rw [yc]; rfl
  have n0:[a,b][(0:Int).toNat]?=some a:=rfl;have n1:[a,b][(1:Int).toNat]?=some b:=rfl;have e:Sp.bare (.mk 7 nm [a,b] nms pl)=Sp.text a 1++[32,64,32]++za3 b 2:=by simp [Sp.bare,←wa [a,b] 1 0 a rfl]
  rw [e] at hr ⊢;have hlen:=room_le hr;simp only [pe,List.length_cons,List.length_nil] at hlen;refine (z6h 0 m L u nm [a,b] nms pl).trans ?_;simp only [e0,e1,yu,n0,n1,xa,vq,zbm,zbt,zbs,zbr,za2,hT a (by simp),zhd h5 (t:=b) (by simp),zd,za,cond_true,zz,ha,hb]
  simp (disch:=((try simp only [xl,pe,List.length_cons,List.length_nil]); omega)) only [xx,cond_true]
  simp [xb,psS,adV]
 ·rcases hk with rfl | rfl
  ·have hB:zc2 (.mk 8 nm kids nms pl)=true:=by unfold zc2; rw [hi]; rfl
   have e:Sp.bare (.mk 8 nm kids nms pl)=zdq (.mk 8 nm kids nms pl) [44,32]:=by simp [Sp.bare,zdq]
   rw [e] at hr ⊢;refine (z6g 0 m L u nm kids nms pl).trans ?_;simp only [hTt,hB,zd,za,cond_true,zz,hr];rfl
  ·have hB:zc2 (.mk 9 nm kids nms pl)=true:=by unfold zc2; rw [hi]; rfl
   have e:Sp.bare (.mk 9 nm kids nms pl)=zdq (.mk 9 nm kids nms pl) [32,58,32]:=by simp [Sp.bare,zdq]
   rw [e] at hr ⊢;refine (z6f 0 m L u nm kids nms pl).trans ?_;simp only [hTt,hB,zd,za,cond_true,zz,hr];rfl
 ·have hB:zhs (.mk 10 nm kids nms pl)=true:=by unfold zhs; rw [hi]; rfl
  have e:Sp.bare (.mk 10 nm kids nms pl)=zix (.mk 10 nm kids nms pl):=by simp [Sp.bare,zix]
  rw [e] at hr ⊢;refine (z3u 0 m L u nm kids nms pl).trans ?_;simp only [hTt,hB,zd,za,cond_true,zz,hr];rfl
theorem z5s{m:Nat}(hc:knows cx (clK 162 zlu zlh zre (λ _ x=>zx0 m x) K91).S (zh cx)){u b:Bool}{L:List D}{t:T}(hd:t.depth≤m)(ho:t.ok=true)(hi:Sp.right t=true)(hr:Sp.room L (yw b (Sp.bare t))=true) :
  zh cx 160 [.ptr 0 0,.d (.bool b),.func 162 [.ptr 2 0,.ptr 3 0]] (psB u L t.d)=some (.ret (.tup []),psB true (Sp.app L (yw b (Sp.bare t))) t.d):=by
 have hT:=zd0 hd ho;have hlen:=room_le hr;rw [zj0] at hlen;refine zl hc (N:=0) ?_;obtain ⟨k,nm,kids,nms,pl⟩:=t;refine (z9c 0 m L u k nm kids nms pl b).trans ?_;simp only [T.d] at hT;cases b
 ·simp only [cond_false] at hlen;simp only [hT,zd,za,hi,cond_true,cond_false,zz];simp (disch:=((try simp only [xl,pe,List.length_cons,List.length_nil]); omega)) only [xx,cond_true]
  simp [xb,psB,psS,adV,T.d,yw]
 ·simp only [cond_true] at hlen;simp only [hT,zd,za,hi,cond_true,cond_false,zz];simp (disch:=((try simp only [xl,pe,List.length_cons,List.length_nil]); omega)) only [xx,cond_true]
  simp [xb,psB,psS,adV,T.d,yw]
theorem zzw{m:Nat}(hm:knows cx (KT m).S (zh cx)):knows cx (K70 (m+1)).S (zh cx):=by
 have h71:knows cx (prK 163 zqs (zx0 (m+1)) K91).S (zh cx):=qf za4 λ a x s u L ha hs hr=>by
  obtain rfl:=znx ha;obtain ⟨t,ht,hs⟩:=zb hs;obtain ⟨hf,hs⟩:=zc hs;cases hs;obtain ⟨rfl,h1,h2⟩:=y6 ht;exact z7y hm h1 h2 hf hr
 have hc:knows cx (clK 162 zlu zlh zre (λ _ x=>zx0 (m+1) x) K91).S (zh cx):=zda za4 zmr λ a b x s u L ha hs hr=>by
  obtain rfl:=zn0 ha;obtain ⟨t,ht,hs⟩:=zb hs;obtain ⟨hf,hs⟩:=zc hs;cases hs;obtain ⟨rfl,h1,h2⟩:=y6 ht;have hT:=zd0 h1 h2;refine zl h71 (N:=0) ?_;obtain ⟨k,nm,kids,nms,pl⟩:=t;refine (yax 0 (m+1) L u k nm kids nms pl).trans ?_;simp only [T.d] at hT;simp only [hT,zd,za,hf,cond_true,zz,hr];rfl
 exact zda za4 zpo λ a b x s u L ha hs hr=>by
  obtain rfl:=zip ha;obtain ⟨s',hs',hs⟩:=zb hs;cases hs;obtain ⟨t,ht,hs'⟩:=zb hs';obtain ⟨hf,hs'⟩:=zc hs';cases hs';obtain ⟨rfl,h1,h2⟩:=y6 ht;exact z5s hc h1 h2 hf hr
theorem z4w:∀ (m:Nat) (u:Bool) (L:List D) (t:T) (a:Int),t.depth≤m→t.ok=true→Sp.right t=true→Sp.room L (Sp.text t a)=true →
  zh cx 128 [.ptr 0 0,.d t.d,.d (.int .i64 a)] (psS u L)=some (.ret (.tup []),psS true (Sp.app L (Sp.text t a)))
 | 0,_,_,.mk ..,_,h,_,_,_=>by simp [T.depth] at h
 | m+1,u,L,t,a,hd,ho,hi,hr=>by
  have hm:knows cx (KT m).S (zh cx):=qf za4 λ a q s u L ha hs hr=>by
   obtain ⟨x,n⟩:=q;obtain rfl:=zft ha;obtain ⟨t,ht,hs⟩:=zb hs;obtain ⟨hf,hs⟩:=zc hs;cases hs;obtain ⟨rfl,h1,h2⟩:=y6 ht;exact z4w m u L t n h1 h2 hf hr
  have hT:=zd0 hd ho;have hC:=zhv ho;refine zl (zzw hm) (N:=0) ?_;obtain ⟨k,nm,kids,nms,pl⟩:=t;refine (ya3 0 (m+1) L u k nm kids nms pl a).trans ?_;simp only [T.d] at hT hC;unfold Sp.text at hr ⊢;simp only [hT,hC,zd,za,hi,cond_true,zz,hr];rfl
def Sp.lens:List (List UInt8)→Nat | []=>0 | x::l=>x.length+1+Sp.lens l
mutual
def yo:T→Nat
 | .mk _ nm kids nms _=>1+nm.length+Sp.lens nms+Sp.bulks kids
def Sp.bulks:List T→Nat
 | []=>0
 | t::l=>yo t+Sp.bulks l
end
theorem zod{t:T}:∀ {l:List T},t∈l→yo t≤Sp.bulks l
 | u::l,h=>by
  simp only [Sp.bulks];cases h with
  | head=>omega
  | tail _ h=>have:=zod h; omega
theorem zis(b:Bool)(s:List UInt8):(yw b s).length≤s.length+2:=by rw [zj0]; cases b <;> simp
theorem zwk:∀ (l:List (List UInt8)) (i:Nat),(Sp.at l i).length≤Sp.lens l
 | [],i=>by simp [Sp.at,Sp.lens]
 | x::l,0=>by simp [Sp.at,Sp.lens]; omega
 | x::l,i+1=>by have:=zwk l i; simp [Sp.at,Sp.lens] at this ⊢; omega
theorem zyo(sep:List UInt8):yp [] sep=[]:=by simp [yp,Lib.join,List.intercalate]
theorem zyn(x sep:List UInt8):yp [x] sep=x:=by simp [yp,Lib.join,List.intercalate]
theorem zvk(x y sep:List UInt8)(l:List (List UInt8)):yp (x::y::l) sep=x++sep++yp (y::l) sep:=by simp [yp,Lib.join,List.intercalate,List.intersperse]
theorem zqb:∀ (l:List (List UInt8)),(yp l [32]).length≤Sp.lens l
 | []=>by simp [zyo]
 | [x]=>by simp [zyn,Sp.lens]
 | x::y::l=>by
  have:=zqb (y::l);rw [zvk,Sp.lens];simp only [pe,List.length_cons,List.length_nil];omega
mutual
theorem zmc:∀ t:T,(xw t).length+2≤12 * yo t
 | .mk k nm kids nms pl=>by
  have h2:=z1t kids;simp only [xw,yo];cases decide (k=16)
  ·cases decide (k=15)
   ·cases decide (k=14)
    ·simp only [cond_false]; omega
    ·have:=h2 0 1;simp only [cond_true,cond_false,pe,List.length_cons,List.length_nil]; omega
   ·have:=h2 1 2;simp only [cond_true,cond_false,pe,List.length_cons,List.length_nil]; omega
  ·have:=h2 2 2;simp only [cond_true,pe,List.length_cons,List.length_nil]; omega
theorem z1t:∀ (l:List T) (a b:Int),(Sp.at (zb7 l a) 0).length+(Sp.at (zb7 l b) 1).length≤12 * Sp.bulks l
 | [],a,b=>by simp [zb7,Sp.at,Sp.bulks]
 | [t],a,b=>by
  have:=zmc t;have:=zis (decide (zb6 t.k<a)) (xw t);simp [zb7,Sp.at,Sp.bulks]; omega
 | t::u::l,a,b=>by
  have:=zmc t;have:=zmc u;have:=zis (decide (zb6 t.k<a)) (xw t);have:=zis (decide (zb6 u.k<b)) (xw u);simp [zb7,Sp.at,Sp.bulks]; omega
end
theorem z6p(t:T)(a:Int):(za3 t a).length≤12 * yo t:=by
 have:=zmc t;have:=zis (decide (zb6 t.k<a)) (xw t);unfold za3; omega
theorem z30(t:T):(zds t).length≤12 * yo t:=by
 obtain ⟨k,nm,kids,nms,pl⟩:=t;have:=zwk nms 0;simp only [zds,zw7,zrm,yo,pe,List.length_cons,List.length_nil];omega
theorem zt8:∀ l:List T,((l.map zds).flatten).length≤12 * Sp.bulks l
 | []=>by simp
 | t::l=>by
  have:=z30 t;have:=zt8 l;simp only [List.map_cons,List.flatten_cons,pe,Sp.bulks]; omega
theorem zqm(t:T):(zg1 t).length≤12 * yo t:=by
 obtain ⟨k,nm,kids,nms,pl⟩:=t;have:=zt8 kids;simp only [zg1,zfm,yo,pe];cases kids.isEmpty <;> simp only [cond_true,cond_false,List.length_cons,List.length_nil] <;> omega
mutual
theorem z2q:∀ t:T,(Sp.bare t).length+2≤12 * yo t
 | .mk k nm kids nms pl=>by
  have h2:=zuy kids;have hj:=zqb nms;have ha:=zwk nms 0;have hb:=zum kids;simp only [Sp.bare,yo];cases decide (k=1)
  rotate_left
  ·simp only [cond_true]; omega
  cases decide (k=2)
  rotate_left
  ·have:=h2 0 0; simp only [cond_true,cond_false,pe,List.length_cons,List.length_nil]; omega
  cases decide (k=3)
  rotate_left
  ·have:=h2 0 0; simp only [cond_true,cond_false,pe,List.length_cons,List.length_nil]; omega
  have h4:((bif decide (nms.length=1) then [40]++Sp.at nms 0++[32,58,32]++Sp.at (Sp.texts kids 0) 0++[41] else yw (zbk kids) (Sp.at (Sp.texts kids 1) 0))++[32,45,62,32]++Sp.at (Sp.texts kids 0) 1).length≤9+Sp.lens nms+12 * Sp.bulks kids:=by
   have:=zis (zbk kids) (Sp.at (Sp.texts kids 1) 0);have:=h2 0 0;have:=h2 1 0;cases decide (nms.length=1) <;> simp only [cond_true,cond_false,pe,List.length_cons,List.length_nil] <;> omega
  have h5:((bif decide (nms.length=1) then [40]++Sp.at nms 0++[32,58,32]++Sp.at (Sp.texts kids 0) 0++[41] else yw (zbk kids) (Sp.at (Sp.texts kids 1) 0))++[32,42,32]++Sp.at (Sp.texts kids 0) 1).length≤9+Sp.lens nms+12 * Sp.bulks kids:=by
   have:=zis (zbk kids) (Sp.at (Sp.texts kids 1) 0);have:=h2 0 0;have:=h2 1 0;cases decide (nms.length=1) <;> simp only [cond_true,cond_false,pe,List.length_cons,List.length_nil] <;> omega
  cases decide (k=4)
  rotate_left
  ·simp only [cond_true,cond_false]; omega
  cases decide (k=5)
  rotate_left
  ·simp only [cond_true,cond_false]; omega
  cases decide (k=6)
  rotate_left
  ·have:=h2 1 2; simp only [cond_true,cond_false,pe,List.length_cons,List.length_nil]; omega
  cases decide (k=7)
  rotate_left
  ·have:=h2 1 1;simp only [cond_true,cond_false];rcases kids with _ | ⟨a,_ | ⟨b,l⟩⟩
   ·simp [Sp.texts,Sp.at]; omega
   ·simp only [pe,List.length_cons,List.length_nil] at this ⊢; omega
   ·have h8:=z6p b 2;have h9:=zbo a 1;have e:Sp.at (Sp.texts (a::b::l) 1) 0=yw (decide (zeo a.k<1)) (Sp.bare a):=rfl;simp only [pe,List.length_cons,List.length_nil,Sp.bulks,e];omega
  cases decide (k=8)
  rotate_left
  ·have:=h2 0 0; simp only [cond_true,cond_false,pe,List.length_cons,List.length_nil]; omega
  cases decide (k=9)
  rotate_left
  ·have:=h2 0 0; simp only [cond_true,cond_false,pe,List.length_cons,List.length_nil]; omega
  simp only [cond_false,pe,List.length_cons,List.length_nil];have:=hb true;omega
theorem zbo:∀ (t:T) (a:Int),(yw (decide (zeo t.k<a)) (Sp.bare t)).length≤12 * yo t
 | t,a=>by
  have:=z2q t;have:=zis (decide (zeo t.k<a)) (Sp.bare t);omega
theorem zuy:∀ (l:List T) (a b:Int),(Sp.at (Sp.texts l a) 0).length+(Sp.at (Sp.texts l b) 1).length≤12 * Sp.bulks l
 | [],a,b=>by simp [Sp.texts,Sp.at,Sp.bulks]
 | [t],a,b=>by
  have:=zbo t a;simp [Sp.texts,Sp.at,Sp.bulks]; omega
 | t::u::l,a,b=>by
  have:=zbo t a;have:=zbo u b;simp [Sp.texts,Sp.at,Sp.bulks]; omega
theorem z33:∀ t:T,(zk8 t).length+2≤12 * yo t
 | .mk k nm [] nms pl=>by simp [zk8,yo]; omega
 | .mk k nm [f] nms pl=>by
  have:=zqm f;simp [zk8,yo,Sp.bulks]; omega
 | .mk k nm (f::u::l) nms pl=>by
  have:=zqm f;have h1:=zbo u 0;have e:Sp.at (Sp.texts (f::u::l) 0) 1=yw (decide (zeo u.k<0)) (Sp.bare u):=rfl;simp only [zk8,e,yo,Sp.bulks];cases decide ((f::u::l).length=2) <;> simp only [cond_true,cond_false,pe,List.length_cons,List.length_nil] <;> omega
theorem zum:∀ (l:List T) (b:Bool),(zan b l).length≤12 * Sp.bulks l
 | [],b=>by simp [zan]
 | t::l,b=>by
  have:=z33 t;have:=zum l false;simp only [zan,Sp.bulks];cases b <;> simp only [cond_true,cond_false,pe,List.length_cons,List.length_nil] <;> omega
end
theorem zsq(t:T)(a:Int):(Sp.text t a).length≤12 * yo t:=zbo t a
def zjw:List V→Option (D×Int) | [.d x,.d (.int .i64 a)]=>some (x,a) | _=>none
theorem zio{a:List V}{x:D}{n:Int}(h:zjw a=some (x,n)):a=[.d x,.d (.int .i64 n)]:=by
 unfold zjw at h;split at h
 ·cases h; rfl
 ·cases h
def Sp.bytes(L:List D):Option (List UInt8):=zdn L
theorem zqx(s:List UInt8):Sp.bytes (Sp.app [] s)=some s:=by
 show zdn ([]++s.map λ b=>D.int .u8 b.toNat)=some s;rw [List.nil_append];exact zwh s
theorem z7x(u:Bool)(L:List D)(s:List UInt8)(h:Sp.bytes L=some s)(hl:L.length≤65536):zh cx 164 [.ptr 0 0] (psS u L)=some (.ret (.d (.str s)),vj (psS u L) 1 (.tok (L.length+1))):=by
 refine zgo (n:=1) ?_;have e0:cx.nat 164 [.ptr 0 0] (psS u L)=zkk [.ptr 0 0] (psS u L):=by kernel_rfl
 have e:zkk [.ptr 0 0] (psS u L)=some (.ret (.d (.str s)),vj (psS u L) 1 (.tok (L.length+1))):=by
  have e1:zdn L=some s:=h;have e2:zkk [.ptr 0 0] (psS u L)=za (Nat.beq 6291457 6291457&&decide (L.length=L.length)&&decide (L.length≤4294967296)) (zd (zdn L) λ s=>some (.ret (.d (.str s)),vj (psS u L) 1 (.tok (L.length+1)))):=rfl;rw [e2,e1,pa rfl,pa (by omega)]
  rfl
 show zae cx (wg cx 0) 0 164 _ _=_;unfold zae;rw [e0,e]
def K72:CK R1:=more 164 (λ a σ=>match zv4 a,psD σ with | some _,some p=>some (p,σ) | _,_=>none)
  (λ K q=>match q with | ((L,n),σ)=>zd (Sp.bytes L) λ s=>za (Sp.fit n L) (za (decide (n≤65536)) (K (.ret (.d (.str s))) (vj σ 1 (.tok (n+1))))))
  (λ K q=>by
   obtain ⟨⟨L,n⟩,σ⟩:=q;simp only [za];rw [ww];congr 1;funext s;simp only [xz];rfl) (CK.plain zo)
theorem zzu:knows cx K72.S (zh cx):=xp zq λ a σ q r hd h=>by
 obtain ⟨⟨L,n⟩,τ⟩:=q;simp only at hd h;split at hd
 ·rename_i p ha hp;cases hd;obtain ⟨s,hs,h⟩:=zb h;obtain ⟨h1,h⟩:=zc h;obtain ⟨h2,h⟩:=zc h;cases h;obtain rfl:=zhn ha;obtain ⟨u,rfl⟩:=zcg hp h1;have hn:n=L.length:=pc h1;have:=pc h2;rw [hn];exact z7x u L s hs (by omega)
 ·cases hd
theorem g40(n:Nat)(L:List D):zk cx K72 n 129 [.ptr 0 0] (psS true L)=zd (Sp.bytes L) λ s=>za (Sp.fit L.length L) (za (decide (L.length≤65536)) (some (Out.ret (V.tup [V.d (D.str s),V.d (D.int .i64 (0:Int))]),[(0,Ob.val 187695107 (V.agg [V.ptr 0 0,V.sl 6291457 L 1,V.d (D.bool false)])),(1,Ob.tok (L.length+1))]))):=by kernel_rfl
theorem ya2(n:Nat)(L:List D):zk cx K72 n 129 [.ptr 0 0] (psS false L)=zd (Sp.bytes L) λ s=>za (Sp.fit L.length L) (za (decide (L.length≤65536)) (some (Out.ret (V.tup [V.d (D.str s),V.d (D.int .i64 (0:Int))]),[(0,Ob.val 187695107 (V.agg [V.d D.nilptr,V.sl 6291457 L 1,V.d (D.bool false)])),(1,Ob.tok (L.length+1))]))):=by kernel_rfl
theorem z79(u:Bool)(L:List D)(s:List UInt8)(h:Sp.bytes L=some s)(hl:L.length≤65536):zh cx 129 [.ptr 0 0] (psS u L)=some (.ret (.tup [.d (.str s),.d (.int .i64 0)]),vj (psS u L) 1 (.tok (L.length+1))):=by
 refine zl zzu (N:=0) ?_;cases u
 ·rw [ya2,h];simp only [zd,za,zz,cond_true];rw [pa hl];rfl
 ·rw [g40,h];simp only [zd,za,zz,cond_true];rw [pa hl];rfl
def mkE(p:List UInt8×Int):V:=.tup [.d (.str p.1),.d (.int .i64 p.2)]
def z4m:D×Int→Option (List UInt8) | (x,a)=>zd (Sp.toC x) λ t=>za (Sp.right t) (some (Sp.text t a))
def K18:CK R1:=more 129 (λ a σ=>match zv4 a,psD σ with | some _,some p=>some (p,σ) | _,_=>none)
  (λ K q=>match q with | ((L,n),σ)=>zd (Sp.bytes L) λ s=>za (Sp.fit n L) (za (decide (n≤65536)) (K (.ret (.tup [.d (.str s),.d (.int .i64 0)])) (vj σ 1 (.tok (n+1))))))
  (λ K q=>by
   obtain ⟨⟨L,n⟩,σ⟩:=q;simp only [za];rw [ww];congr 1;funext s;simp only [xz];rfl) (prK 128 zlr z4m (prK 127 zny zy8 (zy 94 qm Sp.toC (λ t=>mkB (Sp.right t)) (zy 126 zb2 some (λ s=>mkB (Sp.named s)) (CK.plain zo)))))
theorem zz1:knows cx K18.S (zh cx):=by
 have h36:=zj (f:=126) (dec:=zb2) (sp:=some) (mk:=λ s=>mkB (Sp.named s)) zq λ a q b hd h hb=>by
  cases hb; obtain rfl:=qu h; exact z1b q (pc hd)
 have h37:=zj (f:=94) (dec:=qm) (sp:=Sp.toC) (mk:=λ t=>mkB (Sp.right t)) h36 λ a q b hd h hb=>by
  obtain rfl:=qj h;obtain ⟨rfl,h1⟩:=wl hb;exact z4y b.depth b (Nat.le_refl _) h1
 have h38:=qf (f:=127) (dec:=zny) (sp:=zy8) h37 λ a q s u L h hs hr=>by
  obtain ⟨rfl,h1,h2⟩:=zls h;obtain ⟨m,rfl,rfl⟩:=zk1 hs;exact z4x u L m (by simpa using h2) (by intro e; rw [e] at h1; exact h1 rfl) hr
 have h39:=qf (f:=128) (dec:=zlr) (sp:=z4m) h38 λ a q s u L ha hs hr=>by
  obtain ⟨x,n⟩:=q;obtain rfl:=zft ha;obtain ⟨t,ht,hs⟩:=zb hs;obtain ⟨hf,hs⟩:=zc hs;cases hs;obtain ⟨rfl,h2⟩:=wl ht;exact z4w t.depth u L t n (Nat.le_refl _) h2 hf hr
 exact xp h39 λ a σ q r hd h=>by
  obtain ⟨⟨L,n⟩,τ⟩:=q;simp only at hd h;split at hd
  ·rename_i p ha hp;cases hd;obtain ⟨s,hs,h⟩:=zb h;obtain ⟨h1,h⟩:=zc h;obtain ⟨h2,h⟩:=zc h;cases h;obtain rfl:=zhn ha;obtain ⟨u,rfl⟩:=zcg hp h1;have hn:n=L.length:=pc h1;have:=pc h2;rw [hn];exact z79 u L s hs (by omega)
  ·cases hd
def zab(a:Int):List (List UInt8)→Int→Option Int
 | [],b=>some b
 | x::l,b=>bif decide (b≤a) then (bif decide (a<(x.length:Int)) then none else zab a l (b+1+x.length)) else some b
mutual
def Sp.blk:T→Int→Int
 | .mk _ nm kids nms _,a=>bif decide (a<(nm.length:Int))||decide (a<(nms.length:Int)) then a+1 else match zab a nms (1+nm.length) with | some b=>zam kids a b | none=>a+1
def zam:List T→Int→Int→Int
 | [],_,b=>b
 | t::l,a,b=>bif decide (b≤a) then zam l a (b+Sp.blk t (a - b)) else b
end
def spB(m:Nat):D×Int→Option (T×Int) | (x,a)=>zd (zi m x) λ t=>za (decide (0≤a)&&decide (a≤1048576)) (some (t,a))
def KB(m:Nat):CK R1:=zy 28 zjw (spB m) (λ q=>mkI (Sp.blk q.1 q.2)) (CK.plain zo)
theorem zpx{a:Int}:∀ {l:List (List UInt8)} {b c:Int},zab a l b=some c→0≤b→b≤2 * a+1→0≤a→b≤c∧c≤2 * a+1∧(c≤a→c=b+Sp.lens l)
 | [],b,c,h,h0,h1,ha=>by cases h; exact ⟨Int.le_refl _,h1,λ _=>by simp [Sp.lens]⟩
 | x::l,b,c,h,h0,h1,ha=>by
  unfold zab at h;by_cases hb:b≤a
  ·rw [pa hb,cond_true] at h;by_cases hx:a<(x.length:Int)
   ·rw [pa hx] at h; cases h
   ·rw [pb hx,cond_false] at h;obtain ⟨h2,h3,h4⟩:=zpx h (by omega) (by omega) ha
    refine ⟨by omega,h3,λ hc=>?_⟩
    have:=h4 hc;simp only [Sp.lens];omega
  ·rw [pb hb,cond_false] at h;cases h;exact ⟨Int.le_refl _,h1,λ hc=>by omega⟩
mutual
theorem zoh:∀ (t:T) (a:Int),0≤a→0≤Sp.blk t a∧Sp.blk t a≤2 * a+2∧(Sp.blk t a≤a→Sp.blk t a=yo t)
 | .mk k nm kids nms pl,a,ha=>by
  unfold Sp.blk;cases hc:(decide (a<(nm.length:Int))||decide (a<(nms.length:Int)))
  ·simp only [Bool.or_eq_false_iff,decide_eq_false_iff_not] at hc;rw [cond_false];cases hn:zab a nms (1+nm.length) with
   | none=>simp only; exact ⟨by omega,by omega,λ h=>by omega⟩
   | some b=>
    obtain ⟨h2,h3,h4⟩:=zpx hn (by omega) (by omega) ha
    obtain ⟨g1,g2,g3⟩:=zqa kids a b ha (by omega) (by omega)
    simp only;refine ⟨by omega,g2,λ h=>?_⟩
    have:=h4 (by omega)
    have:=g3 h;simp only [yo];omega
  ·rw [cond_true];exact ⟨by omega,by omega,λ h=>by omega⟩
theorem zqa:∀ (l:List T) (a b:Int),0≤a→1≤b→b≤2 * a+2→b≤zam l a b∧zam l a b≤2 * a+2∧(zam l a b≤a→zam l a b=b+Sp.bulks l)
 | [],a,b,ha,hb,hb2=>by unfold zam; exact ⟨Int.le_refl _,hb2,λ _=>by simp [Sp.bulks]⟩
 | t::l,a,b,ha,hb,hb2=>by
  unfold zam;by_cases h:b≤a
  ·rw [pa h,cond_true];obtain ⟨h1,h2,h3⟩:=zoh t (a - b) (by omega)
   obtain ⟨g1,g2,g3⟩:=zqa l a (b+Sp.blk t (a - b)) ha (by omega) (by omega)
   refine ⟨by omega,g2,λ hc=>?_⟩
   have:=g3 hc;have:=h3 (by omega)
   simp only [Sp.bulks];omega
  ·rw [pb h,cond_false];exact ⟨Int.le_refl _,hb2,λ hc=>by omega⟩
end
theorem g33(n m:Nat)(k:Int)(nm:List UInt8)(kids:List T)(nms:List (List UInt8))(pl a:Int):zk cx (KB m) n 28 [.d (.agg [.int .i64 k,.str nm,.sl 5 (T.ds kids),.sl 1 (nms.map .str),.int .i64 pl]),.d (.int .i64 a)] []=bif decide (a<(↑nm.length:Int)) then some (Out.ret (V.d (D.int .i64 (IntKind.i64.wrap (a+(1:Int))))),[]) else bif decide (a<(↑(List.map D.str nms).length:Int)) then some (Out.ret (V.d (D.int .i64 (IntKind.i64.wrap (a+(1:Int))))),[]) else LP cx (KB m) n 28 0 5 n [(1,V.d (D.int .i64 a)),(2,V.ptr 2 0),(5,V.d (D.int .i64 (IntKind.i64.wrap ((1:Int)+(↑nm.length:Int))))),(6,V.d (D.int .i64 (0:Int)))] [(2,Ob.val 5 (V.d (D.agg [D.int .i64 k,D.str nm,D.sl 5 (T.ds kids),D.sl 1 (List.map D.str nms),D.int .i64 pl])))] (AK cx (KB m) n 28 0 5 (EK cx 28 0)):=by kernel_rfl
theorem z8r(n m r:Nat)(k:Int)(nm:List UInt8)(kids:List T)(nms:List (List UInt8))(pl a b i:Int):LP cx (KB m) n 28 0 5 (r+1) [(1,V.d (D.int .i64 a)),(2,V.ptr 2 0),(5,V.d (D.int .i64 b)),(6,V.d (D.int .i64 i))] [(2,Ob.val 5 (V.d (D.agg [D.int .i64 k,D.str nm,D.sl 5 (T.ds kids),D.sl 1 (List.map D.str nms),D.int .i64 pl])))] (AK cx (KB m) n 28 0 5 (EK cx 28 0))=bif decide (i<(↑(List.map D.str nms).length:Int)) then bif decide (b≤a) then za (decide (0≤i)&&decide (i<(↑(List.map D.str nms).length:Int))) (ze (List.map D.str nms) i.toNat λ y=>ze y.cells 0 λ c=>match c with
 | D.str s=>bif decide (a<(↑s.length:Int)) then some (Out.ret (V.d (D.int .i64 (IntKind.i64.wrap (a+(1:Int))))),[]) else za (decide (0≤i)&&decide (i<(↑(List.map D.str nms).length:Int))) (ze (List.map D.str nms) i.toNat λ y=>ze y.cells 0 λ c=>match c with
  | D.str s=>LP cx (KB m) n 28 0 5 r [(1,V.d (D.int .i64 a)),(2,V.ptr 2 0),(5,V.d (D.int .i64 (IntKind.i64.wrap (IntKind.i64.wrap (b+(1:Int))+(↑s.length:Int))))),(6,V.d (D.int .i64 (IntKind.i64.wrap (i+(1:Int)))))] [(2,Ob.val 5 (V.d (D.agg [D.int .i64 k,D.str nm,D.sl 5 (T.ds kids),D.sl 1 (List.map D.str nms),D.int .i64 pl])))] (AK cx (KB m) n 28 0 5 (EK cx 28 0))
  | x=>none)
 | x=>none) else LP cx (KB m) n 28 0 11 n [(1,V.d (D.int .i64 a)),(2,V.ptr 2 0),(5,V.d (D.int .i64 b)),(7,V.d (D.int .i64 (0:Int)))] [(2,Ob.val 5 (V.d (D.agg [D.int .i64 k,D.str nm,D.sl 5 (T.ds kids),D.sl 1 (List.map D.str nms),D.int .i64 pl])))] (AK cx (KB m) n 28 0 11 (EK cx 28 0)) else LP cx (KB m) n 28 0 11 n [(1,V.d (D.int .i64 a)),(2,V.ptr 2 0),(5,V.d (D.int .i64 b)),(7,V.d (D.int .i64 (0:Int)))] [(2,Ob.val 5 (V.d (D.agg [D.int .i64 k,D.str nm,D.sl 5 (T.ds kids),D.sl 1 (List.map D.str nms),D.int .i64 pl])))] (AK cx (KB m) n 28 0 11 (EK cx 28 0)):=by kernel_rfl
theorem z8q(n m r:Nat)(k:Int)(nm:List UInt8)(kids:List T)(nms:List (List UInt8))(pl a b i:Int):LP cx (KB m) n 28 0 11 (r+1) [(1,V.d (D.int .i64 a)),(2,V.ptr 2 0),(5,V.d (D.int .i64 b)),(7,V.d (D.int .i64 i))] [(2,Ob.val 5 (V.d (D.agg [D.int .i64 k,D.str nm,D.sl 5 (T.ds kids),D.sl 1 (List.map D.str nms),D.int .i64 pl])))] (AK cx (KB m) n 28 0 11 (EK cx 28 0))=bif decide (i<(↑(T.ds kids).length:Int)) then bif decide (b≤a) then za (decide (0≤i)&&decide (i<(↑(T.ds kids).length:Int))) (ze (T.ds kids) i.toNat λ y=>ze y.cells 0 λ c=>ze y.cells 1 λ c_1=>ze y.cells 2 λ c_2=>ze y.cells 3 λ c_3=>ze y.cells 4 λ c_4=>zd (zd (zi m (D.agg [c,c_1,c_2,c_3,c_4])) λ t=>za (decide (0≤IntKind.i64.wrap (a - b))&&decide (IntKind.i64.wrap (a - b)≤1048576)) (some (t,IntKind.i64.wrap (a - b)))) λ b_1=>LP cx (KB m) n 28 0 11 r [(1,V.d (D.int .i64 a)),(2,V.ptr 2 0),(5,V.d (D.int .i64 (IntKind.i64.wrap (b+Sp.blk b_1.fst b_1.snd)))),(7,V.d (D.int .i64 (IntKind.i64.wrap (i+(1:Int)))))] [(2,Ob.val 5 (V.d (D.agg [D.int .i64 k,D.str nm,D.sl 5 (T.ds kids),D.sl 1 (List.map D.str nms),D.int .i64 pl])))] (AK cx (KB m) n 28 0 11 (EK cx 28 0))) else some (Out.ret (V.d (D.int .i64 b)),[]) else some (Out.ret (V.d (D.int .i64 b)),[]):=by kernel_rfl
theorem zci{α β:Type}{x:α}{K:α→Option β}:zd (some x) K=K x:=by unfold zd; simp
theorem zk9{x:Int}(h0 : -4294967296≤x)(h1:x≤17179869184):IntKind.i64.wrap x=x:=IntWalk.i64_in _ (by omega)
section
variable {n m:Nat} {k:Int} {nm:List UInt8} {kids:List T} {nms:List (List UInt8)} {pl a:Int}
theorem zrq(ha:0≤a)(ha2:a≤1048576)(hl:kids.length<4294967296)(hT:∀ t∈kids,zi m t.d=some t):∀ (rest:List T) (j r:Nat) (b:Int),kids.drop j=rest→j≤kids.length→rest.length<r→1≤b→b≤2 * a+2 →
  LP cx (KB m) n 28 0 11 r [(1,V.d (D.int .i64 a)),(2,V.ptr 2 0),(5,V.d (D.int .i64 b)),(7,V.d (D.int .i64 j))] [(2,Ob.val 5 (V.d (D.agg [D.int .i64 k,D.str nm,D.sl 5 (T.ds kids),D.sl 1 (List.map D.str nms),D.int .i64 pl])))] (AK cx (KB m) n 28 0 11 (EK cx 28 0))=some (.ret (mkI (zam rest a b)),[])
 | [],j,r,b,hd,hj,hk',hb,hb2=>by
  obtain ⟨r,rfl⟩:∃ i,r=i+1:=⟨r - 1,by omega⟩
  have:kids.length≤j:=by simpa using hd
  obtain rfl:j=kids.length:=by omega
  rw [z8q,yc,x6];simp [zam,mkI]
 | t::rest,j,r,b,hd,hj,hk',hb,hb2=>by
  obtain ⟨r,rfl⟩:∃ i,r=i+1:=⟨r - 1,by omega⟩
  obtain ⟨h1,h2,h3⟩:=zcc hd;rw [z8q,yc,yq h1];unfold zam;by_cases h:b≤a
  ·obtain ⟨q1,q2,_⟩:=zoh t (a - b) (by omega)
   have ih:=zrq ha ha2 hl hT rest (j+1) r (b+Sp.blk t (a - b)) h3 h1 (by simp at hk'; omega) (by omega) (by omega)
   rw [pa h,xi,yu,pm,h2,vh h1 hl,zk9 (x:=a - b) (by omega) (by omega)]
   simp only [cond_true,za,zd,Bool.and_self,xa,vq,zbm,zbt,zbs,zbr,za2,hT t (po h2)];rw [pa (p:=0≤a - b) (by omega),pa (p:=a - b≤1048576) (by omega)]
   simp only [Bool.and_self,cond_true];rw [zk9 (x:=b+Sp.blk t (a - b)) (by omega) (by omega)]
   exact ih
  ·rw [pb h];rfl
theorem zw9(ha:0≤a)(ha2:a≤1048576)(hn:4294967296<n)(hl:kids.length<4294967296)(hl2:nms.length<4294967296)(hT:∀ t∈kids,zi m t.d=some t):∀ (rest:List (List UInt8)) (j r:Nat) (b:Int),nms.drop j=rest→j≤nms.length→rest.length<r→1≤b→b≤2 * a+1 →
  LP cx (KB m) n 28 0 5 r [(1,V.d (D.int .i64 a)),(2,V.ptr 2 0),(5,V.d (D.int .i64 b)),(6,V.d (D.int .i64 j))] [(2,Ob.val 5 (V.d (D.agg [D.int .i64 k,D.str nm,D.sl 5 (T.ds kids),D.sl 1 (List.map D.str nms),D.int .i64 pl])))] (AK cx (KB m) n 28 0 5 (EK cx 28 0))=some (.ret (mkI (match zab a rest b with | some c=>zam kids a c | none=>a+1)),[])
 | [],j,r,b,hd,hj,hk',hb,hb2=>by
  obtain ⟨r,rfl⟩:∃ i,r=i+1:=⟨r - 1,by omega⟩
  have:nms.length≤j:=by simpa using hd
  obtain rfl:j=nms.length:=by omega
  have hB:=zrq (n:=n) (k:=k) (nm:=nm) (nms:=nms) (pl:=pl) ha ha2 hl hT kids 0 n b rfl (Nat.zero_le _) (by omega) hb (by omega)
  rw [z8r,pf,x6,cond_false];exact hB
 | x::rest,j,r,b,hd,hj,hk',hb,hb2=>by
  obtain ⟨r,rfl⟩:∃ i,r=i+1:=⟨r - 1,by omega⟩
  obtain ⟨h1,h2,h3⟩:=zcc hd;have hB:=zrq (n:=n) (k:=k) (nm:=nm) (nms:=nms) (pl:=pl) ha ha2 hl hT kids 0 n b rfl (Nat.zero_le _) (by omega) hb (by omega)
  rw [z8r,pf,yq h1];by_cases h:b≤a
  ·rw [pa h,xi,vh h1 hl2];simp only [cond_true,za,Bool.and_self,qg,pm,h2,zk0,vq];rw [zci];by_cases hx:a<(x.length:Int)
   ·have e:zab a (x::rest) b=none:=by unfold zab; rw [pa h,pa hx]; rfl
    rw [pa hx,zk9 (x:=a+1) (by omega) (by omega),e,cond_true]
    rfl
   ·have ih:=zw9 ha ha2 hn hl hl2 hT rest (j+1) r (b+1+x.length) h3 h1 (by simp at hk'; omega) (by omega) (by omega)
    have e:zab a (x::rest) b=zab a rest (b+1+x.length):=by 
     rw [zab,pa h,pb hx]; rfl
    rw [pb hx,cond_false,zci,e,zk9 (x:=b+1) (by omega) (by omega),zk9 (x:=b+1+x.length) (by omega) (by omega)]
    exact ih
  ·have e:zab a (x::rest) b=some b:=by unfold zab; rw [pb h]; rfl
   rw [e,pb h,cond_true,cond_false];exact hB
end
theorem z4z:∀ (m:Nat) (t:T) (a:Int),t.depth≤m→t.ok=true→0≤a→a≤1048576→zh cx 28 [.d t.d,.d (.int .i64 a)] []=some (.ret (mkI (Sp.blk t a)),[])
 | 0,.mk ..,_,h,_,_,_=>by simp [T.depth] at h
 | m+1,.mk k nm kids nms pl,a,hd,ho,ha,ha2=>by
  have hK:knows cx (KB m).S (zh cx):=zj zq λ ar q s _ har hs=>by
   obtain ⟨y,n⟩:=q;obtain rfl:=zio har;obtain ⟨t,ht,hs⟩:=zb hs;obtain ⟨hf,hs⟩:=zc hs;cases hs;obtain ⟨rfl,h1,h2⟩:=y6 ht;simp only [ph,decide_eq_true_eq] at hf;exact z4z m t n h1 h2 hf.1 hf.2
  obtain ⟨h1,h2,h3,h4,h5⟩:=zad ho;have hkd:=za0 hd;have hT:∀ t∈kids,zi m t.d=some t:=λ t h=>zc0 hkd h5 h;refine zl hK (N:=4294967297) ?_;refine (g33 4294967297 m k nm kids nms pl a).trans ?_;rw [pf];unfold Sp.blk;by_cases q1:a<(nm.length:Int)
  ·rw [pa q1,cond_true,Bool.true_or,cond_true,zk9 (x:=a+1) (by omega) (by omega)]
   rfl
  ·rw [pb q1,cond_false,Bool.false_or];by_cases q2:a<(nms.length:Int)
   ·rw [pa q2,cond_true,cond_true,zk9 (x:=a+1) (by omega) (by omega)]
    rfl
   ·rw [pb q2,cond_false,cond_false,zk9 (x:=1+nm.length) (by omega) (by omega)]
    exact zw9 ha ha2 (by omega) (y9 h2) (y9 h3) hT nms 0 4294967297 (1+nm.length) rfl (Nat.zero_le _) (by have:=y9 h3; omega) (by omega) (by omega)
theorem g18(n:Nat)(l:List T):zk cx K18 n 87 [.d (.sl 5 (T.ds l))] []=LP cx K18 n 87 0 2 n [(0,V.d (D.sl 5 (T.ds l))),(9,V.d (D.sl 5 (T.ds l))),(10,V.d (D.int .i64 (↑(T.ds l).length:Int))),(11,V.d (D.int .i64 (0:Int)))] [] (AK cx K18 n 87 0 2 (EK cx 87 0)):=by kernel_rfl
theorem z8t(n r:Nat)(l:List T)(i:Int):LP cx K18 n 87 0 2 (r+1) [(0,V.d (D.sl 5 (T.ds l))),(9,V.d (D.sl 5 (T.ds l))),(10,V.d (D.int .i64 (l.length:Int))),(11,V.d (D.int .i64 i))] [] (AK cx K18 n 87 0 2 (EK cx 87 0))=bif decide (i<(↑l.length:Int)) then za (decide (0≤i)&&decide (i<(↑(T.ds l).length:Int))) (ze (T.ds l) i.toNat λ y=>ze y.cells 0 λ c=>ze y.cells 1 λ c_1=>ze y.cells 2 λ c_2=>ze y.cells 3 λ c_3=>ze y.cells 4 λ c_4=>match c with
 | D.int k' n_1=>bif decide (k'=IntKind.i64) then bif !decide (n_1=(18:Int)) then some (Out.ret (V.tup [V.d (D.str []),V.d (D.int .i64 (61:Int))]),[]) else match c_1 with
  | D.str s=>za (decide (s.length≤big)) (bif !Sp.named s then some (Out.ret (V.tup [V.d (D.str []),V.d (D.int .i64 (61:Int))]),[]) else match c_3 with
   | D.sl s l_1=>bif s.beq (cx.P.cellsOf 9)||l_1.isEmpty then bif decide ((0:Int)<(↑l_1.length:Int)) then some (Out.ret (V.tup [V.d (D.str []),V.d (D.int .i64 (61:Int))]),[]) else match c_2 with
    | D.sl s l_2=>bif s.beq (cx.P.cellsOf 26)||l_2.isEmpty then bif !decide ((↑l_2.length:Int)=(2:Int)) then some (Out.ret (V.tup [V.d (D.str []),V.d (D.int .i64 (61:Int))]),[]) else match c_2 with
     | D.sl s l_3=>bif s.beq (cx.P.cellsOf 26)||l_3.isEmpty then za (decide ((0:Int)<(↑l_3.length:Int))) (ze l_3 (0:Int).toNat λ y=>ze y.cells 0 λ c=>ze y.cells 1 λ c_5=>ze y.cells 2 λ c_6=>ze y.cells 3 λ c_7=>ze y.cells 4 λ c_8=>zd (Sp.toC (D.agg [c,c_5,c_6,c_7,c_8])) λ b=>bif !Sp.right b then some (Out.ret (V.tup [V.d (D.str []),V.d (D.int .i64 (61:Int))]),[]) else match c_2 with
      | D.sl s l_4=>bif s.beq (cx.P.cellsOf 26)||l_4.isEmpty then za (decide ((1:Int)<(↑l_4.length:Int))) (ze l_4 (1:Int).toNat λ y=>ze y.cells 0 λ c=>ze y.cells 1 λ c_9=>ze y.cells 2 λ c_10=>ze y.cells 3 λ c_11=>ze y.cells 4 λ c_12=>zd (Sp.toC (D.agg [c,c_9,c_10,c_11,c_12])) λ b=>bif !Sp.right b then some (Out.ret (V.tup [V.d (D.str []),V.d (D.int .i64 (61:Int))]),[]) else LP cx K18 n 87 0 2 r [(0,V.d (D.sl 5 (T.ds l))),(9,V.d (D.sl 5 (T.ds l))),(10,V.d (D.int .i64 (↑l.length:Int))),(11,V.d (D.int .i64 (IntKind.i64.wrap (i+(1:Int)))))] [] (AK cx K18 n 87 0 2 (EK cx 87 0))) else none
      | x=>none) else none
     | x=>none else none
    | x=>none else none
   | x=>none)
  | x=>none else none
 | x=>none) else LP cx K18 n 87 0 9 n [(6,V.ptr 54 0),(55,V.d (D.sl 5 (T.ds l))),(56,V.d (D.int .i64 (↑(T.ds l).length:Int))),(57,V.d (D.int .i64 (0:Int)))] [(54,Ob.val 187695107 (V.agg [V.d D.nilptr,V.sl 6291457 [] 142,V.d (D.bool false)])),(142,Ob.tok 0)] (AK cx K18 n 87 0 9 (EK cx 87 0)):=by kernel_rfl
theorem z8s(n r:Nat)(l:List T)(L:List D)(i:Int):LP cx K18 n 87 0 9 (r+1) [(6,V.ptr 54 0),(55,V.d (D.sl 5 (T.ds l))),(56,V.d (D.int .i64 (l.length:Int))),(57,V.d (D.int .i64 i))] [(54,Ob.val 187695107 (V.agg [V.ptr 54 0,V.sl 6291457 L 142,V.d (D.bool false)])),(142,Ob.tok L.length)] (AK cx K18 n 87 0 9 (EK cx 87 0))=bif decide (i<(↑l.length:Int)) then za (decide (0≤i)&&decide (i<(↑(T.ds l).length:Int))) (ze (T.ds l) i.toNat λ y=>ze y.cells 0 λ c=>ze y.cells 1 λ c=>ze y.cells 2 λ c_1=>ze y.cells 3 λ c_2=>ze y.cells 4 λ c_3=>match c with
 | D.str s=>za (Sp.fit L.length L) (za (Sp.room L (s++([32,58,32]++[]))) (match c_1 with
  | D.sl s_1 l_1=>bif s_1.beq (cx.P.cellsOf 26)||l_1.isEmpty then za (decide ((0:Int)<(↑l_1.length:Int))) (ze l_1 (0:Int).toNat λ y=>ze y.cells 0 λ c=>ze y.cells 1 λ c_4=>ze y.cells 2 λ c_5=>ze y.cells 3 λ c_6=>ze y.cells 4 λ c_7=>zd (zd (Sp.toC (D.agg [c,c_4,c_5,c_6,c_7])) λ t=>za (Sp.right t) (some (Sp.text t (0:Int)))) λ s_2=>za (Sp.fit (Sp.app L (s++([32,58,32]++[]))).length (Sp.app L (s++([32,58,32]++[])))) (za (Sp.room (Sp.app L (s++([32,58,32]++[]))) s_2) (za (Sp.fit (Sp.app (Sp.app L (s++([32,58,32]++[]))) s_2).length (Sp.app (Sp.app L (s++([32,58,32]++[]))) s_2)) (za (Sp.room (Sp.app (Sp.app L (s++([32,58,32]++[]))) s_2) [32,61,32]) (match c_1 with
   | D.sl s_3 l_2=>bif s_3.beq (cx.P.cellsOf 26)||l_2.isEmpty then za (decide ((1:Int)<(↑l_2.length:Int))) (ze l_2 (1:Int).toNat λ y=>ze y.cells 0 λ c=>ze y.cells 1 λ c_8=>ze y.cells 2 λ c_9=>ze y.cells 3 λ c_10=>ze y.cells 4 λ c_11=>zd (zd (Sp.toC (D.agg [c,c_8,c_9,c_10,c_11])) λ t=>za (Sp.right t) (some (Sp.text t (0:Int)))) λ s_4=>za (Sp.fit (Sp.app (Sp.app (Sp.app L (s++([32,58,32]++[]))) s_2) [32,61,32]).length (Sp.app (Sp.app (Sp.app L (s++([32,58,32]++[]))) s_2) [32,61,32])) (za (Sp.room (Sp.app (Sp.app (Sp.app L (s++([32,58,32]++[]))) s_2) [32,61,32]) s_4) (za (Sp.fit (Sp.app (Sp.app (Sp.app (Sp.app L (s++([32,58,32]++[]))) s_2) [32,61,32]) s_4).length (Sp.app (Sp.app (Sp.app (Sp.app L (s++([32,58,32]++[]))) s_2) [32,61,32]) s_4)) (za (Sp.room (Sp.app (Sp.app (Sp.app (Sp.app L (s++([32,58,32]++[]))) s_2) [32,61,32]) s_4) [59,10]) (LP cx K18 n 87 0 9 r [(6,V.ptr 54 0),(55,V.d (D.sl 5 (T.ds l))),(56,V.d (D.int .i64 (↑l.length:Int))),(57,V.d (D.int .i64 (IntKind.i64.wrap (i+(1:Int)))))] [(54,Ob.val 187695107 (V.agg [V.ptr 54 0,V.sl 6291457 (Sp.app (Sp.app (Sp.app (Sp.app (Sp.app L (s++([32,58,32]++[]))) s_2) [32,61,32]) s_4) [59,10]) 142,V.d (D.bool false)])),(142,Ob.tok (Sp.app (Sp.app (Sp.app (Sp.app (Sp.app L (s++([32,58,32]++[]))) s_2) [32,61,32]) s_4) [59,10]).length)] (AK cx K18 n 87 0 9 (EK cx 87 0))))))) else none
   | x=>none))))) else none
  | x=>none))
 | x=>none) else zd (Sp.bytes L) λ s=>za (Sp.fit L.length L) (za (decide (L.length≤65536)) (some (Out.ret (V.tup [V.d (D.str s),V.d (D.int .i64 (0:Int))]),[]))):=by kernel_rfl
theorem z40(n r:Nat)(l:List T)(L:List D)(i:Int):LP cx K18 n 87 0 9 (r+1) [(6,V.ptr 54 0),(55,V.d (D.sl 5 (T.ds l))),(56,V.d (D.int .i64 (l.length:Int))),(57,V.d (D.int .i64 i))] [(54,Ob.val 187695107 (V.agg [V.d D.nilptr,V.sl 6291457 L 142,V.d (D.bool false)])),(142,Ob.tok L.length)] (AK cx K18 n 87 0 9 (EK cx 87 0))=bif decide (i<(↑l.length:Int)) then za (decide (0≤i)&&decide (i<(↑(T.ds l).length:Int))) (ze (T.ds l) i.toNat λ y=>ze y.cells 0 λ c=>ze y.cells 1 λ c=>ze y.cells 2 λ c_1=>ze y.cells 3 λ c_2=>ze y.cells 4 λ c_3=>match c with
 | D.str s=>za (Sp.fit L.length L) (za (Sp.room L (s++([32,58,32]++[]))) (match c_1 with
  | D.sl s_1 l_1=>bif s_1.beq (cx.P.cellsOf 26)||l_1.isEmpty then za (decide ((0:Int)<(↑l_1.length:Int))) (ze l_1 (0:Int).toNat λ y=>ze y.cells 0 λ c=>ze y.cells 1 λ c_4=>ze y.cells 2 λ c_5=>ze y.cells 3 λ c_6=>ze y.cells 4 λ c_7=>zd (zd (Sp.toC (D.agg [c,c_4,c_5,c_6,c_7])) λ t=>za (Sp.right t) (some (Sp.text t (0:Int)))) λ s_2=>za (Sp.fit (Sp.app L (s++([32,58,32]++[]))).length (Sp.app L (s++([32,58,32]++[])))) (za (Sp.room (Sp.app L (s++([32,58,32]++[]))) s_2) (za (Sp.fit (Sp.app (Sp.app L (s++([32,58,32]++[]))) s_2).length (Sp.app (Sp.app L (s++([32,58,32]++[]))) s_2)) (za (Sp.room (Sp.app (Sp.app L (s++([32,58,32]++[]))) s_2) [32,61,32]) (match c_1 with
   | D.sl s_3 l_2=>bif s_3.beq (cx.P.cellsOf 26)||l_2.isEmpty then za (decide ((1:Int)<(↑l_2.length:Int))) (ze l_2 (1:Int).toNat λ y=>ze y.cells 0 λ c=>ze y.cells 1 λ c_8=>ze y.cells 2 λ c_9=>ze y.cells 3 λ c_10=>ze y.cells 4 λ c_11=>zd (zd (Sp.toC (D.agg [c,c_8,c_9,c_10,c_11])) λ t=>za (Sp.right t) (some (Sp.text t (0:Int)))) λ s_4=>za (Sp.fit (Sp.app (Sp.app (Sp.app L (s++([32,58,32]++[]))) s_2) [32,61,32]).length (Sp.app (Sp.app (Sp.app L (s++([32,58,32]++[]))) s_2) [32,61,32])) (za (Sp.room (Sp.app (Sp.app (Sp.app L (s++([32,58,32]++[]))) s_2) [32,61,32]) s_4) (za (Sp.fit (Sp.app (Sp.app (Sp.app (Sp.app L (s++([32,58,32]++[]))) s_2) [32,61,32]) s_4).length (Sp.app (Sp.app (Sp.app (Sp.app L (s++([32,58,32]++[]))) s_2) [32,61,32]) s_4)) (za (Sp.room (Sp.app (Sp.app (Sp.app (Sp.app L (s++([32,58,32]++[]))) s_2) [32,61,32]) s_4) [59,10]) (LP cx K18 n 87 0 9 r [(6,V.ptr 54 0),(55,V.d (D.sl 5 (T.ds l))),(56,V.d (D.int .i64 (↑l.length:Int))),(57,V.d (D.int .i64 (IntKind.i64.wrap (i+(1:Int)))))] [(54,Ob.val 187695107 (V.agg [V.ptr 54 0,V.sl 6291457 (Sp.app (Sp.app (Sp.app (Sp.app (Sp.app L (s++([32,58,32]++[]))) s_2) [32,61,32]) s_4) [59,10]) 142,V.d (D.bool false)])),(142,Ob.tok (Sp.app (Sp.app (Sp.app (Sp.app (Sp.app L (s++([32,58,32]++[]))) s_2) [32,61,32]) s_4) [59,10]).length)] (AK cx K18 n 87 0 9 (EK cx 87 0))))))) else none
   | x=>none))))) else none
  | x=>none))
 | x=>none) else zd (Sp.bytes L) λ s=>za (Sp.fit L.length L) (za (decide (L.length≤65536)) (some (Out.ret (V.tup [V.d (D.str s),V.d (D.int .i64 (0:Int))]),[]))):=by kernel_rfl
def yr:T→Bool | .mk k nm [a,b] [] _=>decide (k=18)&&Sp.named nm&&Sp.right a&&Sp.right b | _=>false
def qw:T→List UInt8 | .mk _ nm [a,b] _ _=>nm++[32,58,32]++Sp.text a 0++[32,61,32]++Sp.text b 0++[59,10] | _=>[]
def wx(l:List T):List UInt8:=(l.map qw).flatten
def zec(l:List T):List UInt8×Int:=bif l.all yr then (wx l,0) else ([],61)
theorem zy5(t:T):(qw t).length≤12 * yo t:=by
 obtain ⟨k,nm,kids,nms,pl⟩:=t;rcases kids with _ | ⟨a,_ | ⟨b,_ | ⟨c,l⟩⟩⟩
 ·simp [qw]
 ·simp [qw]
 ·have:=zsq a 0;have:=zsq b 0;simp only [qw,yo,Sp.bulks,pe,List.length_cons,List.length_nil];omega
 ·simp [qw]
theorem znv:∀ l:List T,(wx l).length≤12 * Sp.bulks l
 | []=>by simp [wx]
 | t::l=>by
  have:=zy5 t;have:=znv l;simp only [wx,List.map_cons,List.flatten_cons,pe,Sp.bulks] at this ⊢;omega
theorem zv1{t:T}(h:yr t=true):∃ nm a b pl,t=.mk 18 nm [a,b] [] pl∧Sp.named nm=true∧Sp.right a=true∧Sp.right b=true:=by
 obtain ⟨k,nm,kids,nms,pl⟩:=t;rcases kids with _ | ⟨a,_ | ⟨b,_ | ⟨c,l⟩⟩⟩ <;> rcases nms with _ | ⟨x,r⟩ <;> simp [yr] at h
 obtain ⟨⟨⟨rfl,h1⟩,h2⟩,h3⟩:=h;exact ⟨nm,a,b,pl,rfl,h1,h2,h3⟩
def prV(u:Bool):V:=match u with | true=>.ptr 54 0 | false=>.d .nilptr
abbrev L18 (n r:Nat) (l:List T) (u:Bool) (L:List D) (i:Int):Option R1:=
 LP cx K18 n 87 0 9 r [(6,V.ptr 54 0),(55,V.d (D.sl 5 (T.ds l))),(56,V.d (D.int .i64 (l.length:Int))),(57,V.d (D.int .i64 i))] [(54,Ob.val 187695107 (V.agg [prV u,V.sl 6291457 L 142,V.d (D.bool false)])),(142,Ob.tok L.length)] (AK cx K18 n 87 0 9 (EK cx 87 0))
theorem zxa(n:Nat){l:List T}(hl:l.length<4294967296)(ho:T.oks l=true)(hd0:∀ t∈l,yr t=true):∀ (rest:List T) (j r:Nat) (u:Bool) (s:List UInt8),l.drop j=rest→j≤l.length→rest.length<r→s.length+(wx rest).length≤65536 →
  L18 n r l u (Sp.app [] s) j=some (.ret (mkE (s++wx rest,0)),[])
 | [],j,r,u,s,hd,hj,hk',hb=>by
  obtain ⟨r,rfl⟩:∃ i,r=i+1:=⟨r - 1,by omega⟩
  have:l.length≤j:=by simpa using hd
  obtain rfl:j=l.length:=by omega
  have e:(Sp.app [] s).length≤65536:=by rw [xl]; simp; omega
  simp only [L18,wx,List.map_nil,List.flatten_nil,List.append_nil];cases u
  ·refine (z40 n r l (Sp.app [] s) l.length).trans ?_;rw [x6,cond_false,zqx];simp only [za,zz,cond_true,zci];rw [pa e];rfl
  ·refine (z8s n r l (Sp.app [] s) l.length).trans ?_;rw [x6,cond_false,zqx];simp only [za,zz,cond_true,zci];rw [pa e];rfl
 | t::rest,j,r,u,s,hd,hj,hk',hb=>by
  obtain ⟨r,rfl⟩:∃ i,r=i+1:=⟨r - 1,by omega⟩
  obtain ⟨h1,h2,h3⟩:=zcc hd;have htm:=po h2;obtain ⟨nm,a,b,pl,rfl,hn,ha,hbb⟩:=zv1 (hd0 t htm);obtain ⟨_,_,_,_,o5⟩:=zad (vp ho htm);have ih:=zxa n hl ho hd0 rest (j+1) r true (s++qw (.mk 18 nm [a,b] [] pl)) h3 h1 (by simp at hk'; omega) (by simp only [wx,List.map_cons,List.flatten_cons,pe] at hb ⊢; omega)
  have e:s++wx (.mk 18 nm [a,b] [] pl::rest)=s++qw (.mk 18 nm [a,b] [] pl)++wx rest:=by simp [wx]
  rw [e,←ih];have hlen:s.length+(nm.length+3+(Sp.text a 0).length+3+(Sp.text b 0).length+2)≤65536:=by
   simp only [wx,List.map_cons,List.flatten_cons,pe,qw,List.length_cons,List.length_nil] at hb;omega
  have e0:decide ((0:Int)<((T.ds [a,b]).length:Int))=true:=by rw [yc]; rfl
  have e1:decide ((1:Int)<((T.ds [a,b]).length:Int))=true:=by rw [yc]; rfl
  have n0:[a,b][(0:Int).toNat]?=some a:=rfl;have n1:[a,b][(1:Int).toNat]?=some b:=rfl;have hCa:Sp.toC a.d=some a:=zhd o5 (by simp)
  have hCb:Sp.toC b.d=some b:=zhd o5 (by simp)
  have hal:(Sp.app [] s).length=s.length:=by rw [xl]; simp
  simp only [L18];cases u
  ·refine (z40 n r l (Sp.app [] s) j).trans ?_;rw [yq h1,yc,yq h1,xi,yu,pm,h2,vh h1 hl,zci];simp only [cond_true,za,Bool.and_self,↓ze1,vq,zbm,zbt,zbs,zbr,zz,zpl,Bool.true_or,e0,e1,yu,n0,n1,xa,zsd,zrn,hCa,hCb,zci,ha,hbb];simp (disch:=((try simp only [xl,hal,pe,List.length_cons,List.length_nil]); omega)) only [xx,cond_true]
   simp [xb,prV,qw]
  ·refine (z8s n r l (Sp.app [] s) j).trans ?_;rw [yq h1,yc,yq h1,xi,yu,pm,h2,vh h1 hl,zci];simp only [cond_true,za,Bool.and_self,↓ze1,vq,zbm,zbt,zbs,zbr,zz,zpl,Bool.true_or,e0,e1,yu,n0,n1,xa,zsd,zrn,hCa,hCb,zci,ha,hbb];simp (disch:=((try simp only [xl,hal,pe,List.length_cons,List.length_nil]); omega)) only [xx,cond_true]
   simp [xb,prV,qw]
theorem z3m(l:List T)(hl:yi l=true)(ho:T.oks l=true)(hb:12 * Sp.bulks l≤65536):zh cx 87 [.d (.sl 5 (T.ds l))] []=some (.ret (mkE (zec l)),[]):=by
 refine zl zz1 (N:=l.length+1) ?_;rw [g18]
 have h:=zby (λ r i=>LP cx K18 (l.length+1) 87 0 2 r [(0,V.d (D.sl 5 (T.ds l))),(9,V.d (D.sl 5 (T.ds l))),(10,V.d (D.int .i64 (l.length:Int))),(11,V.d (D.int .i64 i))] [] (AK cx K18 (l.length+1) 87 0 2 (EK cx 87 0)))
  l (λ t=>!yr t) (λ j=>some (Out.ret (mkE ([],61)),[])) (L18 (l.length+1) (l.length+1) l false [] 0) (y9 hl)
  (λ r j x hj hx=>by
   rw [z8t,yc,yq hj,xi,yu,pm,hx,zci];obtain ⟨q1,q2,q3,q4,q5⟩:yi x.nm=true∧yi x.kids=true∧yi x.nms=true∧x.nms.all yi=true∧T.oks x.kids=true:=by
    have:=vp ho (po hx);cases x; exact zad this
   have hC:∀ t∈x.kids,Sp.toC t.d=some t:=λ t h=>zhd q5 h;generalize LP cx K18 (l.length+1) 87 0 2 r _ _ _=Z;obtain ⟨k',nm',kids',nms',pl'⟩:=x;simp only [zw7,zfm,zrm] at q1 q2 q3 q4 q5 hC;simp only [cond_true,za,zci,Bool.and_self,↓ze1,vq,zbm,zbt,zbs,zbr,decide_true,z7h,zpl,Bool.true_or,yc,pf,zyk,zxb,zyl,z1f,zyi,yu,xa,zsd,zrn,zep q1];have hk:k'=18∨k' ≠ 18:=by omega
   rcases hk with rfl | hk <;> rcases kids' with _ | ⟨b,_ | ⟨c,_ | ⟨d,l⟩⟩⟩ <;> rcases nms' with _ | ⟨y,nms'⟩ <;> simp [yr,hC,zci,mkE, *]
   cases Sp.named nm' <;> cases Sp.right b <;> cases Sp.right c <;> rfl)
  (λ r=>by rw [z8t,x6,cond_false,yc]; rfl) (k:=l.length+1) (by omega)
 rw [yc];refine h.trans ?_;unfold zec;have e:l.all yr = !(l.any λ s=>!yr s):=by rw [List.not_any_eq_all_not]; simp
 cases hf:yl (λ t=>!yr t) l 0 with
 | some j=>
  have:l.any (λ s=>!yr s)=true:=by rw [←zex l 0,hf]; rfl
  rw [e,this];rfl
 | none=>
  have h0:l.any (λ s=>!yr s)=false:=by rw [←zex l 0,hf]; rfl
  have hall:∀ t∈l,yr t=true:=by
   have:l.all yr=true:=by rw [e,h0]; rfl
   exact List.all_eq_true.1 this
  have:=znv l;have hL:=zxa (l.length+1) (y9 hl) ho hall l 0 (l.length+1) false [] rfl (Nat.zero_le _) (by omega) (by simp; omega)
  rw [e,h0];exact hL
end Go.Vai
end
section
namespace Go.Proofs
open Go.Shelf
def Tryz.growS_ren:Go.Shelf.Ren:=⟨λ | 4=>165 | n=>n,λ | 22=>23 | 25=>9 | 3=>3 | 4=>4 | 9=>9 | 20=>20 | 0=>0 | n=>n,λ | n=>n⟩
theorem Tryz.growS:Go.Proofs.Lays8.n4 Tryz.prog Tryz.growS_ren:={
 mixed:=by kernel_rfl
 f4:=⟨Tryz.f165.name,by decide,Tryz.func165.trans (congrArg some (by kernel_rfl))⟩
 t0:=Tryz.underlying0
 a0:=Tryz.isAgg0
 z0:=Tryz.sizeOf0
 v0:=Tryz.zeroValue0
 t3:=Tryz.underlying3
 a3:=Tryz.isAgg3
 z3:=Tryz.sizeOf3
 v3:=Tryz.zeroValue3
 t4:=Tryz.underlying4
 a4:=Tryz.isAgg4
 z4:=Tryz.sizeOf4
 v4:=Tryz.zeroValue4
 t9:=Tryz.underlying9
 a9:=Tryz.isAgg9
 z9:=Tryz.sizeOf9
 v9:=Tryz.zeroValue9
 t20:=Tryz.underlying20
 a20:=Tryz.isAgg20
 z20:=Tryz.sizeOf20
 v20:=Tryz.zeroValue20
 t22:=Tryz.underlying23
 a22:=Tryz.isAgg23
 z22:=Tryz.sizeOf23
 v22:=Tryz.zeroValue23 }
def Tryz.lays169_ren:Go.Shelf.Ren:=⟨λ | 169=>164 | n=>n,λ | 70=>173 | 9=>9 | 0=>0 | 72=>176 | 37=>174 | 127=>232 | 3=>3 | 5=>5 | n=>n,λ | n=>n⟩
theorem Tryz.lays169:Go.Proofs.Lays.n169 Tryz.prog Tryz.lays169_ren:={
 mixed:=by kernel_rfl
 f169:=Tryz.func164.trans (congrArg some (by kernel_rfl))
 t0:=Tryz.underlying0
 a0:=Tryz.isAgg0
 z0:=Tryz.sizeOf0
 v0:=Tryz.zeroValue0
 t3:=Tryz.underlying3
 a3:=Tryz.isAgg3
 z3:=Tryz.sizeOf3
 v3:=Tryz.zeroValue3
 t9:=Tryz.underlying9
 a9:=Tryz.isAgg9
 z9:=Tryz.sizeOf9
 v9:=Tryz.zeroValue9
 t37:=Tryz.underlying174
 a37:=Tryz.isAgg174
 z37:=Tryz.sizeOf174
 v37:=Tryz.zeroValue174
 t70:=Tryz.underlying173
 a70:=Tryz.isAgg173
 z70:=Tryz.sizeOf173
 v70:=Tryz.zeroValue173
 t72:=Tryz.underlying176
 a72:=Tryz.isAgg176
 z72:=Tryz.sizeOf176
 v72:=Tryz.zeroValue176
 t127:=Tryz.underlying232
 a127:=Tryz.isAgg232
 z127:=Tryz.sizeOf232
 v127:=Tryz.zeroValue232 }
theorem Tryz.Builder_Extra_169:Builder.Extra Tryz.prog Tryz.lays169_ren:={
 sizeBuilder:=by kernel_rfl
 liesBuilder:=by kernel_rfl
 t5:=Tryz.underlying5
 a5:=Tryz.isAgg5
 z5:=Tryz.sizeOf5
 v5:=Tryz.zeroValue5
 infoByte:=by kernel_rfl
 cellsByte:=by kernel_rfl
 sizeByte:=by kernel_rfl
 neB5:=by decide }
open Go.RowKit in
def Tryz.lays156_ren:Go.Shelf.Ren:=⟨λ | 156=>192 | 165=>215 | 166=>159 | 169=>164 | 240=>191 | 241=>231 | 276=>214 | 277=>242 | n=>n,λ | 31=>23 | 9=>9 | 3=>3 | 4=>4 | 0=>0 | 20=>20 | 72=>176 | 76=>204 | 70=>173 | 37=>174 | 75=>203 | 127=>232 | 164=>237 | 5=>5 | 80=>155 | n=>n,λ | n=>n⟩
theorem Tryz.lays156:Go.Proofs.Lays.n156 Tryz.prog Tryz.lays156_ren:={
 mixed:=by kernel_rfl
 f156:=Tryz.func192.trans (congrArg some (by kernel_rfl))
 f165:=Tryz.func215.trans (congrArg some (by kernel_rfl))
 f166:=Tryz.func159.trans (congrArg some (by kernel_rfl))
 f169:=Tryz.func164.trans (congrArg some (by kernel_rfl))
 f240:=Tryz.func191.trans (congrArg some (by kernel_rfl))
 f241:=Tryz.func231.trans (congrArg some (by kernel_rfl))
 f276:=Tryz.func214.trans (congrArg some (by kernel_rfl))
 f277:=Tryz.func242.trans (congrArg some (by kernel_rfl))
 t0:=Tryz.underlying0
 a0:=Tryz.isAgg0
 z0:=Tryz.sizeOf0
 v0:=Tryz.zeroValue0
 t3:=Tryz.underlying3
 a3:=Tryz.isAgg3
 z3:=Tryz.sizeOf3
 v3:=Tryz.zeroValue3
 t4:=Tryz.underlying4
 a4:=Tryz.isAgg4
 z4:=Tryz.sizeOf4
 v4:=Tryz.zeroValue4
 t9:=Tryz.underlying9
 a9:=Tryz.isAgg9
 z9:=Tryz.sizeOf9
 v9:=Tryz.zeroValue9
 t20:=Tryz.underlying20
 a20:=Tryz.isAgg20
 z20:=Tryz.sizeOf20
 v20:=Tryz.zeroValue20
 t31:=Tryz.underlying23
 a31:=Tryz.isAgg23
 z31:=Tryz.sizeOf23
 v31:=Tryz.zeroValue23
 t37:=Tryz.underlying174
 a37:=Tryz.isAgg174
 z37:=Tryz.sizeOf174
 v37:=Tryz.zeroValue174
 t70:=Tryz.underlying173
 a70:=Tryz.isAgg173
 z70:=Tryz.sizeOf173
 v70:=Tryz.zeroValue173
 t72:=Tryz.underlying176
 a72:=Tryz.isAgg176
 z72:=Tryz.sizeOf176
 v72:=Tryz.zeroValue176
 t75:=Tryz.underlying203
 a75:=Tryz.isAgg203
 z75:=Tryz.sizeOf203
 v75:=Tryz.zeroValue203
 t76:=Tryz.underlying204
 a76:=Tryz.isAgg204
 z76:=Tryz.sizeOf204
 v76:=Tryz.zeroValue204
 t127:=Tryz.underlying232
 a127:=Tryz.isAgg232
 z127:=Tryz.sizeOf232
 v127:=Tryz.zeroValue232
 t164:=Tryz.underlying237
 a164:=Tryz.isAgg237
 z164:=Tryz.sizeOf237
 v164:=Tryz.zeroValue237 }
theorem Tryz.Builder_Extra_156:Builder.Extra Tryz.prog Tryz.lays156_ren:={
 sizeBuilder:=by kernel_rfl
 liesBuilder:=by kernel_rfl
 t5:=Tryz.underlying5
 a5:=Tryz.isAgg5
 z5:=Tryz.sizeOf5
 v5:=Tryz.zeroValue5
 infoByte:=by kernel_rfl
 cellsByte:=by kernel_rfl
 sizeByte:=by kernel_rfl
 neB5:=by decide }
open Go.RowKit in
theorem Tryz.strings_Join_none(a:Option Addr)(c:Nat)(sep:ByteArray)(w:World) :
  Calls Tryz.prog 192 #[.slice a 0 c,.string sep] w λ e w'=>e=.returned (.string ⟨#[]⟩)∧w'=w:=Any.strings_Join_none Tryz.lays156 Tryz.Builder_Extra_156 a c sep w
open Go.RowKit in
theorem Tryz.strings_Join(bk o c:Nat)(xs:List ByteArray)(sep:ByteArray)(w:World)(hcells:∀ (j:Nat) x,xs[j]?=some x→w.cell? ⟨bk,o+j,none⟩=some (.string x))(hbk:bk<w.heap.size)(hN:xs.length≤140737488355328)(hcap:xs.length≤c)(hlen:(Lib.join (xs.map (·.data.toList)) sep.data.toList).length≤140737488355328) :
  Calls Tryz.prog 192 #[.slice (some ⟨bk,o,none⟩) xs.length c,.string sep] w λ e w'=>e=.returned (.string ⟨(Lib.join (xs.map (·.data.toList)) sep.data.toList).toArray⟩)∧Below w.heap.size w w':=Any.strings_Join Tryz.lays156 Tryz.Builder_Extra_156 bk o c xs sep w hcells hbk hN hcap hlen
def Tryz.lays189_ren:Go.Shelf.Ren:=⟨λ | 189=>49 | 125=>86 | 257=>85 | 128=>124 | 129=>125 | 294=>115 | 295=>116 | 296=>117 | 297=>118 | 298=>119 | 299=>120 | 216=>121 | 300=>122 | 301=>123 | 328=>152 | 329=>153 | 330=>154 | 331=>155 | 332=>156 | 215=>157 | 343=>190 | n=>n,λ | 28=>47 | 3=>3 | 46=>140 | 0=>0 | 51=>78 | 53=>44 | 4=>4 | 183=>164 | 182=>163 | 131=>102 | 5=>5 | 9=>9 | 218=>196 | 222=>200 | 228=>229 | 229=>230 | n=>n,λ | n=>n⟩
theorem Tryz.lays189:Go.Proofs.Lays.n189 Tryz.prog Tryz.lays189_ren:={
 mixed:=by kernel_rfl
 f125:=Tryz.func86.trans (congrArg some (by kernel_rfl))
 f128:=Tryz.func124.trans (congrArg some (by kernel_rfl))
 f129:=Tryz.func125.trans (congrArg some (by kernel_rfl))
 f189:=Tryz.func49.trans (congrArg some (by kernel_rfl))
 f215:=Tryz.func157.trans (congrArg some (by kernel_rfl))
 f216:=Tryz.func121.trans (congrArg some (by kernel_rfl))
 f257:=Tryz.func85.trans (congrArg some (by kernel_rfl))
 f294:=Tryz.func115.trans (congrArg some (by kernel_rfl))
 f295:=Tryz.func116.trans (congrArg some (by kernel_rfl))
 f296:=Tryz.func117.trans (congrArg some (by kernel_rfl))
 f297:=Tryz.func118.trans (congrArg some (by kernel_rfl))
 f298:=Tryz.func119.trans (congrArg some (by kernel_rfl))
 f299:=Tryz.func120.trans (congrArg some (by kernel_rfl))
 f300:=Tryz.func122.trans (congrArg some (by kernel_rfl))
 f301:=Tryz.func123.trans (congrArg some (by kernel_rfl))
 f328:=Tryz.func152.trans (congrArg some (by kernel_rfl))
 f329:=Tryz.func153.trans (congrArg some (by kernel_rfl))
 f330:=Tryz.func154.trans (congrArg some (by kernel_rfl))
 f331:=Tryz.func155.trans (congrArg some (by kernel_rfl))
 f332:=Tryz.func156.trans (congrArg some (by kernel_rfl))
 f343:=Tryz.func190.trans (congrArg some (by kernel_rfl))
 t0:=Tryz.underlying0
 a0:=Tryz.isAgg0
 z0:=Tryz.sizeOf0
 v0:=Tryz.zeroValue0
 t3:=Tryz.underlying3
 a3:=Tryz.isAgg3
 z3:=Tryz.sizeOf3
 v3:=Tryz.zeroValue3
 t4:=Tryz.underlying4
 a4:=Tryz.isAgg4
 z4:=Tryz.sizeOf4
 v4:=Tryz.zeroValue4
 t5:=Tryz.underlying5
 a5:=Tryz.isAgg5
 z5:=Tryz.sizeOf5
 v5:=Tryz.zeroValue5
 t9:=Tryz.underlying9
 a9:=Tryz.isAgg9
 z9:=Tryz.sizeOf9
 v9:=Tryz.zeroValue9
 t28:=Tryz.underlying47
 a28:=Tryz.isAgg47
 z28:=Tryz.sizeOf47
 v28:=Tryz.zeroValue47
 t46:=Tryz.underlying140
 a46:=Tryz.isAgg140
 z46:=Tryz.sizeOf140
 v46:=Tryz.zeroValue140
 t51:=Tryz.underlying78
 a51:=Tryz.isAgg78
 z51:=Tryz.sizeOf78
 v51:=Tryz.zeroValue78
 t53:=Tryz.underlying44
 a53:=Tryz.isAgg44
 z53:=Tryz.sizeOf44
 v53:=Tryz.zeroValue44
 t131:=Tryz.underlying102
 a131:=Tryz.isAgg102
 z131:=Tryz.sizeOf102
 v131:=Tryz.zeroValue102
 t182:=Tryz.underlying163
 a182:=Tryz.isAgg163
 z182:=Tryz.sizeOf163
 v182:=Tryz.zeroValue163
 t183:=Tryz.underlying164
 a183:=Tryz.isAgg164
 z183:=Tryz.sizeOf164
 v183:=Tryz.zeroValue164
 t218:=Tryz.underlying196
 a218:=Tryz.isAgg196
 z218:=Tryz.sizeOf196
 v218:=Tryz.zeroValue196
 t222:=Tryz.underlying200
 a222:=Tryz.isAgg200
 z222:=Tryz.sizeOf200
 v222:=Tryz.zeroValue200
 t228:=Tryz.underlying229
 a228:=Tryz.isAgg229
 z228:=Tryz.sizeOf229
 v228:=Tryz.zeroValue229
 t229:=Tryz.underlying230
 a229:=Tryz.isAgg230
 z229:=Tryz.sizeOf230
 v229:=Tryz.zeroValue230 }
open Go.Sort Go.RowKit in
theorem Tryz.slices_Sort_int(blk off cap:Nat)(zs:List Int)(w:World)(hH:Holds (Value.int .i64) w blk off zs.toArray)(hblk:blk<w.heap.size)(hsz:zs.length<4611686018427387904) :
  Calls Tryz.prog 49 #[.slice (some ⟨blk,off,none⟩) zs.length cap] w λ e w'=>
   e=.returned (.tuple #[])∧∃ n os,w'=grow (putRow (Value.int .i64) (Sort.ahead w n) blk off (zs.mergeSort λ x y=>decide (x≤y)).toArray) os:=Any.slices_Sort_int Tryz.lays189 blk off cap zs w hH hblk hsz
def Tryz.laysNm216_ren:Go.Shelf.Ren:=⟨λ | 16=>99 | n=>n,λ | 24=>23 | 9=>9 | 4=>4 | n=>n,λ | n=>n⟩
theorem Tryz.laysNm216:Go.Proofs.Lays2.n16 Tryz.prog Tryz.laysNm216_ren:={
 mixed:=by kernel_rfl
 f16:=Tryz.func99.trans (congrArg some (by kernel_rfl))
 t4:=Tryz.underlying4
 a4:=Tryz.isAgg4
 z4:=Tryz.sizeOf4
 v4:=Tryz.zeroValue4
 t9:=Tryz.underlying9
 a9:=Tryz.isAgg9
 z9:=Tryz.sizeOf9
 v9:=Tryz.zeroValue9
 t24:=Tryz.underlying23
 a24:=Tryz.isAgg23
 z24:=Tryz.sizeOf23
 v24:=Tryz.zeroValue23
 i9:=by kernel_rfl }
open Go.RowKit Go.Lib in
theorem Tryz.slices_Clone_string(b off n c:Nat)(zs:List ByteArray)(w:World)(hz:n≤zs.length)(hbig:n * 16≤140737488355328)(hc:∀ j,j<zs.length→w.cell? ⟨b,off+j,none⟩=some (.string (zs.getD j ByteArray.empty))) :
  Calls Tryz.prog 99 #[.slice (some ⟨b,off,none⟩) n c] w λ e w'=>∃ v',e=.returned v'∧w'.ownsRow w.heap.size 9 1 v' n ((zs.take n).map (Value.string))∧v' ≠ .slice none 0 0∧Below w.heap.size w w':=Any.slices_Clone_string Tryz.laysNm216 b off n c zs w hz hbig hc
open Go.RowKit Go.Lib in
theorem Tryz.slices_Clone_string_nil(n c:Nat)(w:World) :
  Calls Tryz.prog 99 #[.slice none n c] w λ e w'=>e=.returned (.slice none 0 0)∧w'=w:=Any.slices_Clone_string_nil Tryz.laysNm216 n c w
open Go.RowKit Go.Lib in
theorem Tryz.slices_Clone_string_zero(a:Addr)(c:Nat)(w:World) :
  Calls Tryz.prog 99 #[.slice (some a) 0 c] w λ e w'=>∃ v',e=.returned v'∧w'.ownsRow w.heap.size 9 1 v' 0 []∧v' ≠ .slice none 0 0∧Below w.heap.size w w':=Any.slices_Clone_string_zero Tryz.laysNm216 a c w
end Go.Proofs
end

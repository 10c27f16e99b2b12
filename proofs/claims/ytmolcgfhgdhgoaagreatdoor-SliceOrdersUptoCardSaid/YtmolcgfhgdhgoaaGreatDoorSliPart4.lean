/-
  Show: how long texts are; the reference's join. To: Show: the library's functions that are taken as one step: strings.Builder's String, and strings.Join: they do what is said of them.
-/
import Derived.Test.YtmolcgfhgdhgoaaGreatDoorSliPart3
import Derived.Shelf.Spec.SlicesGrow
import Derived.Shelf.Strings.Builder1
import Derived.Shelf.Strings.Builder2
import Derived.Shelf.Strings.OnBuilder
import Derived.Shelf.Strings.BuilderF
import Derived.Shelf.Strings.BuilderK
import Derived.Shelf.Strings.Builder2Cap
import Derived.Shelf.Sort.Plain
import Derived.Shelf.Slices.Clone
import Derived.Test.YtmolcgfhgdhgoaaGreatDoorProg
set_option linter.all false
noncomputable section
namespace Go.Vai
open Go.Proofs
def w7:List (List UInt8)→Nat | []=>0 | x::l=>x.length+1+w7 l
mutual
def xa:T→Nat
 | .mk _ nm kids nms _=>1+nm.length+w7 nms+Sp.bulks kids
def Sp.bulks:List T→Nat
 | []=>0
 | t::l=>xa t+Sp.bulks l
end
theorem zei{t:T}:∀ {l:List T},t∈l→xa t≤Sp.bulks l
 | u::l,h=>by
  simp only [Sp.bulks];cases h with
  | head=>omega
  | tail _ h=>have:=zei h; omega
theorem zk4(b:Bool)(s:List UInt8):(yb b s).length≤s.length+2:=by rw [zh8]; cases b <;> simp
theorem zz6:∀ (l:List (List UInt8)) (i:Nat),(xb l i).length≤w7 l
 | [],i=>by simp [xb,w7]
 | x::l,0=>by simp [xb,w7]; omega
 | x::l,i+1=>by have:=zz6 l i; simp [xb,w7] at this ⊢; omega
theorem ztd(sep:List UInt8):ya [] sep=[]:=by simp [ya,Lib.join,List.intercalate]
theorem zna(x sep:List UInt8):ya [x] sep=x:=by simp [ya,Lib.join,List.intercalate]
theorem zks(x y sep:List UInt8)(l:List (List UInt8)):ya (x::y::l) sep=x++sep++ya (y::l) sep:=by simp [ya,Lib.join,List.intercalate,List.intersperse]
theorem zte:∀ (l:List (List UInt8)),(ya l [32]).length≤w7 l
 | []=>by simp [ztd]
 | [x]=>by simp [zna,w7]
 | x::y::l=>by
  have:=zte (y::l);rw [zks,w7];simp only [pe,py,pz];omega
mutual
theorem zl4:∀ t:T,(xy t).length+2≤12 * xa t
 | .mk k nm kids nms pl=>by
  have h2:=z6e kids;simp only [xy,xa];cases decide (k=16)
  ·cases decide (k=15)
   ·cases decide (k=14)
    ·simp only [px]; omega
    ·have:=h2 0 1;simp only [pw,px,pe,py,pz]; omega
   ·have:=h2 1 2;simp only [pw,px,pe,py,pz]; omega
  ·have:=h2 2 2;simp only [pw,pe,py,pz]; omega
theorem z6e:∀ (l:List T) (a b:Int),(xb (zd5 l a) 0).length+(xb (zd5 l b) 1).length≤12 * Sp.bulks l
 | [],a,b=>by simp [zd5,xb,Sp.bulks]
 | [t],a,b=>by
  have:=zl4 t;have:=zk4 (decide (xw t.k<a)) (xy t);simp [zd5,xb,Sp.bulks]; omega
 | t::u::l,a,b=>by
  have:=zl4 t;have:=zl4 u;have:=zk4 (decide (xw t.k<a)) (xy t);have:=zk4 (decide (xw u.k<b)) (xy u);simp [zd5,xb,Sp.bulks]; omega
end
theorem yb3(t:T)(a:Int):(vt t a).length≤12 * xa t:=by
 have:=zl4 t;have:=zk4 (decide (xw t.k<a)) (xy t);unfold vt; omega
theorem z8w(t:T):(zae t).length≤12 * xa t:=by
 obtain ⟨k,nm,kids,nms,pl⟩:=t;have:=zz6 nms 0;simp only [zae,zlw,zhk,xa,pe,py,pz];omega
theorem zxq:∀ l:List T,((l.map zae).flatten).length≤12 * Sp.bulks l
 | []=>by simp
 | t::l=>by
  have:=z8w t;have:=zxq l;simp only [List.map_cons,List.flatten_cons,pe,Sp.bulks]; omega
theorem zto(t:T):(zft t).length≤12 * xa t:=by
 obtain ⟨k,nm,kids,nms,pl⟩:=t;have:=zxq kids;simp only [zft,zax,xa,pe];cases kids.isEmpty <;> simp only [pw,px,py,pz] <;> omega
mutual
theorem zya:∀ t:T,(yi t).length+2≤12 * xa t
 | .mk k nm kids nms pl=>by
  have h2:=zyl kids;have hj:=zte nms;have ha:=zz6 nms 0;have hb:=zq0 kids;simp only [yi,xa];cases decide (k=1)
  rotate_left
  ·simp only [pw]; omega
  cases decide (k=2)
  rotate_left
  ·have:=h2 0 0; simp only [pw,px,pe,py,pz]; omega
  cases decide (k=3)
  rotate_left
  ·have:=h2 0 0; simp only [pw,px,pe,py,pz]; omega
  have h4:((bif decide (nms.length=1) then [40]++xb nms 0++[32,58,32]++xb (yq kids 0) 0++[41] else yb (vw kids) (xb (yq kids 1) 0))++[32,45,62,32]++xb (yq kids 0) 1).length≤9+w7 nms+12 * Sp.bulks kids:=by
   have:=zk4 (vw kids) (xb (yq kids 1) 0);have:=h2 0 0;have:=h2 1 0;cases decide (nms.length=1) <;> simp only [pw,px,pe,py,pz] <;> omega
  have h5:((bif decide (nms.length=1) then [40]++xb nms 0++[32,58,32]++xb (yq kids 0) 0++[41] else yb (vw kids) (xb (yq kids 1) 0))++[32,42,32]++xb (yq kids 0) 1).length≤9+w7 nms+12 * Sp.bulks kids:=by
   have:=zk4 (vw kids) (xb (yq kids 1) 0);have:=h2 0 0;have:=h2 1 0;cases decide (nms.length=1) <;> simp only [pw,px,pe,py,pz] <;> omega
  cases decide (k=4)
  rotate_left
  ·simp only [pw,px]; omega
  cases decide (k=5)
  rotate_left
  ·simp only [pw,px]; omega
  cases decide (k=6)
  rotate_left
  ·have:=h2 1 2; simp only [pw,px,pe,py,pz]; omega
  cases decide (k=7)
  rotate_left
  ·have:=h2 1 1;simp only [pw,px];rcases kids with _ | ⟨a,_ | ⟨b,l⟩⟩
   ·simp [yq,xb]; omega
   ·simp only [pe,py,pz] at this ⊢; omega
   ·have h8:=yb3 b 2;have h9:=zds a 1;have e:xb (yq (a::b::l) 1) 0=yb (decide (y5 a.k<1)) (yi a):=rfl;simp only [pe,py,pz,Sp.bulks,e];omega
  cases decide (k=8)
  rotate_left
  ·have:=h2 0 0; simp only [pw,px,pe,py,pz]; omega
  cases decide (k=9)
  rotate_left
  ·have:=h2 0 0; simp only [pw,px,pe,py,pz]; omega
  simp only [px,pe,py,pz];have:=hb true;omega
theorem zds:∀ (t:T) (a:Int),(yb (decide (y5 t.k<a)) (yi t)).length≤12 * xa t
 | t,a=>by
  have:=zya t;have:=zk4 (decide (y5 t.k<a)) (yi t);omega
theorem zyl:∀ (l:List T) (a b:Int),(xb (yq l a) 0).length+(xb (yq l b) 1).length≤12 * Sp.bulks l
 | [],a,b=>by simp [yq,xb,Sp.bulks]
 | [t],a,b=>by
  have:=zds t a;simp [yq,xb,Sp.bulks]; omega
 | t::u::l,a,b=>by
  have:=zds t a;have:=zds u b;simp [yq,xb,Sp.bulks]; omega
theorem zu9:∀ t:T,(zaf t).length+2≤12 * xa t
 | .mk k nm [] nms pl=>by simp [zaf,xa]; omega
 | .mk k nm [f] nms pl=>by
  have:=zto f;simp [zaf,xa,Sp.bulks]; omega
 | .mk k nm (f::u::l) nms pl=>by
  have:=zto f;have h1:=zds u 0;have e:xb (yq (f::u::l) 0) 1=yb (decide (y5 u.k<0)) (yi u):=rfl;simp only [zaf,e,xa,Sp.bulks];cases decide ((f::u::l).length=2) <;> simp only [pw,px,pe,py,pz] <;> omega
theorem zq0:∀ (l:List T) (b:Bool),(zbn b l).length≤12 * Sp.bulks l
 | [],b=>by simp [zbn]
 | t::l,b=>by
  have:=zu9 t;have:=zq0 l false;simp only [zbn,Sp.bulks];cases b <;> simp only [pw,px,pe,py,pz] <;> omega
end
theorem zld(t:T)(a:Int):(zw t a).length≤12 * xa t:=zds t a
theorem g77(n:Nat)(l:List (List UInt8))(b:List UInt8):zn cx (CK.plain zo) n 167 [.d (.sl 1 (l.map .str)),.d (.str b)] []=LP cx (CK.plain zo) n 167 0 3 n [(0,V.d (D.sl 1 (List.map D.str l))),(1,V.d (D.str b)),(5,V.d (D.str [])),(6,V.d (D.int .i64 (0:Int)))] [] (AK cx (CK.plain zo) n 167 0 3 (EK cx 167 0)):=by kernel_rfl
theorem l77(n k:Nat)(l:List (List UInt8))(b s:List UInt8)(i:Int):LP cx (CK.plain zo) n 167 0 3 (k+1) [(0,V.d (D.sl 1 (List.map D.str l))),(1,V.d (D.str b)),(5,V.d (D.str s)),(6,V.d (D.int .i64 i))] [] (AK cx (CK.plain zo) n 167 0 3 (EK cx 167 0))=bif decide (i<(↑(List.map D.str l).length:Int)) then bif decide ((0:Int)<i) then zb (decide (s.length+b.length≤4611686018427387904)) (zb (decide (0≤i)&&decide (i<(↑(List.map D.str l).length:Int))) (za (List.map D.str l) i.toNat λ y=>za y.cells 0 λ c=>match c with
 | D.str s_1=>zb (decide ((s++b).length+s_1.length≤4611686018427387904)) (LP cx (CK.plain zo) n 167 0 3 k [(0,V.d (D.sl 1 (List.map D.str l))),(1,V.d (D.str b)),(5,V.d (D.str (s++b++s_1))),(6,V.d (D.int .i64 (IntKind.i64.wrap (i+(1:Int)))))] [] (AK cx (CK.plain zo) n 167 0 3 (EK cx 167 0)))
 | x=>none)) else zb (decide (0≤i)&&decide (i<(↑(List.map D.str l).length:Int))) (za (List.map D.str l) i.toNat λ y=>za y.cells 0 λ c=>match c with
 | D.str s_1=>zb (decide (s.length+s_1.length≤4611686018427387904)) (LP cx (CK.plain zo) n 167 0 3 k [(0,V.d (D.sl 1 (List.map D.str l))),(1,V.d (D.str b)),(5,V.d (D.str (s++s_1))),(6,V.d (D.int .i64 (IntKind.i64.wrap (i+(1:Int)))))] [] (AK cx (CK.plain zo) n 167 0 3 (EK cx 167 0)))
 | x=>none) else some (Out.ret (V.d (D.str s)),[]):=by kernel_rfl
theorem yhs(n:Nat)(k:Int)(nm:List UInt8)(kids:List T)(nms:List (List UInt8))(pl:Int):zn cx (CK.plain zo) n 202 [.d (.agg [.int .i64 k,.str nm,.sl 5 (T.ds kids),.sl 1 (nms.map .str),.int .i64 pl])] []=bif decide (k=(14:Int)) then some (Out.ret (V.d (D.int .i64 (0:Int))),[]) else bif decide (k=(15:Int)) then some (Out.ret (V.d (D.int .i64 (1:Int))),[]) else some (Out.ret (V.d (D.int .i64 (2:Int))),[]):=by kernel_rfl
def zan(b:List UInt8):Bool→List (List UInt8)→List UInt8
 | _,[]=>[]
 | first,x::l=>(bif first then [] else b)++x++zan b false l
theorem zn0(b:List UInt8):∀ (x:List UInt8) (l:List (List UInt8)),zan b false (x::l)=b++ya (x::l) b
 | x,[]=>by simp [zan,zna]
 | x,y::l=>by rw [zan,zn0 b y l,zks]; simp
theorem zhn(b:List UInt8):∀ l:List (List UInt8),zan b true l=ya l b
 | []=>by rw [ztd]; rfl
 | [x]=>by simp [zan,zna]
 | x::y::l=>by rw [zan,zn0,zks]; simp
theorem z5l{l:List (List UInt8)}{b:List UInt8}(n:Nat)(hl:l.length<4294967296):∀ (r:List (List UInt8)) (j k:Nat) (s:List UInt8),l.drop j=r→j≤l.length→r.length<k→s.length+(zan b (decide (j=0)) r).length≤4611686018427387904 →
  LP cx (CK.plain zo) n 167 0 3 k [(0,V.d (D.sl 1 (List.map D.str l))),(1,V.d (D.str b)),(5,V.d (D.str s)),(6,V.d (D.int .i64 j))] [] (AK cx (CK.plain zo) n 167 0 3 (EK cx 167 0))=some (.ret (mkS (s++zan b (decide (j=0)) r)),[])
 | [],j,k,s,hd,hj,hk,hb=>by
  obtain ⟨k,rfl⟩:∃ i,k=i+1:=⟨k - 1,by omega⟩
  have:l.length≤j:=by simpa using hd
  obtain rfl:j=l.length:=by omega
  rw [l77,ph,yw,px];simp [zan,mkS]
 | x::r,j,k,s,hd,hj,hk,hb=>by
  obtain ⟨k,rfl⟩:∃ i,k=i+1:=⟨k - 1,by omega⟩
  obtain ⟨h1,h2,h3⟩:=za0 hd;rw [l77,ph,yf h1,y8,w9 h1 hl];have e:decide (j+1=0)=false:=pb (by omega)
  have ih:=λ s' hb'=>z5l (l:=l) (b:=b) n hl r (j+1) k s' h3 h1 (by simp at hk; omega) hb'
  rw [e] at ih;rcases j with _ | j
  ·simp only [zan,decide_true,pw,List.nil_append,pe] at hb ⊢;simp only [Bool.and_self,zb,pw,wt,po,h2,zc,zc2,xu];have f0:decide ((0:Int)<((0:Nat):Int))=false:=rfl;rw [f0,px,pa (by omega),pw,ih (s++x) (by rw [pe]; omega),List.append_assoc]
  ·have f0:decide ((0:Int)<((j+1:Nat):Int))=true:=pa (by omega)
   simp only [zan,Nat.succ_ne_zero,decide_false,px,pe] at hb ⊢;rw [f0];simp only [Bool.and_self,zb,pw,wt,po,h2,zc,zc2,xu,pe];rw [pa (by omega),pa (by omega),pw,pw,ih (s++b++x) (by simp only [pe]; omega)]
   simp only [List.append_assoc]
theorem ydj(l:List (List UInt8))(b:List UInt8)(hl:yn l=true)(hb:(ya l b).length≤4611686018427387904):zj cx 167 [.d (.sl 1 (l.map .str)),.d (.str b)] []=some (.ret (mkS (ya l b)),[]):=by
 refine zm zp (N:=l.length+1) ?_;rw [g77];have h:=z5l (b:=b) (l.length+1) (yp hl) l 0 (l.length+1) [] rfl (Nat.zero_le _) (by omega) (by rw [pa rfl,zhn]; simpa using hb)
 rw [pa rfl,zhn] at h;exact h
def yg(t:T):Bool:=decide (xa t≤16777216)
def zdf:List V→Option (D×Int) | [.d x,.d (.int .i64 a)]=>some (x,a) | _=>none
theorem zaz{a:List V}{x:D}{n:Int}(h:zdf a=some (x,n)):a=[.d x,.d (.int .i64 n)]:=by
 unfold zdf at h;split at h
 ·cases h; rfl
 ·cases h
def ygz(m:Nat):D×Int→Option (List UInt8) | (x,a)=>zc (zi m x) λ t=>zb (zz t&&yg t) (some (vt t a))
def z9f:D×Int→Option (List UInt8) | (x,a)=>zc (zr x) λ t=>zb (zz t&&yg t) (some (vt t a))
def yg0(m:Nat):D×Int→Option (List UInt8) | (x,a)=>zc (zi m x) λ t=>zb (zg t&&yg t) (some (zw t a))
def ygy(m:Nat)(x:D):Option (List UInt8):=zc (zi m x) λ t=>zb (zcn t&&yg t) (some (zd6 t))
def ycu:CK R1:=z7 202 ql zr (λ t=>mkI (xw t.k)) (z7 167 z6r zdm (λ q=>mkS (ya q.1 q.2)) (CK.plain zo))
def K78(m:Nat):CK R1:=z7 168 zdf (ygz m) mkS ycu
def K43(m:Nat):CK R1:=z7 134 zdf (yg0 m) mkS ycu
def K79(m:Nat):CK R1:=z7 169 ql (ygy (m+1)) mkS (z7 168 zdf z9f mkS (K43 m))
theorem ya9(t:T):zj cx 202 [.d t.d] []=some (.ret (mkI (xw t.k)),[]):=by
 obtain ⟨k,nm,kids,nms,pl⟩:=t;refine zm zp (N:=0) ?_;refine (yhs 0 k nm kids nms pl).trans ?_;show _=some (Out.ret (mkI (xw k)),[]);simp only [mkI,xw];cases decide (k=14) <;> cases decide (k=15) <;> rfl
theorem yex(n m:Nat)(nm:List UInt8)(kids:List T)(nms:List (List UInt8))(pl a:Int):zn cx (K78 m) n 168 [.d (.agg [.int .i64 1,.str nm,.sl 5 (T.ds kids),.sl 1 (nms.map .str),.int .i64 pl]),.d (.int .i64 a)] []=zc (zr (D.agg [D.int .i64 (1:Int),D.str nm,D.sl 5 (T.ds kids),D.sl 1 (List.map D.str nms),D.int .i64 pl])) λ b=>bif decide (xw b.k<a) then zb (decide ([40].length+nm.length≤4611686018427387904)) (zb (decide ((40::nm).length+[41].length≤4611686018427387904)) (some (Out.ret (V.d (D.str (40::(nm++[41])))),[]))) else some (Out.ret (V.d (D.str nm)),[]):=by kernel_rfl
theorem ybr(n m:Nat)(nm:List UInt8)(kids:List T)(nms:List (List UInt8))(pl a:Int):zn cx (K78 m) n 168 [.d (.agg [.int .i64 14,.str nm,.sl 5 (T.ds kids),.sl 1 (nms.map .str),.int .i64 pl]),.d (.int .i64 a)] []=zb (decide ((0:Int)<(↑(T.ds kids).length:Int))) (za (T.ds kids) (0:Int).toNat λ y=>za y.cells 0 λ c=>za y.cells 1 λ c_1=>za y.cells 2 λ c_2=>za y.cells 3 λ c_3=>za y.cells 4 λ c_4=>zc (zc (zi m (D.agg [c,c_1,c_2,c_3,c_4])) λ t=>zb (zz t&&yg t) (some (vt t (0:Int)))) λ b=>zb (decide (b.length+[32,92,47,32].length≤4611686018427387904)) (zb (decide ((1:Int)<(↑(T.ds kids).length:Int))) (za (T.ds kids) (1:Int).toNat λ y=>za y.cells 0 λ c=>za y.cells 1 λ c_5=>za y.cells 2 λ c_6=>za y.cells 3 λ c_7=>za y.cells 4 λ c_8=>zc (zc (zi m (D.agg [c,c_5,c_6,c_7,c_8])) λ t=>zb (zz t&&yg t) (some (vt t (1:Int)))) λ b_1=>zb (decide ((b++[32,92,47,32]).length+b_1.length≤4611686018427387904)) (zc (zr (D.agg [D.int .i64 (14:Int),D.str nm,D.sl 5 (T.ds kids),D.sl 1 (List.map D.str nms),D.int .i64 pl])) λ b_2=>bif decide (xw b_2.k<a) then zb (decide ([40].length+(b++[32,92,47,32]++b_1).length≤4611686018427387904)) (zb (decide ((40::(b++[32,92,47,32]++b_1)).length+[41].length≤4611686018427387904)) (some (Out.ret (V.d (D.str (40::((b++[32,92,47,32]++b_1)++[41])))),[]))) else some (Out.ret (V.d (D.str (b++[32,92,47,32]++b_1))),[]))))):=by kernel_rfl
theorem ybq(n m:Nat)(nm:List UInt8)(kids:List T)(nms:List (List UInt8))(pl a:Int):zn cx (K78 m) n 168 [.d (.agg [.int .i64 15,.str nm,.sl 5 (T.ds kids),.sl 1 (nms.map .str),.int .i64 pl]),.d (.int .i64 a)] []=zb (decide ((0:Int)<(↑(T.ds kids).length:Int))) (za (T.ds kids) (0:Int).toNat λ y=>za y.cells 0 λ c=>za y.cells 1 λ c_1=>za y.cells 2 λ c_2=>za y.cells 3 λ c_3=>za y.cells 4 λ c_4=>zc (zc (zi m (D.agg [c,c_1,c_2,c_3,c_4])) λ t=>zb (zz t&&yg t) (some (vt t (1:Int)))) λ b=>zb (decide (b.length+[32,47,92,32].length≤4611686018427387904)) (zb (decide ((1:Int)<(↑(T.ds kids).length:Int))) (za (T.ds kids) (1:Int).toNat λ y=>za y.cells 0 λ c=>za y.cells 1 λ c_5=>za y.cells 2 λ c_6=>za y.cells 3 λ c_7=>za y.cells 4 λ c_8=>zc (zc (zi m (D.agg [c,c_5,c_6,c_7,c_8])) λ t=>zb (zz t&&yg t) (some (vt t (2:Int)))) λ b_1=>zb (decide ((b++[32,47,92,32]).length+b_1.length≤4611686018427387904)) (zc (zr (D.agg [D.int .i64 (15:Int),D.str nm,D.sl 5 (T.ds kids),D.sl 1 (List.map D.str nms),D.int .i64 pl])) λ b_2=>bif decide (xw b_2.k<a) then zb (decide ([40].length+(b++[32,47,92,32]++b_1).length≤4611686018427387904)) (zb (decide ((40::(b++[32,47,92,32]++b_1)).length+[41].length≤4611686018427387904)) (some (Out.ret (V.d (D.str (40::((b++[32,47,92,32]++b_1)++[41])))),[]))) else some (Out.ret (V.d (D.str (b++[32,47,92,32]++b_1))),[]))))):=by kernel_rfl
theorem ybp(n m:Nat)(nm:List UInt8)(kids:List T)(nms:List (List UInt8))(pl a:Int):zn cx (K78 m) n 168 [.d (.agg [.int .i64 16,.str nm,.sl 5 (T.ds kids),.sl 1 (nms.map .str),.int .i64 pl]),.d (.int .i64 a)] []=zb (decide ((0:Int)<(↑(T.ds kids).length:Int))) (za (T.ds kids) (0:Int).toNat λ y=>za y.cells 0 λ c=>za y.cells 1 λ c_1=>za y.cells 2 λ c_2=>za y.cells 3 λ c_3=>za y.cells 4 λ c_4=>zc (zc (zi m (D.agg [c,c_1,c_2,c_3,c_4])) λ t=>zb (zz t&&yg t) (some (vt t (2:Int)))) λ b=>zb (decide ([126].length+b.length≤4611686018427387904)) (zc (zr (D.agg [D.int .i64 (16:Int),D.str nm,D.sl 5 (T.ds kids),D.sl 1 (List.map D.str nms),D.int .i64 pl])) λ b_1=>bif decide (xw b_1.k<a) then zb (decide ([40].length+(126::b).length≤4611686018427387904)) (zb (decide ((40::126::b).length+[41].length≤4611686018427387904)) (some (Out.ret (V.d (D.str (40::126::(b++[41])))),[]))) else some (Out.ret (V.d (D.str (126::b))),[]))):=by kernel_rfl
theorem ybo(n m:Nat)(nm:List UInt8)(kids:List T)(nms:List (List UInt8))(pl a:Int):zn cx (K78 m) n 168 [.d (.agg [.int .i64 17,.str nm,.sl 5 (T.ds kids),.sl 1 (nms.map .str),.int .i64 pl]),.d (.int .i64 a)] []=zc (zr (D.agg [D.int .i64 (17:Int),D.str nm,D.sl 5 (T.ds kids),D.sl 1 (List.map D.str nms),D.int .i64 pl])) λ b=>bif decide (xw b.k<a) then zb (decide ([40].length+nm.length≤4611686018427387904)) (zb (decide ((40::nm).length+[41].length≤4611686018427387904)) (some (Out.ret (V.d (D.str (40::(nm++[41])))),[]))) else some (Out.ret (V.d (D.str nm)),[]):=by kernel_rfl
theorem g79(n m:Nat)(k:Int)(nm:List UInt8)(kids:List T)(nms:List (List UInt8))(pl:Int):zn cx (K43 m) n 169 [.d (.agg [.int .i64 k,.str nm,.sl 5 (T.ds kids),.sl 1 (nms.map .str),.int .i64 pl])] []=LP cx (K43 m) n 169 0 3 n [(1,V.ptr 1 0),(3,V.sl 1 [] 3),(4,V.d (D.int .i64 (0:Int)))] [(1,Ob.val 5 (V.d (D.agg [D.int .i64 k,D.str nm,D.sl 5 (T.ds kids),D.sl 1 (List.map D.str nms),D.int .i64 pl]))),(3,Ob.tok 0)] (AK cx (K43 m) n 169 0 3 (EK cx 169 0)):=by kernel_rfl
theorem l79(n m r:Nat)(k:Int)(nm:List UInt8)(kids:List T)(nms:List (List UInt8))(pl i:Int)(ls:List (List UInt8)):LP cx (K43 m) n 169 0 3 (r+1) [(1,V.ptr 1 0),(3,V.sl 1 (ls.map .str) 3),(4,V.d (D.int .i64 i))] [(1,Ob.val 5 (V.d (D.agg [D.int .i64 k,D.str nm,D.sl 5 (T.ds kids),D.sl 1 (List.map D.str nms),D.int .i64 pl]))),(3,Ob.tok ls.length)] (AK cx (K43 m) n 169 0 3 (EK cx 169 0))=bif decide (i<(↑(T.ds kids).length:Int)) then zb (decide (0≤i)&&decide (i<(↑(T.ds kids).length:Int))) (za (T.ds kids) i.toNat λ y=>za y.cells 0 λ c=>za y.cells 1 λ c_1=>za y.cells 2 λ c_2=>za y.cells 3 λ c_3=>za y.cells 4 λ c_4=>LP cx (K43 m) n 169 0 8 n [(1,V.ptr 1 0),(3,V.sl 1 (List.map D.str ls) 3),(4,V.d (D.int .i64 i)),(5,V.ptr 5 0),(6,V.d (D.str [])),(7,V.d (D.int .i64 (0:Int)))] [(1,Ob.val 5 (V.d (D.agg [D.int .i64 k,D.str nm,D.sl 5 (T.ds kids),D.sl 1 (List.map D.str nms),D.int .i64 pl]))),(3,Ob.tok ls.length),(5,Ob.val 5 (V.d (D.agg [c,c_1,c_2,c_3,c_4])))] (AL cx (K43 m) n 169 0 3 8 (inK cx (K43 m) n 169 0 3 r (AK cx (K43 m) n 169 0 3 (EK cx 169 0))))) else zc (zdm (D.sl 1 (List.map D.str ls),[44,32])) λ b=>zb (decide ([91].length+(ya b.fst b.snd).length≤4611686018427387904)) (zb (decide ((91::ya b.fst b.snd).length+[93].length≤4611686018427387904)) (some (Out.ret (V.d (D.str (91::((ya b.fst b.snd)++[93])))),[]))):=by kernel_rfl
theorem i79(n m r q:Nat)(k:Int)(nm:List UInt8)(kids:List T)(nms:List (List UInt8))(pl i j k' pl' k2 pl2:Int)(ls:List (List UInt8))(s nm' nm2:List UInt8)(nms' nms2:List (List UInt8))(r' qs:List T):LP cx (K43 m) n 169 0 8 (q+1) [(1,V.ptr 1 0),(3,V.sl 1 (ls.map .str) 3),(4,V.d (D.int .i64 i)),(5,V.ptr 5 0),(6,V.d (D.str s)),(7,V.d (D.int .i64 j))] [(1,Ob.val 5 (V.d (D.agg [D.int .i64 k,D.str nm,D.sl 5 (T.ds kids),D.sl 1 (List.map D.str nms),D.int .i64 pl]))),(3,Ob.tok ls.length),(5,Ob.val 5 (V.d (D.agg [D.int .i64 k',D.str nm',D.sl 5 (D.agg [D.int .i64 k2,D.str nm2,D.sl 5 (T.ds qs),D.sl 1 (List.map D.str nms2),D.int .i64 pl2]::T.ds r'),D.sl 1 (List.map D.str nms'),D.int .i64 pl'])))] (AL cx (K43 m) n 169 0 3 8 (inK cx (K43 m) n 169 0 3 r (AK cx (K43 m) n 169 0 3 (EK cx 169 0))))=zb (decide ((0:Int)<(↑(D.agg [D.int .i64 k2,D.str nm2,D.sl 5 (T.ds qs),D.sl 1 (List.map D.str nms2),D.int .i64 pl2]::T.ds r').length:Int))) (bif decide (j<(↑(T.ds qs).length:Int)) then zb (decide ((0:Int)<(↑(D.agg [D.int .i64 k2,D.str nm2,D.sl 5 (T.ds qs),D.sl 1 (List.map D.str nms2),D.int .i64 pl2]::T.ds r').length:Int))) (zb (decide (0≤j)&&decide (j<(↑(T.ds qs).length:Int))) (za (T.ds qs) j.toNat λ y=>za y.cells 0 λ c=>za y.cells 1 λ c=>za y.cells 2 λ c_1=>za y.cells 3 λ c_2=>za y.cells 4 λ c_3=>zb (decide (s.length+[40].length≤4611686018427387904)) (match c with
 | D.str s_1=>zb (decide ((s++[40]).length+s_1.length≤4611686018427387904)) (zb (decide ((s++[40]++s_1).length+[61].length≤4611686018427387904)) (match c_2 with
  | D.sl s_2 l=>bif s_2.beq (cx.P.cellsOf 9)||l.isEmpty then zb (decide ((0:Int)<(↑l.length:Int))) (za l (0:Int).toNat λ y=>za y.cells 0 λ c=>match c with
   | D.str s_3=>zb (decide ((s++[40]++s_1++[61]).length+s_3.length≤4611686018427387904)) (zb (decide ((s++[40]++s_1++[61]++s_3).length+[41].length≤4611686018427387904)) (LP cx (K43 m) n 169 0 8 q [(1,V.ptr 1 0),(3,V.sl 1 (List.map D.str ls) 3),(4,V.d (D.int .i64 i)),(5,V.ptr 5 0),(6,V.d (D.str (s++[40]++s_1++[61]++s_3++[41]))),(7,V.d (D.int .i64 (IntKind.i64.wrap (j+(1:Int)))))] [(1,Ob.val 5 (V.d (D.agg [D.int .i64 k,D.str nm,D.sl 5 (T.ds kids),D.sl 1 (List.map D.str nms),D.int .i64 pl]))),(3,Ob.tok ls.length),(5,Ob.val 5 (V.d (D.agg [D.int .i64 k',D.str nm',D.sl 5 (D.agg [D.int .i64 k2,D.str nm2,D.sl 5 (T.ds qs),D.sl 1 (List.map D.str nms2),D.int .i64 pl2]::T.ds r'),D.sl 1 (List.map D.str nms'),D.int .i64 pl'])))] (AL cx (K43 m) n 169 0 3 8 (inK cx (K43 m) n 169 0 3 r (AK cx (K43 m) n 169 0 3 (EK cx 169 0))))))
   | x=>none) else none
  | x=>none))
 | x=>none))) else bif decide (s=[]) then bif decide ((↑(D.agg [D.int .i64 k2,D.str nm2,D.sl 5 (T.ds qs),D.sl 1 (List.map D.str nms2),D.int .i64 pl2]::T.ds r').length:Int)=(2:Int)) then zb (decide ((1:Int)<(↑(D.agg [D.int .i64 k2,D.str nm2,D.sl 5 (T.ds qs),D.sl 1 (List.map D.str nms2),D.int .i64 pl2]::T.ds r').length:Int))) (za (D.agg [D.int .i64 k2,D.str nm2,D.sl 5 (T.ds qs),D.sl 1 (List.map D.str nms2),D.int .i64 pl2]::T.ds r') (1:Int).toNat λ y=>za y.cells 0 λ c=>za y.cells 1 λ c_1=>za y.cells 2 λ c_2=>za y.cells 3 λ c_3=>za y.cells 4 λ c_4=>zc (zc (zi m (D.agg [c,c_1,c_2,c_3,c_4])) λ t=>zb (zg t&&yg t) (some (zw t (0:Int)))) λ b=>zb (decide ([49,32,45,62,32].length+b.length≤4611686018427387904)) (zb (decide (ls.length=(List.map D.str ls).length)&&decide ((List.map D.str ls).length+[D.str (49::32::45::62::32::b)].length≤4294967296)) (LP cx (K43 m) n 169 0 3 r [(1,V.ptr 1 0),(3,V.sl 1 (List.map D.str ls++[D.str (49::32::45::62::32::b)]) 3),(4,V.d (D.int .i64 (IntKind.i64.wrap (i+(1:Int)))))] [(1,Ob.val 5 (V.d (D.agg [D.int .i64 k,D.str nm,D.sl 5 (T.ds kids),D.sl 1 (List.map D.str nms),D.int .i64 pl]))),(3,Ob.tok ((List.map D.str ls).length+[D.str (49::32::45::62::32::b)].length))] (AK cx (K43 m) n 169 0 3 (EK cx 169 0))))) else zb (decide (ls.length=(List.map D.str ls).length)&&decide ((List.map D.str ls).length+[D.str [49]].length≤4294967296)) (LP cx (K43 m) n 169 0 3 r [(1,V.ptr 1 0),(3,V.sl 1 (List.map D.str ls++[D.str [49]]) 3),(4,V.d (D.int .i64 (IntKind.i64.wrap (i+(1:Int)))))] [(1,Ob.val 5 (V.d (D.agg [D.int .i64 k,D.str nm,D.sl 5 (T.ds kids),D.sl 1 (List.map D.str nms),D.int .i64 pl]))),(3,Ob.tok ((List.map D.str ls).length+[D.str [49]].length))] (AK cx (K43 m) n 169 0 3 (EK cx 169 0))) else bif decide ((↑(D.agg [D.int .i64 k2,D.str nm2,D.sl 5 (T.ds qs),D.sl 1 (List.map D.str nms2),D.int .i64 pl2]::T.ds r').length:Int)=(2:Int)) then zb (decide (s.length+[32,45,62,32].length≤4611686018427387904)) (zb (decide ((1:Int)<(↑(D.agg [D.int .i64 k2,D.str nm2,D.sl 5 (T.ds qs),D.sl 1 (List.map D.str nms2),D.int .i64 pl2]::T.ds r').length:Int))) (za (D.agg [D.int .i64 k2,D.str nm2,D.sl 5 (T.ds qs),D.sl 1 (List.map D.str nms2),D.int .i64 pl2]::T.ds r') (1:Int).toNat λ y=>za y.cells 0 λ c=>za y.cells 1 λ c_1=>za y.cells 2 λ c_2=>za y.cells 3 λ c_3=>za y.cells 4 λ c_4=>zc (zc (zi m (D.agg [c,c_1,c_2,c_3,c_4])) λ t=>zb (zg t&&yg t) (some (zw t (0:Int)))) λ b=>zb (decide ((s++[32,45,62,32]).length+b.length≤4611686018427387904)) (zb (decide (ls.length=(List.map D.str ls).length)&&decide ((List.map D.str ls).length+[D.str (s++[32,45,62,32]++b)].length≤4294967296)) (LP cx (K43 m) n 169 0 3 r [(1,V.ptr 1 0),(3,V.sl 1 (List.map D.str ls++[D.str (s++[32,45,62,32]++b)]) 3),(4,V.d (D.int .i64 (IntKind.i64.wrap (i+(1:Int)))))] [(1,Ob.val 5 (V.d (D.agg [D.int .i64 k,D.str nm,D.sl 5 (T.ds kids),D.sl 1 (List.map D.str nms),D.int .i64 pl]))),(3,Ob.tok ((List.map D.str ls).length+[D.str (s++[32,45,62,32]++b)].length))] (AK cx (K43 m) n 169 0 3 (EK cx 169 0)))))) else zb (decide (ls.length=(List.map D.str ls).length)&&decide ((List.map D.str ls).length+[D.str s].length≤4294967296)) (LP cx (K43 m) n 169 0 3 r [(1,V.ptr 1 0),(3,V.sl 1 (List.map D.str ls++[D.str s]) 3),(4,V.d (D.int .i64 (IntKind.i64.wrap (i+(1:Int)))))] [(1,Ob.val 5 (V.d (D.agg [D.int .i64 k,D.str nm,D.sl 5 (T.ds kids),D.sl 1 (List.map D.str nms),D.int .i64 pl]))),(3,Ob.tok ((List.map D.str ls).length+[D.str s].length))] (AK cx (K43 m) n 169 0 3 (EK cx 169 0)))):=by kernel_rfl
theorem dle{n:Nat}(h:n≤4611686018427387904):decide (n≤4611686018427387904)=true:=pa h
theorem zri:knows cx ycu.S (zj cx):=by
 have h77:=zk (f:=167) (dec:=z6r) (sp:=zdm) (mk:=λ q=>mkS (ya q.1 q.2)) zp λ a q b hd h hb=>by
  obtain ⟨x,s⟩:=q;unfold z6r at h;split at h
  ·cases h;unfold zdm at hb;split at hb
   ·rename_i l hl;simp only at hl hb;cases hc:decide ((Lib.join l s).length≤140737488355328) <;> rw [hc] at hb
    ·cases hb
    ·cases hb;obtain ⟨rfl,h1,h2⟩:=zlv hl;have:=pc hc;exact ydj l s h1 (by unfold ya; omega)
   ·cases hb
  ·cases h
 exact zk h77 λ a q b hd h hb=>by
  obtain rfl:=wu h;obtain ⟨rfl,h1⟩:=wv hb;exact ya9 b
theorem zs9{k:Int}{nm:List UInt8}{kids:List T}{nms:List (List UInt8)}{pl:Int}(h:yg (.mk k nm kids nms pl)=true):∀ t∈kids,yg t=true:=by
 intro t ht;have:=zei ht;have h':=pc h;simp only [xa] at h';exact pa (by omega)
theorem z9q:∀ (m:Nat) (t:T) (a:Int),t.depth≤m→t.ok=true→zz t=true→yg t=true→zj cx 168 [.d t.d,.d (.int .i64 a)] []=some (.ret (mkS (vt t a)),[])
 | 0,.mk ..,_,h,_,_,_=>by simp [T.depth] at h
 | m+1,.mk k nm kids nms pl,x,hd,ho,hi,hl=>by
  have hK:knows cx (K78 m).S (zj cx):=zk zri λ a q s _ ha hs=>by
   obtain ⟨y,n⟩:=q;obtain rfl:=zaz ha;obtain ⟨t,ht,hs⟩:=zd hs;obtain ⟨hf,hs⟩:=zf hs;cases hs;obtain ⟨rfl,h1,h2⟩:=xl ht;rw [pm] at hf;exact z9q m t n h1 h2 hf.1 hf.2
  obtain ⟨h1,h2,h3,h4,h5⟩:=vo ho;have hkd:=qk hd;have hT:∀ t∈kids,zi m t.d=some t:=λ t h=>zay hkd h5 h;have hL:=zs9 hl;have hC:zr (D.agg [D.int .i64 k,D.str nm,D.sl 5 (T.ds kids),D.sl 1 (List.map D.str nms),D.int .i64 pl])=some (.mk k nm kids nms pl):=zij ho;have hlen:(xy (.mk k nm kids nms pl)).length+2≤51539607552:=by
   have:=zl4 (.mk k nm kids nms pl);simp only [yg,decide_eq_true_eq] at hl;omega
  refine zm hK (N:=0) ?_;have efm:vt (.mk k nm kids nms pl) x=yb (decide (xw k<x)) (xy (.mk k nm kids nms pl)):=rfl;rw [efm];rcases ztl hi with ⟨rfl,hk⟩ | ⟨a,rfl,rfl,ha⟩ | ⟨a,b,rfl,hk,ha,hb⟩
  ·have e:xy (.mk k nm [] nms pl)=nm:=by rcases hk with rfl | rfl <;> simp [xy]
   rw [e] at hlen ⊢;rcases hk with rfl | rfl
   ·refine (yex 0 m nm [] nms pl x).trans ?_;simp only [hC,zc,zb];show (bif decide (xw 1<x) then _ else _)=some (Out.ret (mkS (yb (decide (xw 1<x)) nm)),[]);generalize decide (xw 1<x)=q;cases q
    ·rfl
    ·simp (disch:=((try simp only [pe,py,pz]); omega)) only [dle,pw]
     rfl
   ·refine (ybo 0 m nm [] nms pl x).trans ?_;simp only [hC,zc,zb];show (bif decide (xw 17<x) then _ else _)=some (Out.ret (mkS (yb (decide (xw 17<x)) nm)),[]);generalize decide (xw 17<x)=q;cases q
    ·rfl
    ·simp (disch:=((try simp only [pe,py,pz]); omega)) only [dle,pw]
     rfl
  ·have e:xy (.mk 16 nm [a] nms pl)=[126]++vt a 2:=by simp [xy,←zfm [a] 2 0 a rfl]
   rw [e] at hlen ⊢;simp only [pe,py,pz] at hlen;have e0:decide ((0:Int)<((T.ds [a]).length:Int))=true:=by rw [zu]; rfl
   have n0:[a][(0:Int).toNat]?=some a:=rfl;refine (ybp 0 m nm [a] nms pl x).trans ?_;simp only [hC,e0,yh,n0,yk,xu,vk,vj,vi,vh,we,hT a (by simp),zc,zb,pw,ha,hL a (by simp),Bool.and_self]
   simp (disch:=((try simp only [pe,py,pz]); omega)) only [dle,pw]
   show (bif decide (xw 16<x) then _ else _)=some (Out.ret (mkS (yb (decide (xw 16<x)) _)),[]);generalize decide (xw 16<x)=q;cases q
   ·simp [yb,mkS]
   ·simp (disch:=((try simp only [pe,py,pz]); omega)) only [dle,pw]
    simp [yb,mkS]
  ·have e0:decide ((0:Int)<((T.ds [a,b]).length:Int))=true:=by rw [zu]; rfl
   have e1:decide ((1:Int)<((T.ds [a,b]).length:Int))=true:=by rw [zu]; rfl
   have n0:[a,b][(0:Int).toNat]?=some a:=rfl;have n1:[a,b][(1:Int).toNat]?=some b:=rfl;rcases hk with rfl | rfl
   ·have e:xy (.mk 14 nm [a,b] nms pl)=vt a 0++[32,92,47,32]++vt b 1:=by simp [xy,←zfm [a,b] 0 0 a rfl,←zfm [a,b] 1 1 b rfl]
    rw [e] at hlen ⊢;simp only [pe,py,pz] at hlen;refine (ybr 0 m nm [a,b] nms pl x).trans ?_;simp only [hC,e0,e1,yh,n0,n1,yk,xu,vk,vj,vi,vh,we,hT a (by simp),hT b (by simp),zc,zb,pw,ha,hb,hL a (by simp),hL b (by simp),Bool.and_self]
    simp (disch:=((try simp only [pe,py,pz]); omega)) only [dle,pw]
    show (bif decide (xw 14<x) then _ else _)=some (Out.ret (mkS (yb (decide (xw 14<x)) _)),[]);generalize decide (xw 14<x)=q;cases q
    ·simp [yb,mkS]
    ·simp (disch:=((try simp only [pe,py,pz]); omega)) only [dle,pw]
     simp [yb,mkS]
   ·have e:xy (.mk 15 nm [a,b] nms pl)=vt a 1++[32,47,92,32]++vt b 2:=by simp [xy,←zfm [a,b] 1 0 a rfl,←zfm [a,b] 2 1 b rfl]
    rw [e] at hlen ⊢;simp only [pe,py,pz] at hlen;refine (ybq 0 m nm [a,b] nms pl x).trans ?_;simp only [hC,e0,e1,yh,n0,n1,yk,xu,vk,vj,vi,vh,we,hT a (by simp),hT b (by simp),zc,zb,pw,ha,hb,hL a (by simp),hL b (by simp),Bool.and_self]
    simp (disch:=((try simp only [pe,py,pz]); omega)) only [dle,pw]
    show (bif decide (xw 15<x) then _ else _)=some (Out.ret (mkS (yb (decide (xw 15<x)) _)),[]);generalize decide (xw 15<x)=q;cases q
    ·simp [yb,mkS]
    ·simp (disch:=((try simp only [pe,py,pz]); omega)) only [dle,pw]
     simp [yb,mkS]
abbrev O79 (m n r:Nat) (k:Int) (nm:List UInt8) (kids:List T) (nms:List (List UInt8)) (pl:Int) (ls:List (List UInt8)) (i:Int):Option R1:=
 LP cx (K43 m) n 169 0 3 r [(1,V.ptr 1 0),(3,V.sl 1 (ls.map .str) 3),(4,V.d (D.int .i64 i))] [(1,Ob.val 5 (V.d (D.agg [D.int .i64 k,D.str nm,D.sl 5 (T.ds kids),D.sl 1 (List.map D.str nms),D.int .i64 pl]))),(3,Ob.tok ls.length)] (AK cx (K43 m) n 169 0 3 (EK cx 169 0))
theorem z1d{m n r:Nat}{k:Int}{nm:List UInt8}{kids:List T}{nms:List (List UInt8)}{pl i k' pl' k2 pl2:Int}{ls:List (List UInt8)}{nm' nm2:List UInt8}{nms' nms2:List (List UInt8)}{r' qs:List T}
  (hq:∀ t∈qs,zap t=true) (hl:qs.length<4294967296) (hls:ls.length+1≤4294967296) (hr:r'=[]∨∃ u,r'=[u]∧zi m u.d=some u∧zg u=true∧yg u=true) :
  ∀ (rest:List T) (j q:Nat) (s:List UInt8),qs.drop j=rest→j≤qs.length→rest.length<q→(j=0∧s=[]∨0<j∧s ≠ [])→s.length+((rest.map zae).flatten.length+(qz (T.mk k2 nm2 qs nms2 pl2::r')).length)+1≤4611686018427387904 →
   LP cx (K43 m) n 169 0 8 q [(1,V.ptr 1 0),(3,V.sl 1 (ls.map .str) 3),(4,V.d (D.int .i64 i)),(5,V.ptr 5 0),(6,V.d (D.str s)),(7,V.d (D.int .i64 j))] [(1,Ob.val 5 (V.d (D.agg [D.int .i64 k,D.str nm,D.sl 5 (T.ds kids),D.sl 1 (List.map D.str nms),D.int .i64 pl]))),(3,Ob.tok ls.length),(5,Ob.val 5 (V.d (D.agg [D.int .i64 k',D.str nm',D.sl 5 (D.agg [D.int .i64 k2,D.str nm2,D.sl 5 (T.ds qs),D.sl 1 (List.map D.str nms2),D.int .i64 pl2]::T.ds r'),D.sl 1 (List.map D.str nms'),D.int .i64 pl'])))] (AL cx (K43 m) n 169 0 3 8 (inK cx (K43 m) n 169 0 3 r (AK cx (K43 m) n 169 0 3 (EK cx 169 0)))) =
   O79 m n r k nm kids nms pl (ls++[(bif decide (s++(rest.map zae).flatten=[]) then [49] else s++(rest.map zae).flatten)++qz (T.mk k2 nm2 qs nms2 pl2::r')]) (IntKind.i64.wrap (i+1))
 | [],j,q,s,hd,hj,hk',hs,hb=>by
  obtain ⟨q,rfl⟩:∃ i,q=i+1:=⟨q - 1,by omega⟩
  have:qs.length≤j:=by simpa using hd
  obtain rfl:j=qs.length:=by omega
  have p0:decide ((0:Int)<((D.agg [D.int .i64 k2,D.str nm2,D.sl 5 (T.ds qs),D.sl 1 (List.map D.str nms2),D.int .i64 pl2]::T.ds r').length:Int))=true:=pa (by simp only [py]; omega)
  rw [i79,p0,zu,yw];simp only [zb,pw,px,List.map_nil,List.flatten_nil,List.append_nil,pz,Nat.zero_add] at hb ⊢;rcases hr with rfl | ⟨u,rfl,hT,hu,hlu⟩
  ·have e:qz [T.mk k2 nm2 qs nms2 pl2]=[]:=rfl;have p2:decide (((D.agg [D.int .i64 k2,D.str nm2,D.sl 5 (T.ds qs),D.sl 1 (List.map D.str nms2),D.int .i64 pl2]::T.ds []).length:Int)=2)=false:=rfl;have p3:∀ x:List UInt8,(decide (ls.length=(List.map D.str ls).length)&&decide ((List.map D.str ls).length+[D.str x].length≤4294967296))=true:=λ x=>by
    rw [ph,pa rfl,pa (by simpa using hls)]; rfl
   rw [e,p2];simp only [px,p3,pw,List.append_nil];cases hs0:decide (s=[]) <;> simp [O79]
  ·have e:qz [T.mk k2 nm2 qs nms2 pl2,u]=[32,45,62,32]++zw u 0:=rfl;have p2:decide (((D.agg [D.int .i64 k2,D.str nm2,D.sl 5 (T.ds qs),D.sl 1 (List.map D.str nms2),D.int .i64 pl2]::T.ds [u]).length:Int)=2)=true:=rfl;have p1:decide ((1:Int)<((D.agg [D.int .i64 k2,D.str nm2,D.sl 5 (T.ds qs),D.sl 1 (List.map D.str nms2),D.int .i64 pl2]::T.ds [u]).length:Int))=true:=rfl;have n1:∀ (K:D→Option R1),za (D.agg [D.int .i64 k2,D.str nm2,D.sl 5 (T.ds qs),D.sl 1 (List.map D.str nms2),D.int .i64 pl2]::T.ds [u]) (1:Int).toNat K=K u.d:=λ K=>rfl;have p3:∀ x:List UInt8,(decide (ls.length=(List.map D.str ls).length)&&decide ((List.map D.str ls).length+[D.str x].length≤4294967296))=true:=λ x=>by
    rw [ph,pa rfl,pa (by simpa using hls)]; rfl
   rw [e] at hb ⊢;simp only [pe,py,pz] at hb;rw [p2,p1];simp only [pw,n1,yk,xu,vk,vj,vi,vh,we,hT,zc,hu,hlu,Bool.and_self,p3];simp (disch:=((try simp only [pe,py,pz]); omega)) only [dle,pw]
   cases hs0:decide (s=[]) <;> simp [O79]
 | t::rest,j,q,s,hd,hj,hk',hs,hb=>by
  obtain ⟨q,rfl⟩:∃ i,q=i+1:=⟨q - 1,by omega⟩
  obtain ⟨h1,h2,h3⟩:=za0 hd;obtain ⟨nm3,x,pl3,rfl,_,_⟩:=z1k (hq t (pq h2));have et:zae (.mk 13 nm3 [] [x] pl3)=[40]++nm3++[61]++x++[41]:=by simp [zae,T.nm,T.nms,xb]
  simp only [List.map_cons,List.flatten_cons,pe] at hb ⊢;have hel:(zae (.mk 13 nm3 [] [x] pl3)).length=nm3.length+x.length+3:=by rw [et]; simp; omega
  have ih:=z1d (n:=n) (r:=r) (k:=k) (nm:=nm) (kids:=kids) (nms:=nms) (pl:=pl) (i:=i) (k':=k') (pl':=pl') (k2:=k2) (pl2:=pl2) (ls:=ls) (nm':=nm') (nm2:=nm2) (nms':=nms') (nms2:=nms2) hq hl hls hr rest (j+1) q (s++zae (.mk 13 nm3 [] [x] pl3)) h3 h1 (by simp at hk'; omega) (.inr ⟨by omega,by rw [et]; simp⟩) (by simp only [pe]; omega)
  rw [List.append_assoc] at ih;rw [←ih];have p0:decide ((0:Int)<((D.agg [D.int .i64 k2,D.str nm2,D.sl 5 (T.ds qs),D.sl 1 (List.map D.str nms2),D.int .i64 pl2]::T.ds r').length:Int))=true:=pa (by simp only [py]; omega)
  have nx:[x][(0:Int).toNat]?=some x:=rfl;have ex:decide ((0:Int)<(([x].map D.str).length:Int))=true:=rfl;rw [i79,p0,zu,yf h1,y8,w9 h1 hl];rw [hel] at hb;simp only [pw,zb,zc,Bool.and_self,yh,po,h2,zbb,xu,vk,vj,vi,vh,zyp,Bool.true_or,ex,wt,nx,zc2];simp (disch:=((try simp only [pe,py,pz]); omega)) only [dle,pw]
  simp only [et,List.append_assoc]
theorem ye9(n m:Nat)(nm:List UInt8)(kids:List T)(nms:List (List UInt8))(pl a:Int):zn cx (K79 m) n 134 [.d (.agg [.int .i64 1,.str nm,.sl 5 (T.ds kids),.sl 1 (nms.map .str),.int .i64 pl]),.d (.int .i64 a)] []=bif decide ((2:Int)<a) then zb (decide ([40].length+nm.length≤4611686018427387904)) (zb (decide ((40::nm).length+[41].length≤4611686018427387904)) (some (Out.ret (V.d (D.str (40::(nm++[41])))),[]))) else some (Out.ret (V.d (D.str nm)),[]):=by kernel_rfl
theorem ye8(n m:Nat)(nm:List UInt8)(kids:List T)(nms:List (List UInt8))(pl a:Int):zn cx (K79 m) n 134 [.d (.agg [.int .i64 2,.str nm,.sl 5 (T.ds kids),.sl 1 (nms.map .str),.int .i64 pl]),.d (.int .i64 a)] []=zc (zdm (D.sl 1 (List.map D.str nms),[32])) λ b=>zb (decide ([92].length+(ya b.fst b.snd).length≤4611686018427387904)) (zb (decide ((92::ya b.fst b.snd).length+[46,32].length≤4611686018427387904)) (zb (decide ((0:Int)<(↑(T.ds kids).length:Int))) (za (T.ds kids) (0:Int).toNat λ y=>za y.cells 0 λ c=>za y.cells 1 λ c_1=>za y.cells 2 λ c_2=>za y.cells 3 λ c_3=>za y.cells 4 λ c_4=>zc (zc (zi m (D.agg [c,c_1,c_2,c_3,c_4])) λ t=>zb (zg t&&yg t) (some (zw t (0:Int)))) λ b_1=>zb (decide ((92::((ya b.fst b.snd)++[46,32])).length+b_1.length≤4611686018427387904)) (bif decide ((0:Int)<a) then zb (decide ([40].length+(92::((((ya b.fst b.snd)++[46,32]))++b_1)).length≤4611686018427387904)) (zb (decide ((40::92::((((ya b.fst b.snd)++[46,32]))++b_1)).length+[41].length≤4611686018427387904)) (some (Out.ret (V.d (D.str (40::92::((((((ya b.fst b.snd)++[46,32]))++b_1))++[41])))),[]))) else some (Out.ret (V.d (D.str (92::((((ya b.fst b.snd)++[46,32]))++b_1)))),[]))))):=by kernel_rfl
theorem ye7(n m:Nat)(nm:List UInt8)(kids:List T)(nms:List (List UInt8))(pl a:Int):zn cx (K79 m) n 134 [.d (.agg [.int .i64 3,.str nm,.sl 5 (T.ds kids),.sl 1 (nms.map .str),.int .i64 pl]),.d (.int .i64 a)] []=zc (zdm (D.sl 1 (List.map D.str nms),[32])) λ b=>zb (decide ([60].length+(ya b.fst b.snd).length≤4611686018427387904)) (zb (decide ((60::ya b.fst b.snd).length+[62,32].length≤4611686018427387904)) (zb (decide ((0:Int)<(↑(T.ds kids).length:Int))) (za (T.ds kids) (0:Int).toNat λ y=>za y.cells 0 λ c=>za y.cells 1 λ c_1=>za y.cells 2 λ c_2=>za y.cells 3 λ c_3=>za y.cells 4 λ c_4=>zc (zc (zi m (D.agg [c,c_1,c_2,c_3,c_4])) λ t=>zb (zg t&&yg t) (some (zw t (0:Int)))) λ b_1=>zb (decide ((60::((ya b.fst b.snd)++[62,32])).length+b_1.length≤4611686018427387904)) (bif decide ((0:Int)<a) then zb (decide ([40].length+(60::((((ya b.fst b.snd)++[62,32]))++b_1)).length≤4611686018427387904)) (zb (decide ((40::60::((((ya b.fst b.snd)++[62,32]))++b_1)).length+[41].length≤4611686018427387904)) (some (Out.ret (V.d (D.str (40::60::((((((ya b.fst b.snd)++[62,32]))++b_1))++[41])))),[]))) else some (Out.ret (V.d (D.str (60::((((ya b.fst b.snd)++[62,32]))++b_1)))),[]))))):=by kernel_rfl
theorem ye6(n m:Nat)(nm:List UInt8)(kids:List T)(nms:List (List UInt8))(pl a:Int):zn cx (K79 m) n 134 [.d (.agg [.int .i64 4,.str nm,.sl 5 (T.ds kids),.sl 1 (nms.map .str),.int .i64 pl]),.d (.int .i64 a)] []=zb (decide ((0:Int)<(↑(T.ds kids).length:Int))) (za (T.ds kids) (0:Int).toNat λ y=>za y.cells 0 λ c=>za y.cells 1 λ c_1=>za y.cells 2 λ c_2=>za y.cells 3 λ c_3=>za y.cells 4 λ c_4=>bif decide ((↑(List.map D.str nms).length:Int)=(1:Int)) then zb (decide ((0:Int)<(↑(List.map D.str nms).length:Int))) (za (List.map D.str nms) (0:Int).toNat λ y=>za y.cells 0 λ c_5=>match c_5 with
 | D.str s=>zb (decide ([40].length+s.length≤4611686018427387904)) (zb (decide ((40::s).length+[32,58,32].length≤4611686018427387904)) (zc (zc (zi m (D.agg [c,c_1,c_2,c_3,c_4])) λ t=>zb (zg t&&yg t) (some (zw t (0:Int)))) λ b=>zb (decide ((40::(s++[32,58,32])).length+b.length≤4611686018427387904)) (zb (decide ((40::(((s++[32,58,32]))++b)).length+[41].length≤4611686018427387904)) (zb (decide ((40::(((((s++[32,58,32]))++b))++[41])).length+[32,45,62,32].length≤4611686018427387904)) (zb (decide ((1:Int)<(↑(T.ds kids).length:Int))) (za (T.ds kids) (1:Int).toNat λ y=>za y.cells 0 λ c=>za y.cells 1 λ c_6=>za y.cells 2 λ c_7=>za y.cells 3 λ c_8=>za y.cells 4 λ c_9=>zc (zc (zi m (D.agg [c,c_6,c_7,c_8,c_9])) λ t=>zb (zg t&&yg t) (some (zw t (0:Int)))) λ b_1=>zb (decide ((40::(((((((s++[32,58,32]))++b))++[41]))++[32,45,62,32])).length+b_1.length≤4611686018427387904)) (bif decide ((0:Int)<a) then zb (decide ([40].length+(40::(((((((((s++[32,58,32]))++b))++[41]))++[32,45,62,32]))++b_1)).length≤4611686018427387904)) (zb (decide ((40::40::(((((((((s++[32,58,32]))++b))++[41]))++[32,45,62,32]))++b_1)).length+[41].length≤4611686018427387904)) (some (Out.ret (V.d (D.str (40::40::(((((((((((s++[32,58,32]))++b))++[41]))++[32,45,62,32]))++b_1))++[41])))),[]))) else some (Out.ret (V.d (D.str (40::(((((((((s++[32,58,32]))++b))++[41]))++[32,45,62,32]))++b_1)))),[]))))))))
 | x=>none) else match c with
 | D.int k' n=>bif decide (k'=IntKind.i64) then bif decide (n=(9:Int)) then match c_2 with
  | D.sl s l=>bif s.beq (cx.P.cellsOf 26)||l.isEmpty then zb (decide ((0:Int)<(↑l.length:Int))) (za l (0:Int).toNat λ y=>za y.cells 0 λ c_5=>match c_5 with
   | D.int k' n=>bif decide (k'=IntKind.i64) then bif decide (n=(1:Int)) then zc (zc (zi m (D.agg [c,c_1,c_2,c_3,c_4])) λ t=>zb (zg t&&yg t) (some (zw t (1:Int)))) λ b=>zb (decide ([40].length+b.length≤4611686018427387904)) (zb (decide ((40::b).length+[41].length≤4611686018427387904)) (zb (decide ((40::(b++[41])).length+[32,45,62,32].length≤4611686018427387904)) (zb (decide ((1:Int)<(↑(T.ds kids).length:Int))) (za (T.ds kids) (1:Int).toNat λ y=>za y.cells 0 λ c=>za y.cells 1 λ c_6=>za y.cells 2 λ c_7=>za y.cells 3 λ c_8=>za y.cells 4 λ c_9=>zc (zc (zi m (D.agg [c,c_6,c_7,c_8,c_9])) λ t=>zb (zg t&&yg t) (some (zw t (0:Int)))) λ b_1=>zb (decide ((40::(((b++[41]))++[32,45,62,32])).length+b_1.length≤4611686018427387904)) (bif decide ((0:Int)<a) then zb (decide ([40].length+(40::(((((b++[41]))++[32,45,62,32]))++b_1)).length≤4611686018427387904)) (zb (decide ((40::40::(((((b++[41]))++[32,45,62,32]))++b_1)).length+[41].length≤4611686018427387904)) (some (Out.ret (V.d (D.str (40::40::(((((((b++[41]))++[32,45,62,32]))++b_1))++[41])))),[]))) else some (Out.ret (V.d (D.str (40::(((((b++[41]))++[32,45,62,32]))++b_1)))),[])))))) else zc (zc (zi m (D.agg [c,c_1,c_2,c_3,c_4])) λ t=>zb (zg t&&yg t) (some (zw t (1:Int)))) λ b=>zb (decide (b.length+[32,45,62,32].length≤4611686018427387904)) (zb (decide ((1:Int)<(↑(T.ds kids).length:Int))) (za (T.ds kids) (1:Int).toNat λ y=>za y.cells 0 λ c=>za y.cells 1 λ c_6=>za y.cells 2 λ c_7=>za y.cells 3 λ c_8=>za y.cells 4 λ c_9=>zc (zc (zi m (D.agg [c,c_6,c_7,c_8,c_9])) λ t=>zb (zg t&&yg t) (some (zw t (0:Int)))) λ b_1=>zb (decide ((b++[32,45,62,32]).length+b_1.length≤4611686018427387904)) (bif decide ((0:Int)<a) then zb (decide ([40].length+(b++[32,45,62,32]++b_1).length≤4611686018427387904)) (zb (decide ((40::(b++[32,45,62,32]++b_1)).length+[41].length≤4611686018427387904)) (some (Out.ret (V.d (D.str (40::((b++[32,45,62,32]++b_1)++[41])))),[]))) else some (Out.ret (V.d (D.str (b++[32,45,62,32]++b_1))),[])))) else none
   | x=>none) else none
  | x=>none else zc (zc (zi m (D.agg [c,c_1,c_2,c_3,c_4])) λ t=>zb (zg t&&yg t) (some (zw t (1:Int)))) λ b=>zb (decide (b.length+[32,45,62,32].length≤4611686018427387904)) (zb (decide ((1:Int)<(↑(T.ds kids).length:Int))) (za (T.ds kids) (1:Int).toNat λ y=>za y.cells 0 λ c=>za y.cells 1 λ c_5=>za y.cells 2 λ c_6=>za y.cells 3 λ c_7=>za y.cells 4 λ c_8=>zc (zc (zi m (D.agg [c,c_5,c_6,c_7,c_8])) λ t=>zb (zg t&&yg t) (some (zw t (0:Int)))) λ b_1=>zb (decide ((b++[32,45,62,32]).length+b_1.length≤4611686018427387904)) (bif decide ((0:Int)<a) then zb (decide ([40].length+(b++[32,45,62,32]++b_1).length≤4611686018427387904)) (zb (decide ((40::(b++[32,45,62,32]++b_1)).length+[41].length≤4611686018427387904)) (some (Out.ret (V.d (D.str (40::((b++[32,45,62,32]++b_1)++[41])))),[]))) else some (Out.ret (V.d (D.str (b++[32,45,62,32]++b_1))),[])))) else none
 | x=>none):=by kernel_rfl
theorem ye5(n m:Nat)(nm:List UInt8)(kids:List T)(nms:List (List UInt8))(pl a:Int):zn cx (K79 m) n 134 [.d (.agg [.int .i64 5,.str nm,.sl 5 (T.ds kids),.sl 1 (nms.map .str),.int .i64 pl]),.d (.int .i64 a)] []=zb (decide ((0:Int)<(↑(T.ds kids).length:Int))) (za (T.ds kids) (0:Int).toNat λ y=>za y.cells 0 λ c=>za y.cells 1 λ c_1=>za y.cells 2 λ c_2=>za y.cells 3 λ c_3=>za y.cells 4 λ c_4=>bif decide ((↑(List.map D.str nms).length:Int)=(1:Int)) then zb (decide ((0:Int)<(↑(List.map D.str nms).length:Int))) (za (List.map D.str nms) (0:Int).toNat λ y=>za y.cells 0 λ c_5=>match c_5 with
 | D.str s=>zb (decide ([40].length+s.length≤4611686018427387904)) (zb (decide ((40::s).length+[32,58,32].length≤4611686018427387904)) (zc (zc (zi m (D.agg [c,c_1,c_2,c_3,c_4])) λ t=>zb (zg t&&yg t) (some (zw t (0:Int)))) λ b=>zb (decide ((40::(s++[32,58,32])).length+b.length≤4611686018427387904)) (zb (decide ((40::(((s++[32,58,32]))++b)).length+[41].length≤4611686018427387904)) (zb (decide ((40::(((((s++[32,58,32]))++b))++[41])).length+[32,42,32].length≤4611686018427387904)) (zb (decide ((1:Int)<(↑(T.ds kids).length:Int))) (za (T.ds kids) (1:Int).toNat λ y=>za y.cells 0 λ c=>za y.cells 1 λ c_6=>za y.cells 2 λ c_7=>za y.cells 3 λ c_8=>za y.cells 4 λ c_9=>zc (zc (zi m (D.agg [c,c_6,c_7,c_8,c_9])) λ t=>zb (zg t&&yg t) (some (zw t (0:Int)))) λ b_1=>zb (decide ((40::(((((((s++[32,58,32]))++b))++[41]))++[32,42,32])).length+b_1.length≤4611686018427387904)) (bif decide ((0:Int)<a) then zb (decide ([40].length+(40::(((((((((s++[32,58,32]))++b))++[41]))++[32,42,32]))++b_1)).length≤4611686018427387904)) (zb (decide ((40::40::(((((((((s++[32,58,32]))++b))++[41]))++[32,42,32]))++b_1)).length+[41].length≤4611686018427387904)) (some (Out.ret (V.d (D.str (40::40::(((((((((((s++[32,58,32]))++b))++[41]))++[32,42,32]))++b_1))++[41])))),[]))) else some (Out.ret (V.d (D.str (40::(((((((((s++[32,58,32]))++b))++[41]))++[32,42,32]))++b_1)))),[]))))))))
 | x=>none) else match c with
 | D.int k' n=>bif decide (k'=IntKind.i64) then bif decide (n=(9:Int)) then match c_2 with
  | D.sl s l=>bif s.beq (cx.P.cellsOf 26)||l.isEmpty then zb (decide ((0:Int)<(↑l.length:Int))) (za l (0:Int).toNat λ y=>za y.cells 0 λ c_5=>match c_5 with
   | D.int k' n=>bif decide (k'=IntKind.i64) then bif decide (n=(1:Int)) then zc (zc (zi m (D.agg [c,c_1,c_2,c_3,c_4])) λ t=>zb (zg t&&yg t) (some (zw t (1:Int)))) λ b=>zb (decide ([40].length+b.length≤4611686018427387904)) (zb (decide ((40::b).length+[41].length≤4611686018427387904)) (zb (decide ((40::(b++[41])).length+[32,42,32].length≤4611686018427387904)) (zb (decide ((1:Int)<(↑(T.ds kids).length:Int))) (za (T.ds kids) (1:Int).toNat λ y=>za y.cells 0 λ c=>za y.cells 1 λ c_6=>za y.cells 2 λ c_7=>za y.cells 3 λ c_8=>za y.cells 4 λ c_9=>zc (zc (zi m (D.agg [c,c_6,c_7,c_8,c_9])) λ t=>zb (zg t&&yg t) (some (zw t (0:Int)))) λ b_1=>zb (decide ((40::(((b++[41]))++[32,42,32])).length+b_1.length≤4611686018427387904)) (bif decide ((0:Int)<a) then zb (decide ([40].length+(40::(((((b++[41]))++[32,42,32]))++b_1)).length≤4611686018427387904)) (zb (decide ((40::40::(((((b++[41]))++[32,42,32]))++b_1)).length+[41].length≤4611686018427387904)) (some (Out.ret (V.d (D.str (40::40::(((((((b++[41]))++[32,42,32]))++b_1))++[41])))),[]))) else some (Out.ret (V.d (D.str (40::(((((b++[41]))++[32,42,32]))++b_1)))),[])))))) else zc (zc (zi m (D.agg [c,c_1,c_2,c_3,c_4])) λ t=>zb (zg t&&yg t) (some (zw t (1:Int)))) λ b=>zb (decide (b.length+[32,42,32].length≤4611686018427387904)) (zb (decide ((1:Int)<(↑(T.ds kids).length:Int))) (za (T.ds kids) (1:Int).toNat λ y=>za y.cells 0 λ c=>za y.cells 1 λ c_6=>za y.cells 2 λ c_7=>za y.cells 3 λ c_8=>za y.cells 4 λ c_9=>zc (zc (zi m (D.agg [c,c_6,c_7,c_8,c_9])) λ t=>zb (zg t&&yg t) (some (zw t (0:Int)))) λ b_1=>zb (decide ((b++[32,42,32]).length+b_1.length≤4611686018427387904)) (bif decide ((0:Int)<a) then zb (decide ([40].length+(b++[32,42,32]++b_1).length≤4611686018427387904)) (zb (decide ((40::(b++[32,42,32]++b_1)).length+[41].length≤4611686018427387904)) (some (Out.ret (V.d (D.str (40::((b++[32,42,32]++b_1)++[41])))),[]))) else some (Out.ret (V.d (D.str (b++[32,42,32]++b_1))),[])))) else none
   | x=>none) else none
  | x=>none else zc (zc (zi m (D.agg [c,c_1,c_2,c_3,c_4])) λ t=>zb (zg t&&yg t) (some (zw t (1:Int)))) λ b=>zb (decide (b.length+[32,42,32].length≤4611686018427387904)) (zb (decide ((1:Int)<(↑(T.ds kids).length:Int))) (za (T.ds kids) (1:Int).toNat λ y=>za y.cells 0 λ c=>za y.cells 1 λ c_5=>za y.cells 2 λ c_6=>za y.cells 3 λ c_7=>za y.cells 4 λ c_8=>zc (zc (zi m (D.agg [c,c_5,c_6,c_7,c_8])) λ t=>zb (zg t&&yg t) (some (zw t (0:Int)))) λ b_1=>zb (decide ((b++[32,42,32]).length+b_1.length≤4611686018427387904)) (bif decide ((0:Int)<a) then zb (decide ([40].length+(b++[32,42,32]++b_1).length≤4611686018427387904)) (zb (decide ((40::(b++[32,42,32]++b_1)).length+[41].length≤4611686018427387904)) (some (Out.ret (V.d (D.str (40::((b++[32,42,32]++b_1)++[41])))),[]))) else some (Out.ret (V.d (D.str (b++[32,42,32]++b_1))),[])))) else none
 | x=>none):=by kernel_rfl
theorem ye4(n m:Nat)(nm:List UInt8)(kids:List T)(nms:List (List UInt8))(pl a:Int):zn cx (K79 m) n 134 [.d (.agg [.int .i64 6,.str nm,.sl 5 (T.ds kids),.sl 1 (nms.map .str),.int .i64 pl]),.d (.int .i64 a)] []=zb (decide ((0:Int)<(↑(T.ds kids).length:Int))) (za (T.ds kids) (0:Int).toNat λ y=>za y.cells 0 λ c=>za y.cells 1 λ c_1=>za y.cells 2 λ c_2=>za y.cells 3 λ c_3=>za y.cells 4 λ c_4=>zc (zc (zi m (D.agg [c,c_1,c_2,c_3,c_4])) λ t=>zb (zg t&&yg t) (some (zw t (1:Int)))) λ b=>zb (decide (b.length+[32].length≤4611686018427387904)) (zb (decide ((1:Int)<(↑(T.ds kids).length:Int))) (za (T.ds kids) (1:Int).toNat λ y=>za y.cells 0 λ c=>za y.cells 1 λ c_5=>za y.cells 2 λ c_6=>za y.cells 3 λ c_7=>za y.cells 4 λ c_8=>zc (zc (zi m (D.agg [c,c_5,c_6,c_7,c_8])) λ t=>zb (zg t&&yg t) (some (zw t (2:Int)))) λ b_1=>zb (decide ((b++[32]).length+b_1.length≤4611686018427387904)) (bif decide ((1:Int)<a) then zb (decide ([40].length+(b++[32]++b_1).length≤4611686018427387904)) (zb (decide ((40::(b++[32]++b_1)).length+[41].length≤4611686018427387904)) (some (Out.ret (V.d (D.str (40::((b++[32]++b_1)++[41])))),[]))) else some (Out.ret (V.d (D.str (b++[32]++b_1))),[]))))):=by kernel_rfl
theorem ye3(n m:Nat)(nm:List UInt8)(kids:List T)(nms:List (List UInt8))(pl a:Int):zn cx (K79 m) n 134 [.d (.agg [.int .i64 7,.str nm,.sl 5 (T.ds kids),.sl 1 (nms.map .str),.int .i64 pl]),.d (.int .i64 a)] []=zb (decide ((0:Int)<(↑(T.ds kids).length:Int))) (za (T.ds kids) (0:Int).toNat λ y=>za y.cells 0 λ c=>za y.cells 1 λ c_1=>za y.cells 2 λ c_2=>za y.cells 3 λ c_3=>za y.cells 4 λ c_4=>zc (zc (zi m (D.agg [c,c_1,c_2,c_3,c_4])) λ t=>zb (zg t&&yg t) (some (zw t (1:Int)))) λ b=>zb (decide (b.length+[32,64,32].length≤4611686018427387904)) (zb (decide ((1:Int)<(↑(T.ds kids).length:Int))) (za (T.ds kids) (1:Int).toNat λ y=>za y.cells 0 λ c=>za y.cells 1 λ c_5=>za y.cells 2 λ c_6=>za y.cells 3 λ c_7=>za y.cells 4 λ c_8=>zc (zc (zr (D.agg [c,c_5,c_6,c_7,c_8])) λ t=>zb (zz t&&yg t) (some (vt t (2:Int)))) λ b_1=>zb (decide ((b++[32,64,32]).length+b_1.length≤4611686018427387904)) (bif decide ((1:Int)<a) then zb (decide ([40].length+(b++[32,64,32]++b_1).length≤4611686018427387904)) (zb (decide ((40::(b++[32,64,32]++b_1)).length+[41].length≤4611686018427387904)) (some (Out.ret (V.d (D.str (40::((b++[32,64,32]++b_1)++[41])))),[]))) else some (Out.ret (V.d (D.str (b++[32,64,32]++b_1))),[]))))):=by kernel_rfl
theorem ye2(n m:Nat)(nm:List UInt8)(kids:List T)(nms:List (List UInt8))(pl a:Int):zn cx (K79 m) n 134 [.d (.agg [.int .i64 8,.str nm,.sl 5 (T.ds kids),.sl 1 (nms.map .str),.int .i64 pl]),.d (.int .i64 a)] []=zb (decide ((0:Int)<(↑(T.ds kids).length:Int))) (za (T.ds kids) (0:Int).toNat λ y=>za y.cells 0 λ c=>za y.cells 1 λ c_1=>za y.cells 2 λ c_2=>za y.cells 3 λ c_3=>za y.cells 4 λ c_4=>zc (zc (zi m (D.agg [c,c_1,c_2,c_3,c_4])) λ t=>zb (zg t&&yg t) (some (zw t (0:Int)))) λ b=>zb (decide ([40].length+b.length≤4611686018427387904)) (zb (decide ((40::b).length+[44,32].length≤4611686018427387904)) (zb (decide ((1:Int)<(↑(T.ds kids).length:Int))) (za (T.ds kids) (1:Int).toNat λ y=>za y.cells 0 λ c=>za y.cells 1 λ c_5=>za y.cells 2 λ c_6=>za y.cells 3 λ c_7=>za y.cells 4 λ c_8=>zc (zc (zi m (D.agg [c,c_5,c_6,c_7,c_8])) λ t=>zb (zg t&&yg t) (some (zw t (0:Int)))) λ b_1=>zb (decide ((40::(b++[44,32])).length+b_1.length≤4611686018427387904)) (zb (decide ((40::(((b++[44,32]))++b_1)).length+[41].length≤4611686018427387904)) (bif decide ((2:Int)<a) then zb (decide ([40].length+(40::(((((b++[44,32]))++b_1))++[41])).length≤4611686018427387904)) (zb (decide ((40::40::(((((b++[44,32]))++b_1))++[41])).length+[41].length≤4611686018427387904)) (some (Out.ret (V.d (D.str (40::40::(((((((b++[44,32]))++b_1))++[41]))++[41])))),[]))) else some (Out.ret (V.d (D.str (40::(((((b++[44,32]))++b_1))++[41])))),[]))))))):=by kernel_rfl
theorem ye1(n m:Nat)(nm:List UInt8)(kids:List T)(nms:List (List UInt8))(pl a:Int):zn cx (K79 m) n 134 [.d (.agg [.int .i64 9,.str nm,.sl 5 (T.ds kids),.sl 1 (nms.map .str),.int .i64 pl]),.d (.int .i64 a)] []=zb (decide ((0:Int)<(↑(T.ds kids).length:Int))) (za (T.ds kids) (0:Int).toNat λ y=>za y.cells 0 λ c=>za y.cells 1 λ c_1=>za y.cells 2 λ c_2=>za y.cells 3 λ c_3=>za y.cells 4 λ c_4=>zc (zc (zi m (D.agg [c,c_1,c_2,c_3,c_4])) λ t=>zb (zg t&&yg t) (some (zw t (0:Int)))) λ b=>zb (decide ([40].length+b.length≤4611686018427387904)) (zb (decide ((40::b).length+[32,58,32].length≤4611686018427387904)) (zb (decide ((1:Int)<(↑(T.ds kids).length:Int))) (za (T.ds kids) (1:Int).toNat λ y=>za y.cells 0 λ c=>za y.cells 1 λ c_5=>za y.cells 2 λ c_6=>za y.cells 3 λ c_7=>za y.cells 4 λ c_8=>zc (zc (zi m (D.agg [c,c_5,c_6,c_7,c_8])) λ t=>zb (zg t&&yg t) (some (zw t (0:Int)))) λ b_1=>zb (decide ((40::(b++[32,58,32])).length+b_1.length≤4611686018427387904)) (zb (decide ((40::(((b++[32,58,32]))++b_1)).length+[41].length≤4611686018427387904)) (bif decide ((2:Int)<a) then zb (decide ([40].length+(40::(((((b++[32,58,32]))++b_1))++[41])).length≤4611686018427387904)) (zb (decide ((40::40::(((((b++[32,58,32]))++b_1))++[41])).length+[41].length≤4611686018427387904)) (some (Out.ret (V.d (D.str (40::40::(((((((b++[32,58,32]))++b_1))++[41]))++[41])))),[]))) else some (Out.ret (V.d (D.str (40::(((((b++[32,58,32]))++b_1))++[41])))),[]))))))):=by kernel_rfl
theorem yb1(n m:Nat)(nm:List UInt8)(kids:List T)(nms:List (List UInt8))(pl a:Int):zn cx (K79 m) n 134 [.d (.agg [.int .i64 10,.str nm,.sl 5 (T.ds kids),.sl 1 (nms.map .str),.int .i64 pl]),.d (.int .i64 a)] []=zc (zc (zi (m+1) (D.agg [D.int .i64 (10:Int),D.str nm,D.sl 5 (T.ds kids),D.sl 1 (List.map D.str nms),D.int .i64 pl])) λ t=>zb (zcn t&&yg t) (some (zd6 t))) λ b=>bif decide ((2:Int)<a) then zb (decide ([40].length+b.length≤4611686018427387904)) (zb (decide ((40::b).length+[41].length≤4611686018427387904)) (some (Out.ret (V.d (D.str (40::(b++[41])))),[]))) else some (Out.ret (V.d (D.str b)),[]):=by kernel_rfl
theorem zk5:∀ (l:List T) (b:Bool),zbn b l=zan [44,32] b (l.map zaf)
 | [],b=>rfl
 | t::l,b=>by rw [zbn,zk5 l false]; rfl
theorem z1l:∀ (l:List T),∀ x∈l.map zaf,x.length≤12 * Sp.bulks l
 | [],x,h=>by simp at h
 | t::l,x,h=>by
  simp only [List.map_cons,List.mem_cons] at h;simp only [Sp.bulks];rcases h with rfl | h
  ·have:=zu9 t; omega
  ·have:=z1l l x h; omega
theorem z0y{m n:Nat}{k:Int}{nm:List UInt8}{kids:List T}{nms:List (List UInt8)}{pl:Int}(hn:4294967296<n)(hl:kids.length<4294967296)(ho:T.oks kids=true)(hd0:T.depths kids≤m)(he:∀ t∈kids,ym t=true)(hb:Sp.bulks kids≤16777216) :
  ∀ (rest:List T) (j r:Nat),kids.drop j=rest→j≤kids.length→rest.length<r →
   O79 m n r k nm kids nms pl ((kids.take j).map zaf) j=some (.ret (mkS ([91]++ya (kids.map zaf) [44,32]++[93])),[])
 | [],j,r,hd,hj,hk'=>by
  obtain ⟨r,rfl⟩:∃ i,r=i+1:=⟨r - 1,by omega⟩
  have:kids.length≤j:=by simpa using hd
  obtain rfl:j=kids.length:=by omega
  rw [List.take_length];simp only [O79];rw [l79,zu,yw,px];have hjl:(ya (kids.map zaf) [44,32]).length≤12 * Sp.bulks kids:=by
   rw [←zhn,←zk5]; exact zq0 kids true
  have h3:yn (kids.map zaf)=true:=pa (by rw [ph]; exact hl)
  have h4:(kids.map zaf).all yn=true:=List.all_eq_true.2 λ x hx=>pa (by have:=z1l kids x hx; omega)
  have e:zdm (D.sl 1 ((kids.map zaf).map D.str),[44,32])=some (kids.map zaf,[44,32]):=by
   unfold zdm;simp only [zwm h3 h4];rw [pa (by unfold ya at hjl; omega)]
   rfl
  rw [e];simp only [zc,zb];simp (disch:=((try simp only [pe,py,pz]); omega)) only [dle,pw]
  simp [mkS]
 | t::rest,j,r,hd,hj,hk'=>by
  obtain ⟨r,rfl⟩:∃ i,r=i+1:=⟨r - 1,by omega⟩
  obtain ⟨h1,h2,h3⟩:=za0 hd;have htm:=pq h2;obtain ⟨qs,plf,r',pl',rfl,hq,hr'⟩:=zxu (he t htm);obtain ⟨_,o2,_,_,o5⟩:=vo (wx ho htm);have hbt:=zei htm;have hdx:T.depths (.mk 12 [] qs [] plf::r')≤m:=by
   have:=zgy htm;simp only [T.depth] at this; omega
  have hql:qs.length<4294967296:=by
   obtain ⟨_,q2,_,_,_⟩:=vo (wx o5 (pp ..));exact yp q2
  have hrr:r'=[]∨∃ u,r'=[u]∧zi m u.d=some u∧zg u=true∧yg u=true:=by
   rcases hr' with rfl | ⟨u,rfl,hu⟩
   ·exact .inl rfl
   ·refine .inr ⟨u,rfl,zay hdx o5 (by simp),hu,pa ?_⟩
    simp only [xa,Sp.bulks] at hbt;omega
  have hln:=zu9 (.mk 11 [] (.mk 12 [] qs [] plf::r') [] pl');have ee:zaf (.mk 11 [] (.mk 12 [] qs [] plf::r') [] pl')=(bif decide ((qs.map zae).flatten=[]) then [49] else (qs.map zae).flatten)++qz (.mk 12 [] qs [] plf::r'):=by
   rw [zzl,zft,zax];rcases qs with _ | ⟨q,qs⟩
   ·rfl
   ·simp [zae]
  have hj2:((kids.take j).map zaf).length+1≤4294967296:=by rw [ph,List.length_take]; omega
  have h_in:=z1d (n:=n) (r:=r) (k:=k) (nm:=nm) (kids:=kids) (nms:=nms) (pl:=pl) (i:=(j:Int)) (k':=11) (pl':=pl') (k2:=12) (pl2:=plf) (ls:=(kids.take j).map zaf) (nm':=[]) (nm2:=[]) (nms':=[]) (nms2:=[]) hq hql hj2 hrr qs 0 n [] rfl (Nat.zero_le _) (by omega) (.inl ⟨rfl,rfl⟩)
   (by
    rw [zzl,zft,zax] at hln;simp only [pe] at hln;simp only [pz];omega)
  have h_out:=z0y (k:=k) (nm:=nm) (nms:=nms) (pl:=pl) hn hl ho hd0 he hb rest (j+1) r h3 h1 (by simp at hk'; omega)
  have etk:(kids.take (j+1)).map zaf=(kids.take j).map zaf++[zaf (.mk 11 [] (.mk 12 [] qs [] plf::r') [] pl')]:=by
   rw [List.take_add_one,h2]; simp
  rw [etk,ee] at h_out;simp only [List.nil_append] at h_in;rw [w9 h1 hl] at h_in;rw [←h_out,←h_in];simp only [O79];rw [l79,zu,yf h1,y8,yh,po,h2];simp only [pw,zb,zc,Bool.and_self,zbb,xu,vk,vj,vi,vh];rfl
theorem ydi{m:Nat}(hK:knows cx (K43 m).S (zj cx)){t:T}(hd:t.depth≤m+1)(ho:t.ok=true)(hi:zcn t=true)(hl:yg t=true):zj cx 169 [.d t.d] []=some (.ret (mkS (zd6 t)),[]):=by
 obtain ⟨k,nm,kids,nms,pl⟩:=t;obtain ⟨h1,h2,h3,h4,h5⟩:=vo ho;have hkd:=qk hd;simp only [zcn,pm] at hi;have hk:k=10:=pc hi.2;subst hk;have hb:Sp.bulks kids≤16777216:=by
  have:=pc hl;simp only [xa] at this;omega
 refine zm hK (N:=4294967297) ?_;refine (g79 _ m 10 nm kids nms pl).trans ?_;have h:=z0y (m:=m) (n:=4294967297) (k:=10) (nm:=nm) (kids:=kids) (nms:=nms) (pl:=pl) (by omega) (yp h2) h5 hkd (zsi hi.1) hb kids 0 4294967297 rfl (Nat.zero_le _) (by have:=yp h2; omega)
 rw [zd6,zk5,zhn];exact h
theorem z1r{q:Bool}{s:List UInt8}(h:s.length+2≤4611686018427387904) :
  (bif q then zb (decide ([(40:UInt8)].length+s.length≤4611686018427387904)) (zb (decide ((40::s).length+[(41:UInt8)].length≤4611686018427387904)) (some (Out.ret (V.d (D.str (40::(s++[41])))),([]:St)))) else some (Out.ret (V.d (D.str s)),[]))=some (Out.ret (mkS (yb q s)),[]):=by
 cases q
 ·rfl
 ·rw [pa (by simp only [py,pz]; omega),pa (by simp only [py,pz]; omega)]
  rfl
theorem z9t:∀ (m:Nat) (t:T) (a:Int),t.depth≤m→t.ok=true→zg t=true→yg t=true→zj cx 134 [.d t.d,.d (.int .i64 a)] []=some (.ret (mkS (zw t a)),[])
 | 0,.mk ..,_,h,_,_,_=>by simp [T.depth] at h
 | m+1,.mk k nm kids nms pl,x,hd,ho,hi,hl=>by
  have hK:knows cx (K43 m).S (zj cx):=zk zri λ a q s _ ha hs=>by
   obtain ⟨y,n⟩:=q;obtain rfl:=zaz ha;obtain ⟨t,ht,hs⟩:=zd hs;obtain ⟨hf,hs⟩:=zf hs;cases hs;obtain ⟨rfl,h1,h2⟩:=xl ht;rw [pm] at hf;exact z9t m t n h1 h2 hf.1 hf.2
  have h78:=zk (f:=168) (dec:=zdf) (sp:=z9f) (mk:=mkS) hK λ a q s _ ha hs=>by
   obtain ⟨y,n⟩:=q;obtain rfl:=zaz ha;obtain ⟨t,ht,hs⟩:=zd hs;obtain ⟨hf,hs⟩:=zf hs;cases hs;obtain ⟨rfl,h2⟩:=wv ht;rw [pm] at hf;exact z9q t.depth t n (Nat.le_refl _) h2 hf.1 hf.2
  have h79:knows cx (K79 m).S (zj cx):=zk h78 λ a y s _ ha hs=>by
   obtain rfl:=wu ha;obtain ⟨t,ht,hs⟩:=zd hs;obtain ⟨hf,hs⟩:=zf hs;cases hs;obtain ⟨rfl,h1,h2⟩:=xl ht;rw [pm] at hf;exact ydi hK h1 h2 hf.1 hf.2
  have hTt:=zeq hd ho;obtain ⟨h1,h2,h3,h4,h5⟩:=vo ho;have hkd:=qk hd;have hT:∀ t∈kids,zi m t.d=some t:=λ t h=>zay hkd h5 h;have hL:=zs9 hl;have hlen:(yi (.mk k nm kids nms pl)).length+2≤201326592:=by
   have:=zya (.mk k nm kids nms pl);have:=pc hl;omega
  simp only [T.d] at hTt;refine zm h79 (N:=0) ?_;have etx:zw (.mk k nm kids nms pl) x=yb (decide (y5 k<x)) (yi (.mk k nm kids nms pl)):=rfl;rw [etx];rcases z0u hi with rfl | ⟨hk,a,rfl,ha⟩ | hk | ⟨rfl,a,b,rfl,ha,hb⟩ | ⟨rfl,a,b,rfl,ha,hb⟩ | hk | rfl
  ·refine (ye9 0 m nm kids nms pl x).trans ?_;have e:yi (.mk 1 nm kids nms pl)=nm:=by simp [yi]
   rw [e] at hlen ⊢;exact z1r (by omega)
  ·have e0:decide ((0:Int)<((T.ds [a]).length:Int))=true:=by rw [zu]; rfl
   have n0:[a][(0:Int).toNat]?=some a:=rfl;rcases hk with rfl | rfl
   ·have e:yi (.mk 2 nm [a] nms pl)=[92]++ya nms [32]++[46,32]++zw a 0:=by simp [yi,←xd [a] 0 0 a rfl]
    rw [e] at hlen ⊢;simp only [pe,py,pz] at hlen;refine (ye8 0 m nm [a] nms pl x).trans ?_;simp only [zup h3 h4 (sep:=[32]) (by omega),e0,yh,n0,yk,xu,vk,vj,vi,vh,we,hT a (by simp),zc,zb,pw,ha,hL a (by simp),Bool.and_self]
    simp (disch:=((try simp only [pe,py,pz]); omega)) only [dle,pw]
    show (bif decide (y5 2<x) then _ else _)=some (Out.ret (mkS (yb (decide (y5 2<x)) _)),[]);generalize decide (y5 2<x)=q;cases q <;> simp [yb,mkS]
   ·have e:yi (.mk 3 nm [a] nms pl)=[60]++ya nms [32]++[62,32]++zw a 0:=by simp [yi,←xd [a] 0 0 a rfl]
    rw [e] at hlen ⊢;simp only [pe,py,pz] at hlen;refine (ye7 0 m nm [a] nms pl x).trans ?_;simp only [zup h3 h4 (sep:=[32]) (by omega),e0,yh,n0,yk,xu,vk,vj,vi,vh,we,hT a (by simp),zc,zb,pw,ha,hL a (by simp),Bool.and_self]
    simp (disch:=((try simp only [pe,py,pz]); omega)) only [dle,pw]
    show (bif decide (y5 3<x) then _ else _)=some (Out.ret (mkS (yb (decide (y5 3<x)) _)),[]);generalize decide (y5 3<x)=q;cases q <;> simp [yb,mkS]
  ·obtain ⟨a,b,rfl,ha,hb⟩:=zdt hi (by omega)
   have e0:decide ((0:Int)<((T.ds [a,b]).length:Int))=true:=by rw [zu]; rfl
   have e1:decide ((1:Int)<((T.ds [a,b]).length:Int))=true:=by rw [zu]; rfl
   have n0:[a,b][(0:Int).toNat]?=some a:=rfl;have n1:[a,b][(1:Int).toNat]?=some b:=rfl;rcases hk with rfl | rfl
   ·have e:yi (.mk 4 nm [a,b] nms pl)=(bif decide (nms.length=1) then [40]++xb nms 0++[32,58,32]++zw a 0++[41] else yb (vw [a,b]) (zw a 1))++[32,45,62,32]++zw b 0:=by
     simp [yi,←xd [a,b] 0 0 a rfl,←xd [a,b] 1 0 a rfl,←xd [a,b] 0 1 b rfl]
    rw [e] at hlen ⊢;refine (ye6 0 m nm [a,b] nms pl x).trans ?_;rcases zmt hi (by omega) with rfl | ⟨y,rfl⟩
    ·have hl0:decide ((([]:List (List UInt8)).map D.str).length=(1:Int))=false:=rfl;simp only [pz,Nat.zero_ne_one,decide_false,px,pe,zh8] at hlen ⊢;by_cases h9:a.k=9
     ·obtain ⟨k',nm',kids',nms',pl'⟩:=a;simp only [zm9] at h9;subst h9;obtain ⟨c,d,rfl,_,_⟩:=zdt ha (by omega)
      have e2:decide ((0:Int)<((T.ds [c,d]).length:Int))=true:=by rw [zu]; rfl
      have n2:[c,d][(0:Int).toNat]?=some c:=rfl;have ea:vw [.mk 9 nm' [c,d] nms' pl',b]=decide (c.k=1):=by
       obtain ⟨k3,_,_,_,_⟩:=c;simp only [vw,decide_true,Bool.true_and]; rfl
      simp only [hl0,e0,e1,e2,yh,n0,n1,n2,↓zbb,yk,xu,vk,vj,vi,vh,zjl,zi7,hT _ (pp ..),hT b (by simp),zc,zb,pw,px,ha,hb,hL _ (pp ..),hL b (by simp),Bool.and_self,decide_true,zgm,Bool.true_or]
      rw [ea] at hlen ⊢;generalize decide (c.k=1)=z at hlen ⊢;cases z
      ·simp only [px,py,pz] at hlen ⊢;simp (disch:=((try simp only [pe,py,pz]); omega)) only [dle,pw]
       show (bif decide (y5 4<x) then _ else _)=some (Out.ret (mkS (yb (decide (y5 4<x)) _)),[]);generalize decide (y5 4<x)=q;cases q <;> simp [yb,mkS]
      ·simp only [pw,py,pz] at hlen ⊢;simp (disch:=((try simp only [pe,py,pz]); omega)) only [dle,pw]
       show (bif decide (y5 4<x) then _ else _)=some (Out.ret (mkS (yb (decide (y5 4<x)) _)),[]);generalize decide (y5 4<x)=q;cases q <;> simp [yb,mkS]
     ·have ea:vw [a,b]=false:=by
       obtain ⟨k',nm',kids',nms',pl'⟩:=a;simp only [zm9] at h9;rcases kids' with _ | ⟨⟨_,_,_,_,_⟩,_⟩ <;> simp [vw,h9]
      simp only [hl0,e0,e1,yh,n0,n1,yk,xu,vk,vj,vi,vh,we,hT a (by simp),hT b (by simp),zc,zb,pw,px,ha,hb,hL a (by simp),hL b (by simp),Bool.and_self,decide_true]
      rw [ea] at hlen ⊢;rw [pb h9];simp only [px,py,pz] at hlen ⊢;simp (disch:=((try simp only [pe,py,pz]); omega)) only [dle,pw]
      show (bif decide (y5 4<x) then _ else _)=some (Out.ret (mkS (yb (decide (y5 4<x)) _)),[]);generalize decide (y5 4<x)=q;cases q <;> simp [yb,mkS]
    ·simp only [py,pz,Nat.zero_add,decide_true,pw,pe] at hlen ⊢;have nx:[y][(0:Int).toNat]?=some y:=rfl;have ex:xb [y] 0=y:=rfl;rw [ex] at hlen ⊢;simp only [e0,e1,yh,n0,n1,yk,xu,vk,vj,vi,vh,we,hT a (by simp),hT b (by simp),zc,zb,pw,ha,hb,hL a (by simp),hL b (by simp),Bool.and_self,ph,zm4,zl1,wt,nx,py,pz,Nat.lt_add_one,decide_true,zc2]
     simp (disch:=((try simp only [pe,py,pz]); omega)) only [dle,pw]
     show (bif decide (y5 4<x) then _ else _)=some (Out.ret (mkS (yb (decide (y5 4<x)) _)),[]);generalize decide (y5 4<x)=q;cases q <;> simp [yb,mkS]
   ·have e:yi (.mk 5 nm [a,b] nms pl)=(bif decide (nms.length=1) then [40]++xb nms 0++[32,58,32]++zw a 0++[41] else yb (vw [a,b]) (zw a 1))++[32,42,32]++zw b 0:=by
     simp [yi,←xd [a,b] 0 0 a rfl,←xd [a,b] 1 0 a rfl,←xd [a,b] 0 1 b rfl]
    rw [e] at hlen ⊢;refine (ye5 0 m nm [a,b] nms pl x).trans ?_;rcases zmt hi (by omega) with rfl | ⟨y,rfl⟩
    ·have hl0:decide ((([]:List (List UInt8)).map D.str).length=(1:Int))=false:=rfl;simp only [pz,Nat.zero_ne_one,decide_false,px,pe,zh8] at hlen ⊢;by_cases h9:a.k=9
     ·obtain ⟨k',nm',kids',nms',pl'⟩:=a;simp only [zm9] at h9;subst h9;obtain ⟨c,d,rfl,_,_⟩:=zdt ha (by omega)
      have e2:decide ((0:Int)<((T.ds [c,d]).length:Int))=true:=by rw [zu]; rfl
      have n2:[c,d][(0:Int).toNat]?=some c:=rfl;have ea:vw [.mk 9 nm' [c,d] nms' pl',b]=decide (c.k=1):=by
       obtain ⟨k3,_,_,_,_⟩:=c;simp only [vw,decide_true,Bool.true_and]; rfl
      simp only [hl0,e0,e1,e2,yh,n0,n1,n2,↓zbb,yk,xu,vk,vj,vi,vh,zjl,zi7,hT _ (pp ..),hT b (by simp),zc,zb,pw,px,ha,hb,hL _ (pp ..),hL b (by simp),Bool.and_self,decide_true,zgm,Bool.true_or]
      rw [ea] at hlen ⊢;generalize decide (c.k=1)=z at hlen ⊢;cases z
      ·simp only [px,py,pz] at hlen ⊢;simp (disch:=((try simp only [pe,py,pz]); omega)) only [dle,pw]
       show (bif decide (y5 5<x) then _ else _)=some (Out.ret (mkS (yb (decide (y5 5<x)) _)),[]);generalize decide (y5 5<x)=q;cases q <;> simp [yb,mkS]
      ·simp only [pw,py,pz] at hlen ⊢;simp (disch:=((try simp only [pe,py,pz]); omega)) only [dle,pw]
       show (bif decide (y5 5<x) then _ else _)=some (Out.ret (mkS (yb (decide (y5 5<x)) _)),[]);generalize decide (y5 5<x)=q;cases q <;> simp [yb,mkS]
     ·have ea:vw [a,b]=false:=by
       obtain ⟨k',nm',kids',nms',pl'⟩:=a;simp only [zm9] at h9;rcases kids' with _ | ⟨⟨_,_,_,_,_⟩,_⟩ <;> simp [vw,h9]
      simp only [hl0,e0,e1,yh,n0,n1,yk,xu,vk,vj,vi,vh,we,hT a (by simp),hT b (by simp),zc,zb,pw,px,ha,hb,hL a (by simp),hL b (by simp),Bool.and_self,decide_true]
      rw [ea] at hlen ⊢;rw [pb h9];simp only [px,py,pz] at hlen ⊢;simp (disch:=((try simp only [pe,py,pz]); omega)) only [dle,pw]
      show (bif decide (y5 5<x) then _ else _)=some (Out.ret (mkS (yb (decide (y5 5<x)) _)),[]);generalize decide (y5 5<x)=q;cases q <;> simp [yb,mkS]
    ·simp only [py,pz,Nat.zero_add,decide_true,pw,pe] at hlen ⊢;have nx:[y][(0:Int).toNat]?=some y:=rfl;have ex:xb [y] 0=y:=rfl;rw [ex] at hlen ⊢;simp only [e0,e1,yh,n0,n1,yk,xu,vk,vj,vi,vh,we,hT a (by simp),hT b (by simp),zc,zb,pw,ha,hb,hL a (by simp),hL b (by simp),Bool.and_self,ph,zm4,zl1,wt,nx,py,pz,Nat.lt_add_one,decide_true,zc2]
     simp (disch:=((try simp only [pe,py,pz]); omega)) only [dle,pw]
     show (bif decide (y5 5<x) then _ else _)=some (Out.ret (mkS (yb (decide (y5 5<x)) _)),[]);generalize decide (y5 5<x)=q;cases q <;> simp [yb,mkS]
  ·have e0:decide ((0:Int)<((T.ds [a,b]).length:Int))=true:=by rw [zu]; rfl
   have e1:decide ((1:Int)<((T.ds [a,b]).length:Int))=true:=by rw [zu]; rfl
   have n0:[a,b][(0:Int).toNat]?=some a:=rfl;have n1:[a,b][(1:Int).toNat]?=some b:=rfl;have e:yi (.mk 6 nm [a,b] nms pl)=zw a 1++[32]++zw b 2:=by simp [yi,←xd [a,b] 1 0 a rfl,←xd [a,b] 2 1 b rfl]
   rw [e] at hlen ⊢;simp only [pe,py,pz] at hlen;refine (ye4 0 m nm [a,b] nms pl x).trans ?_;simp only [e0,e1,yh,n0,n1,yk,xu,vk,vj,vi,vh,we,hT a (by simp),hT b (by simp),zc,zb,pw,ha,hb,hL a (by simp),hL b (by simp),Bool.and_self]
   simp (disch:=((try simp only [pe,py,pz]); omega)) only [dle,pw]
   show (bif decide (y5 6<x) then _ else _)=some (Out.ret (mkS (yb (decide (y5 6<x)) _)),[]);generalize decide (y5 6<x)=q;cases q <;> simp [yb,mkS]
  ·have e0:decide ((0:Int)<((T.ds [a,b]).length:Int))=true:=by rw [zu]; rfl
   have e1:decide ((1:Int)<((T.ds [a,b]).length:Int))=true:=by rw [zu]; rfl
   have n0:[a,b][(0:Int).toNat]?=some a:=rfl;have n1:[a,b][(1:Int).toNat]?=some b:=rfl;have e:yi (.mk 7 nm [a,b] nms pl)=zw a 1++[32,64,32]++vt b 2:=by simp [yi,←xd [a,b] 1 0 a rfl]
   rw [e] at hlen ⊢;simp only [pe,py,pz] at hlen;refine (ye3 0 m nm [a,b] nms pl x).trans ?_;simp only [e0,e1,yh,n0,n1,yk,xu,vk,vj,vi,vh,we,hT a (by simp),zd8 h5 (t:=b) (by simp),zc,zb,pw,ha,hb,hL a (by simp),hL b (by simp),Bool.and_self]
   simp (disch:=((try simp only [pe,py,pz]); omega)) only [dle,pw]
   show (bif decide (y5 7<x) then _ else _)=some (Out.ret (mkS (yb (decide (y5 7<x)) _)),[]);generalize decide (y5 7<x)=q;cases q <;> simp [yb,mkS]
  ·obtain ⟨a,b,rfl,ha,hb⟩:=zdt hi (by omega)
   have e0:decide ((0:Int)<((T.ds [a,b]).length:Int))=true:=by rw [zu]; rfl
   have e1:decide ((1:Int)<((T.ds [a,b]).length:Int))=true:=by rw [zu]; rfl
   have n0:[a,b][(0:Int).toNat]?=some a:=rfl;have n1:[a,b][(1:Int).toNat]?=some b:=rfl;rcases hk with rfl | rfl
   ·have e:yi (.mk 8 nm [a,b] nms pl)=[40]++zw a 0++[44,32]++zw b 0++[41]:=by simp [yi,←xd [a,b] 0 0 a rfl,←xd [a,b] 0 1 b rfl]
    rw [e] at hlen ⊢;simp only [pe,py,pz] at hlen;refine (ye2 0 m nm [a,b] nms pl x).trans ?_;simp only [e0,e1,yh,n0,n1,yk,xu,vk,vj,vi,vh,we,hT a (by simp),hT b (by simp),zc,zb,pw,ha,hb,hL a (by simp),hL b (by simp),Bool.and_self]
    simp (disch:=((try simp only [pe,py,pz]); omega)) only [dle,pw]
    show (bif decide (y5 8<x) then _ else _)=some (Out.ret (mkS (yb (decide (y5 8<x)) _)),[]);generalize decide (y5 8<x)=q;cases q <;> simp [yb,mkS]
   ·have e:yi (.mk 9 nm [a,b] nms pl)=[40]++zw a 0++[32,58,32]++zw b 0++[41]:=by simp [yi,←xd [a,b] 0 0 a rfl,←xd [a,b] 0 1 b rfl]
    rw [e] at hlen ⊢;simp only [pe,py,pz] at hlen;refine (ye1 0 m nm [a,b] nms pl x).trans ?_;simp only [e0,e1,yh,n0,n1,yk,xu,vk,vj,vi,vh,we,hT a (by simp),hT b (by simp),zc,zb,pw,ha,hb,hL a (by simp),hL b (by simp),Bool.and_self]
    simp (disch:=((try simp only [pe,py,pz]); omega)) only [dle,pw]
    show (bif decide (y5 9<x) then _ else _)=some (Out.ret (mkS (yb (decide (y5 9<x)) _)),[]);generalize decide (y5 9<x)=q;cases q <;> simp [yb,mkS]
  ·have hB:zcn (.mk 10 nm kids nms pl)=true:=by unfold zcn; rw [hi]; rfl
   have e:yi (.mk 10 nm kids nms pl)=zd6 (.mk 10 nm kids nms pl):=by simp [yi,zd6]
   rw [e] at hlen ⊢;refine (yb1 0 m nm kids nms pl x).trans ?_;simp only [hTt,hB,hl,zc,zb,pw,Bool.and_self];exact z1r (by omega)
def zdn(L:List D):Option (List UInt8):=zfn L
theorem zt3(s:List UInt8):zdn (ze [] s)=some s:=by
 show zfn ([]++s.map λ b=>D.int .u8 b.toNat)=some s;rw [List.nil_append];exact zz3 s
theorem ydm(u:Bool)(L:List D)(s:List UInt8)(h:zdn L=some s)(hl:L.length≤65536):zj cx 164 [.ptr 0 0] (psS u L)=some (.ret (.d (.str s)),qt (psS u L) 1 (.tok (L.length+1))):=by
 refine zhm (n:=1) ?_;have e0:cx.nat 164 [.ptr 0 0] (psS u L)=zm0 [.ptr 0 0] (psS u L):=by kernel_rfl
 have e:zm0 [.ptr 0 0] (psS u L)=some (.ret (.d (.str s)),qt (psS u L) 1 (.tok (L.length+1))):=by
  have e1:zfn L=some s:=h;have e2:zm0 [.ptr 0 0] (psS u L)=zb (Nat.beq 6291457 6291457&&decide (L.length=L.length)&&decide (L.length≤4294967296)) (zc (zfn L) λ s=>some (.ret (.d (.str s)),qt (psS u L) 1 (.tok (L.length+1)))):=rfl;rw [e2,e1,pa rfl,pa (by omega)]
  rfl
 show zbu cx (vz cx 0) 0 164 _ _=_;unfold zbu;rw [e0,e]
def K72:CK R1:=more 164 (λ a σ=>match zzq a,psD σ with | some _,some p=>some (p,σ) | _,_=>none)
  (λ K q=>match q with | ((L,n),σ)=>zc (zdn L) λ s=>zb (zy n L) (zb (decide (n≤65536)) (K (.ret (.d (.str s))) (qt σ 1 (.tok (n+1))))))
  (λ K q=>by
   obtain ⟨⟨L,n⟩,σ⟩:=q;simp only [zb];rw [zal];congr 1;funext s;simp only [vn];rfl) (CK.plain zo)
theorem z3w:knows cx K72.S (zj cx):=v8 zp λ a σ q r hd h=>by
 obtain ⟨⟨L,n⟩,τ⟩:=q;simp only at hd h;split at hd
 ·rename_i p ha hp;cases hd;obtain ⟨s,hs,h⟩:=zd h;obtain ⟨h1,h⟩:=zf h;obtain ⟨h2,h⟩:=zf h;cases h;obtain rfl:=zj5 ha;obtain ⟨u,rfl⟩:=zed hp h1;have hn:n=L.length:=pc h1;have:=pc h2;rw [hn];exact ydm u L s hs (by omega)
 ·cases hd
theorem g40(n:Nat)(L:List D):zn cx K72 n 129 [.ptr 0 0] (psS true L)=zc (zdn L) λ s=>zb (zy L.length L) (zb (decide (L.length≤65536)) (some (Out.ret (V.tup [V.d (D.str s),V.d (D.int .i64 (0:Int))]),[(0,Ob.val 187695107 (V.agg [V.ptr 0 0,V.sl 6291457 L 1,V.d (D.bool false)])),(1,Ob.tok (L.length+1))]))):=by kernel_rfl
theorem yhn(n:Nat)(L:List D):zn cx K72 n 129 [.ptr 0 0] (psS false L)=zc (zdn L) λ s=>zb (zy L.length L) (zb (decide (L.length≤65536)) (some (Out.ret (V.tup [V.d (D.str s),V.d (D.int .i64 (0:Int))]),[(0,Ob.val 187695107 (V.agg [V.d D.nilptr,V.sl 6291457 L 1,V.d (D.bool false)])),(1,Ob.tok (L.length+1))]))):=by kernel_rfl
theorem g44(n:Nat)(s:List UInt8):zn cx (CK.plain zo) n 135 [.d (.str s)] []=bif decide ((65536:Int)<(↑s.length:Int)) then some (Out.ret (V.tup [V.d (D.str []),V.d (D.int .i64 (3:Int))]),[]) else some (Out.ret (V.tup [V.d (D.str s),V.d (D.int .i64 (0:Int))]),[]):=by kernel_rfl
theorem ydu(u:Bool)(L:List D)(s:List UInt8)(h:zdn L=some s)(hl:L.length≤65536):zj cx 129 [.ptr 0 0] (psS u L)=some (.ret (.tup [.d (.str s),.d (.int .i64 0)]),qt (psS u L) 1 (.tok (L.length+1))):=by
 refine zm z3w (N:=0) ?_;cases u
 ·rw [yhn,h];simp only [zc,zb,yo,pw];rw [pa hl];rfl
 ·rw [g40,h];simp only [zc,zb,yo,pw];rw [pa hl];rfl
def mkE(p:List UInt8×Int):V:=.tup [.d (.str p.1),.d (.int .i64 p.2)]
def zif(s:List UInt8):List UInt8×Int:=bif decide (65536<s.length) then ([],3) else (s,0)
theorem ydt(s:List UInt8):zj cx 135 [.d (.str s)] []=some (.ret (mkE (zif s)),[]):=by
 refine zm zp (N:=0) ?_;rw [g44];unfold zif;by_cases h:65536<s.length
 ·rw [pa h,pa (p:=(65536:Int)<(s.length:Int)) (by omega)]; rfl
 ·rw [pb h,pb (p:=(65536:Int)<(s.length:Int)) (by omega)]; rfl
def z9h:D×Int→Option (List UInt8) | (x,a)=>zc (zr x) λ t=>zb (zg t) (some (zw t a))
def z9g:D×Int→Option (List UInt8) | (x,a)=>zc (zr x) λ t=>zb (zg t&&yg t) (some (zw t a))
def K18:CK R1:=more 129 (λ a σ=>match zzq a,psD σ with | some _,some p=>some (p,σ) | _,_=>none)
  (λ K q=>match q with | ((L,n),σ)=>zc (zdn L) λ s=>zb (zy n L) (zb (decide (n≤65536)) (K (.ret (.tup [.d (.str s),.d (.int .i64 0)])) (qt σ 1 (.tok (n+1))))))
  (λ K q=>by
   obtain ⟨⟨L,n⟩,σ⟩:=q;simp only [zb];rw [zal];congr 1;funext s;simp only [vn];rfl) (prK 128 zn7 z9h (prK 127 zqj z3a (z7 94 ql zr (λ t=>mkB (zg t)) (z7 126 zbw some (λ s=>mkB (z6 s)) (CK.plain zo)))))
theorem z4d:knows cx K18.S (zj cx):=by
 have h36:=zk (f:=126) (dec:=zbw) (sp:=some) (mk:=λ s=>mkB (z6 s)) zp λ a q b hd h hb=>by
  cases hb; obtain rfl:=qi h; exact z5v q (pc hd)
 have h37:=zk (f:=94) (dec:=ql) (sp:=zr) (mk:=λ t=>mkB (zg t)) h36 λ a q b hd h hb=>by
  obtain rfl:=wu h;obtain ⟨rfl,h1⟩:=wv hb;exact z9y b.depth b (Nat.le_refl _) h1
 have h38:=zbe (f:=127) (dec:=zqj) (sp:=z3a) h37 λ a q s u L h hs hr=>by
  obtain ⟨rfl,h1,h2⟩:=zn8 h;obtain ⟨m,rfl,rfl⟩:=znh hs;exact z9x u L m (by simpa using h2) (by intro e; rw [e] at h1; exact h1 rfl) hr
 have h39:=zbe (f:=128) (dec:=zn7) (sp:=z9h) h38 λ a q s u L ha hs hr=>by
  obtain ⟨x,n⟩:=q;obtain rfl:=zhw ha;obtain ⟨t,ht,hs⟩:=zd hs;obtain ⟨hf,hs⟩:=zf hs;cases hs;obtain ⟨rfl,h2⟩:=wv ht;exact z9w t.depth u L t n (Nat.le_refl _) h2 hf hr
 exact v8 h39 λ a σ q r hd h=>by
  obtain ⟨⟨L,n⟩,τ⟩:=q;simp only at hd h;split at hd
  ·rename_i p ha hp;cases hd;obtain ⟨s,hs,h⟩:=zd h;obtain ⟨h1,h⟩:=zf h;obtain ⟨h2,h⟩:=zf h;cases h;obtain rfl:=zj5 ha;obtain ⟨u,rfl⟩:=zed hp h1;have hn:n=L.length:=pc h1;have:=pc h2;rw [hn];exact ydu u L s hs (by omega)
  ·cases hd
def K19:CK R1:=z7 135 zbw some (λ s=>mkE (zif s)) (z7 134 zdf z9g mkS (z7 59 ql zr (λ t=>mkB (zg t)) (z7 133 zbw some (λ s=>mkB (z6 s)) (CK.plain zo))))
theorem z4c:knows cx K19.S (zj cx):=by
 have h41:=zk (f:=133) (dec:=zbw) (sp:=some) (mk:=λ s=>mkB (z6 s)) zp λ a q b hd h hb=>by
  cases hb; obtain rfl:=qi h; exact z9v q (pc hd)
 have h42:=zk (f:=59) (dec:=ql) (sp:=zr) (mk:=λ t=>mkB (zg t)) h41 λ a q b hd h hb=>by
  obtain rfl:=wu h;obtain ⟨rfl,h1⟩:=wv hb;exact z9u b.depth b (Nat.le_refl _) h1
 have h43:=zk (f:=134) (dec:=zdf) (sp:=z9g) (mk:=mkS) h42 λ a q s _ ha hs=>by
  obtain ⟨y,n⟩:=q;obtain rfl:=zaz ha;obtain ⟨t,ht,hs⟩:=zd hs;obtain ⟨hf,hs⟩:=zf hs;cases hs;obtain ⟨rfl,h2⟩:=wv ht;rw [pm] at hf;exact z9t t.depth t n (Nat.le_refl _) h2 hf.1 hf.2
 exact zk h43 λ a q b hd h hb=>by
  cases hb; obtain rfl:=qi h; exact ydt q
def zb6(a:Int):List (List UInt8)→Int→Option Int
 | [],b=>some b
 | x::l,b=>bif decide (b≤a) then (bif decide (a<(x.length:Int)) then none else zb6 a l (b+1+x.length)) else some b
mutual
def za4:T→Int→Int
 | .mk _ nm kids nms _,a=>bif decide (a<(nm.length:Int))||decide (a<(nms.length:Int)) then a+1 else match zb6 a nms (1+nm.length) with | some b=>zcm kids a b | none=>a+1
def zcm:List T→Int→Int→Int
 | [],_,b=>b
 | t::l,a,b=>bif decide (b≤a) then zcm l a (b+za4 t (a - b)) else b
end
def spB(m:Nat):D×Int→Option (T×Int) | (x,a)=>zc (zi m x) λ t=>zb (decide (0≤a)&&decide (a≤1048576)) (some (t,a))
def KB(m:Nat):CK R1:=z7 28 zdf (spB m) (λ q=>mkI (za4 q.1 q.2)) (CK.plain zo)
theorem zsy{a:Int}:∀ {l:List (List UInt8)} {b c:Int},zb6 a l b=some c→0≤b→b≤2 * a+1→0≤a→b≤c∧c≤2 * a+1∧(c≤a→c=b+w7 l)
 | [],b,c,h,h0,h1,ha=>by cases h; exact ⟨Int.le_refl _,h1,λ _=>by simp [w7]⟩
 | x::l,b,c,h,h0,h1,ha=>by
  unfold zb6 at h;by_cases hb:b≤a
  ·rw [pa hb,pw] at h;by_cases hx:a<(x.length:Int)
   ·rw [pa hx] at h; cases h
   ·rw [pb hx,px] at h;obtain ⟨h2,h3,h4⟩:=zsy h (by omega) (by omega) ha
    refine ⟨by omega,h3,λ hc=>?_⟩
    have:=h4 hc;simp only [w7];omega
  ·rw [pb hb,px] at h;cases h;exact ⟨Int.le_refl _,h1,λ hc=>by omega⟩
mutual
theorem zq3:∀ (t:T) (a:Int),0≤a→0≤za4 t a∧za4 t a≤2 * a+2∧(za4 t a≤a→za4 t a=xa t)
 | .mk k nm kids nms pl,a,ha=>by
  unfold za4;cases hc:(decide (a<(nm.length:Int))||decide (a<(nms.length:Int)))
  ·simp only [Bool.or_eq_false_iff,decide_eq_false_iff_not] at hc;rw [px];cases hn:zb6 a nms (1+nm.length) with
   | none=>simp only; exact ⟨by omega,by omega,λ h=>by omega⟩
   | some b=>
    obtain ⟨h2,h3,h4⟩:=zsy hn (by omega) (by omega) ha
    obtain ⟨g1,g2,g3⟩:=ztc kids a b ha (by omega) (by omega)
    simp only;refine ⟨by omega,g2,λ h=>?_⟩
    have:=h4 (by omega)
    have:=g3 h;simp only [xa];omega
  ·rw [pw];exact ⟨by omega,by omega,λ h=>by omega⟩
theorem ztc:∀ (l:List T) (a b:Int),0≤a→1≤b→b≤2 * a+2→b≤zcm l a b∧zcm l a b≤2 * a+2∧(zcm l a b≤a→zcm l a b=b+Sp.bulks l)
 | [],a,b,ha,hb,hb2=>by unfold zcm; exact ⟨Int.le_refl _,hb2,λ _=>by simp [Sp.bulks]⟩
 | t::l,a,b,ha,hb,hb2=>by
  unfold zcm;by_cases h:b≤a
  ·rw [pa h,pw];obtain ⟨h1,h2,h3⟩:=zq3 t (a - b) (by omega)
   obtain ⟨g1,g2,g3⟩:=ztc l a (b+za4 t (a - b)) ha (by omega) (by omega)
   refine ⟨by omega,g2,λ hc=>?_⟩
   have:=g3 hc;have:=h3 (by omega)
   simp only [Sp.bulks];omega
  ·rw [pb h,px];exact ⟨Int.le_refl _,hb2,λ hc=>by omega⟩
end
theorem g33(n m:Nat)(k:Int)(nm:List UInt8)(kids:List T)(nms:List (List UInt8))(pl a:Int):zn cx (KB m) n 28 [.d (.agg [.int .i64 k,.str nm,.sl 5 (T.ds kids),.sl 1 (nms.map .str),.int .i64 pl]),.d (.int .i64 a)] []=bif decide (a<(↑nm.length:Int)) then some (Out.ret (V.d (D.int .i64 (IntKind.i64.wrap (a+(1:Int))))),[]) else bif decide (a<(↑(List.map D.str nms).length:Int)) then some (Out.ret (V.d (D.int .i64 (IntKind.i64.wrap (a+(1:Int))))),[]) else LP cx (KB m) n 28 0 5 n [(1,V.d (D.int .i64 a)),(2,V.ptr 2 0),(5,V.d (D.int .i64 (IntKind.i64.wrap ((1:Int)+(↑nm.length:Int))))),(6,V.d (D.int .i64 (0:Int)))] [(2,Ob.val 5 (V.d (D.agg [D.int .i64 k,D.str nm,D.sl 5 (T.ds kids),D.sl 1 (List.map D.str nms),D.int .i64 pl])))] (AK cx (KB m) n 28 0 5 (EK cx 28 0)):=by kernel_rfl
theorem yec(n m r:Nat)(k:Int)(nm:List UInt8)(kids:List T)(nms:List (List UInt8))(pl a b i:Int):LP cx (KB m) n 28 0 5 (r+1) [(1,V.d (D.int .i64 a)),(2,V.ptr 2 0),(5,V.d (D.int .i64 b)),(6,V.d (D.int .i64 i))] [(2,Ob.val 5 (V.d (D.agg [D.int .i64 k,D.str nm,D.sl 5 (T.ds kids),D.sl 1 (List.map D.str nms),D.int .i64 pl])))] (AK cx (KB m) n 28 0 5 (EK cx 28 0))=bif decide (i<(↑(List.map D.str nms).length:Int)) then bif decide (b≤a) then zb (decide (0≤i)&&decide (i<(↑(List.map D.str nms).length:Int))) (za (List.map D.str nms) i.toNat λ y=>za y.cells 0 λ c=>match c with
 | D.str s=>bif decide (a<(↑s.length:Int)) then some (Out.ret (V.d (D.int .i64 (IntKind.i64.wrap (a+(1:Int))))),[]) else zb (decide (0≤i)&&decide (i<(↑(List.map D.str nms).length:Int))) (za (List.map D.str nms) i.toNat λ y=>za y.cells 0 λ c=>match c with
  | D.str s=>LP cx (KB m) n 28 0 5 r [(1,V.d (D.int .i64 a)),(2,V.ptr 2 0),(5,V.d (D.int .i64 (IntKind.i64.wrap (IntKind.i64.wrap (b+(1:Int))+(↑s.length:Int))))),(6,V.d (D.int .i64 (IntKind.i64.wrap (i+(1:Int)))))] [(2,Ob.val 5 (V.d (D.agg [D.int .i64 k,D.str nm,D.sl 5 (T.ds kids),D.sl 1 (List.map D.str nms),D.int .i64 pl])))] (AK cx (KB m) n 28 0 5 (EK cx 28 0))
  | x=>none)
 | x=>none) else LP cx (KB m) n 28 0 11 n [(1,V.d (D.int .i64 a)),(2,V.ptr 2 0),(5,V.d (D.int .i64 b)),(7,V.d (D.int .i64 (0:Int)))] [(2,Ob.val 5 (V.d (D.agg [D.int .i64 k,D.str nm,D.sl 5 (T.ds kids),D.sl 1 (List.map D.str nms),D.int .i64 pl])))] (AK cx (KB m) n 28 0 11 (EK cx 28 0)) else LP cx (KB m) n 28 0 11 n [(1,V.d (D.int .i64 a)),(2,V.ptr 2 0),(5,V.d (D.int .i64 b)),(7,V.d (D.int .i64 (0:Int)))] [(2,Ob.val 5 (V.d (D.agg [D.int .i64 k,D.str nm,D.sl 5 (T.ds kids),D.sl 1 (List.map D.str nms),D.int .i64 pl])))] (AK cx (KB m) n 28 0 11 (EK cx 28 0)):=by kernel_rfl
theorem yeb(n m r:Nat)(k:Int)(nm:List UInt8)(kids:List T)(nms:List (List UInt8))(pl a b i:Int):LP cx (KB m) n 28 0 11 (r+1) [(1,V.d (D.int .i64 a)),(2,V.ptr 2 0),(5,V.d (D.int .i64 b)),(7,V.d (D.int .i64 i))] [(2,Ob.val 5 (V.d (D.agg [D.int .i64 k,D.str nm,D.sl 5 (T.ds kids),D.sl 1 (List.map D.str nms),D.int .i64 pl])))] (AK cx (KB m) n 28 0 11 (EK cx 28 0))=bif decide (i<(↑(T.ds kids).length:Int)) then bif decide (b≤a) then zb (decide (0≤i)&&decide (i<(↑(T.ds kids).length:Int))) (za (T.ds kids) i.toNat λ y=>za y.cells 0 λ c=>za y.cells 1 λ c_1=>za y.cells 2 λ c_2=>za y.cells 3 λ c_3=>za y.cells 4 λ c_4=>zc (zc (zi m (D.agg [c,c_1,c_2,c_3,c_4])) λ t=>zb (decide (0≤IntKind.i64.wrap (a - b))&&decide (IntKind.i64.wrap (a - b)≤1048576)) (some (t,IntKind.i64.wrap (a - b)))) λ b_1=>LP cx (KB m) n 28 0 11 r [(1,V.d (D.int .i64 a)),(2,V.ptr 2 0),(5,V.d (D.int .i64 (IntKind.i64.wrap (b+za4 b_1.fst b_1.snd)))),(7,V.d (D.int .i64 (IntKind.i64.wrap (i+(1:Int)))))] [(2,Ob.val 5 (V.d (D.agg [D.int .i64 k,D.str nm,D.sl 5 (T.ds kids),D.sl 1 (List.map D.str nms),D.int .i64 pl])))] (AK cx (KB m) n 28 0 11 (EK cx 28 0))) else some (Out.ret (V.d (D.int .i64 b)),[]) else some (Out.ret (V.d (D.int .i64 b)),[]):=by kernel_rfl
theorem ww{α β:Type}{x:α}{K:α→Option β}:zc (some x) K=K x:=by unfold zc; simp
theorem zno{x:Int}(h0 : -4294967296≤x)(h1:x≤17179869184):IntKind.i64.wrap x=x:=IntWalk.i64_in _ (by omega)
section
variable {n m:Nat} {k:Int} {nm:List UInt8} {kids:List T} {nms:List (List UInt8)} {pl a:Int}
theorem zuu(ha:0≤a)(ha2:a≤1048576)(hl:kids.length<4294967296)(hT:∀ t∈kids,zi m t.d=some t):∀ (rest:List T) (j r:Nat) (b:Int),kids.drop j=rest→j≤kids.length→rest.length<r→1≤b→b≤2 * a+2 →
  LP cx (KB m) n 28 0 11 r [(1,V.d (D.int .i64 a)),(2,V.ptr 2 0),(5,V.d (D.int .i64 b)),(7,V.d (D.int .i64 j))] [(2,Ob.val 5 (V.d (D.agg [D.int .i64 k,D.str nm,D.sl 5 (T.ds kids),D.sl 1 (List.map D.str nms),D.int .i64 pl])))] (AK cx (KB m) n 28 0 11 (EK cx 28 0))=some (.ret (mkI (zcm rest a b)),[])
 | [],j,r,b,hd,hj,hk',hb,hb2=>by
  obtain ⟨r,rfl⟩:∃ i,r=i+1:=⟨r - 1,by omega⟩
  have:kids.length≤j:=by simpa using hd
  obtain rfl:j=kids.length:=by omega
  rw [yeb,zu,yw];simp [zcm,mkI]
 | t::rest,j,r,b,hd,hj,hk',hb,hb2=>by
  obtain ⟨r,rfl⟩:∃ i,r=i+1:=⟨r - 1,by omega⟩
  obtain ⟨h1,h2,h3⟩:=za0 hd;rw [yeb,zu,yf h1];unfold zcm;by_cases h:b≤a
  ·obtain ⟨q1,q2,_⟩:=zq3 t (a - b) (by omega)
   have ih:=zuu ha ha2 hl hT rest (j+1) r (b+za4 t (a - b)) h3 h1 (by simp at hk'; omega) (by omega) (by omega)
   rw [pa h,y8,yh,po,h2,w9 h1 hl,zno (x:=a - b) (by omega) (by omega)]
   simp only [pw,zb,zc,Bool.and_self,yk,xu,vk,vj,vi,vh,we,hT t (pq h2)];rw [pa (p:=0≤a - b) (by omega),pa (p:=a - b≤1048576) (by omega)]
   simp only [Bool.and_self,pw];rw [zno (x:=b+za4 t (a - b)) (by omega) (by omega)]
   exact ih
  ·rw [pb h];rfl
theorem z05(ha:0≤a)(ha2:a≤1048576)(hn:4294967296<n)(hl:kids.length<4294967296)(hl2:nms.length<4294967296)(hT:∀ t∈kids,zi m t.d=some t):∀ (rest:List (List UInt8)) (j r:Nat) (b:Int),nms.drop j=rest→j≤nms.length→rest.length<r→1≤b→b≤2 * a+1 →
  LP cx (KB m) n 28 0 5 r [(1,V.d (D.int .i64 a)),(2,V.ptr 2 0),(5,V.d (D.int .i64 b)),(6,V.d (D.int .i64 j))] [(2,Ob.val 5 (V.d (D.agg [D.int .i64 k,D.str nm,D.sl 5 (T.ds kids),D.sl 1 (List.map D.str nms),D.int .i64 pl])))] (AK cx (KB m) n 28 0 5 (EK cx 28 0))=some (.ret (mkI (match zb6 a rest b with | some c=>zcm kids a c | none=>a+1)),[])
 | [],j,r,b,hd,hj,hk',hb,hb2=>by
  obtain ⟨r,rfl⟩:∃ i,r=i+1:=⟨r - 1,by omega⟩
  have:nms.length≤j:=by simpa using hd
  obtain rfl:j=nms.length:=by omega
  have hB:=zuu (n:=n) (k:=k) (nm:=nm) (nms:=nms) (pl:=pl) ha ha2 hl hT kids 0 n b rfl (Nat.zero_le _) (by omega) hb (by omega)
  rw [yec,ph,yw,px];exact hB
 | x::rest,j,r,b,hd,hj,hk',hb,hb2=>by
  obtain ⟨r,rfl⟩:∃ i,r=i+1:=⟨r - 1,by omega⟩
  obtain ⟨h1,h2,h3⟩:=za0 hd;have hB:=zuu (n:=n) (k:=k) (nm:=nm) (nms:=nms) (pl:=pl) ha ha2 hl hT kids 0 n b rfl (Nat.zero_le _) (by omega) hb (by omega)
  rw [yec,ph,yf h1];by_cases h:b≤a
  ·rw [pa h,y8,w9 h1 hl2];simp only [pw,zb,Bool.and_self,wt,po,h2,zc2,xu];rw [ww];by_cases hx:a<(x.length:Int)
   ·have e:zb6 a (x::rest) b=none:=by unfold zb6; rw [pa h,pa hx]; rfl
    rw [pa hx,zno (x:=a+1) (by omega) (by omega),e,pw]
    rfl
   ·have ih:=z05 ha ha2 hn hl hl2 hT rest (j+1) r (b+1+x.length) h3 h1 (by simp at hk'; omega) (by omega) (by omega)
    have e:zb6 a (x::rest) b=zb6 a rest (b+1+x.length):=by 
     rw [zb6,pa h,pb hx]; rfl
    rw [pb hx,px,ww,e,zno (x:=b+1) (by omega) (by omega),zno (x:=b+1+x.length) (by omega) (by omega)]
    exact ih
  ·have e:zb6 a (x::rest) b=some b:=by unfold zb6; rw [pb h]; rfl
   rw [e,pb h,pw,px];exact hB
end
theorem z9z:∀ (m:Nat) (t:T) (a:Int),t.depth≤m→t.ok=true→0≤a→a≤1048576→zj cx 28 [.d t.d,.d (.int .i64 a)] []=some (.ret (mkI (za4 t a)),[])
 | 0,.mk ..,_,h,_,_,_=>by simp [T.depth] at h
 | m+1,.mk k nm kids nms pl,a,hd,ho,ha,ha2=>by
  have hK:knows cx (KB m).S (zj cx):=zk zp λ ar q s _ har hs=>by
   obtain ⟨y,n⟩:=q;obtain rfl:=zaz har;obtain ⟨t,ht,hs⟩:=zd hs;obtain ⟨hf,hs⟩:=zf hs;cases hs;obtain ⟨rfl,h1,h2⟩:=xl ht;simp only [pm,decide_eq_true_eq] at hf;exact z9z m t n h1 h2 hf.1 hf.2
  obtain ⟨h1,h2,h3,h4,h5⟩:=vo ho;have hkd:=qk hd;have hT:∀ t∈kids,zi m t.d=some t:=λ t h=>zay hkd h5 h;refine zm hK (N:=4294967297) ?_;refine (g33 4294967297 m k nm kids nms pl a).trans ?_;rw [ph];unfold za4;by_cases q1:a<(nm.length:Int)
  ·rw [pa q1,pw,Bool.true_or,pw,zno (x:=a+1) (by omega) (by omega)]
   rfl
  ·rw [pb q1,px,Bool.false_or];by_cases q2:a<(nms.length:Int)
   ·rw [pa q2,pw,pw,zno (x:=a+1) (by omega) (by omega)]
    rfl
   ·rw [pb q2,px,px,zno (x:=1+nm.length) (by omega) (by omega)]
    exact z05 ha ha2 (by omega) (yp h2) (yp h3) hT nms 0 4294967297 (1+nm.length) rfl (Nat.zero_le _) (by have:=yp h3; omega) (by omega) (by omega)
theorem g18(n:Nat)(l:List T):zn cx K18 n 87 [.d (.sl 5 (T.ds l))] []=LP cx K18 n 87 0 2 n [(0,V.d (D.sl 5 (T.ds l))),(9,V.d (D.sl 5 (T.ds l))),(10,V.d (D.int .i64 (↑(T.ds l).length:Int))),(11,V.d (D.int .i64 (0:Int)))] [] (AK cx K18 n 87 0 2 (EK cx 87 0)):=by kernel_rfl
theorem g19(n:Nat)(l:List T):zn cx K19 n 92 [.d (.sl 5 (T.ds l))] []=LP cx K19 n 92 0 3 n [(0,V.d (D.sl 5 (T.ds l))),(4,V.d (D.str [])),(5,V.d (D.int .i64 (0:Int)))] [] (AK cx K19 n 92 0 3 (EK cx 92 0)):=by kernel_rfl
theorem yef(n r:Nat)(l:List T)(i:Int):LP cx K18 n 87 0 2 (r+1) [(0,V.d (D.sl 5 (T.ds l))),(9,V.d (D.sl 5 (T.ds l))),(10,V.d (D.int .i64 (l.length:Int))),(11,V.d (D.int .i64 i))] [] (AK cx K18 n 87 0 2 (EK cx 87 0))=bif decide (i<(↑l.length:Int)) then zb (decide (0≤i)&&decide (i<(↑(T.ds l).length:Int))) (za (T.ds l) i.toNat λ y=>za y.cells 0 λ c=>za y.cells 1 λ c_1=>za y.cells 2 λ c_2=>za y.cells 3 λ c_3=>za y.cells 4 λ c_4=>match c with
 | D.int k' n_1=>bif decide (k'=IntKind.i64) then bif !decide (n_1=(18:Int)) then some (Out.ret (V.tup [V.d (D.str []),V.d (D.int .i64 (61:Int))]),[]) else match c_1 with
  | D.str s=>zb (decide (s.length≤big)) (bif !z6 s then some (Out.ret (V.tup [V.d (D.str []),V.d (D.int .i64 (61:Int))]),[]) else match c_3 with
   | D.sl s l_1=>bif s.beq (cx.P.cellsOf 9)||l_1.isEmpty then bif decide ((0:Int)<(↑l_1.length:Int)) then some (Out.ret (V.tup [V.d (D.str []),V.d (D.int .i64 (61:Int))]),[]) else match c_2 with
    | D.sl s l_2=>bif s.beq (cx.P.cellsOf 26)||l_2.isEmpty then bif !decide ((↑l_2.length:Int)=(2:Int)) then some (Out.ret (V.tup [V.d (D.str []),V.d (D.int .i64 (61:Int))]),[]) else match c_2 with
     | D.sl s l_3=>bif s.beq (cx.P.cellsOf 26)||l_3.isEmpty then zb (decide ((0:Int)<(↑l_3.length:Int))) (za l_3 (0:Int).toNat λ y=>za y.cells 0 λ c=>za y.cells 1 λ c_5=>za y.cells 2 λ c_6=>za y.cells 3 λ c_7=>za y.cells 4 λ c_8=>zc (zr (D.agg [c,c_5,c_6,c_7,c_8])) λ b=>bif !zg b then some (Out.ret (V.tup [V.d (D.str []),V.d (D.int .i64 (61:Int))]),[]) else match c_2 with
      | D.sl s l_4=>bif s.beq (cx.P.cellsOf 26)||l_4.isEmpty then zb (decide ((1:Int)<(↑l_4.length:Int))) (za l_4 (1:Int).toNat λ y=>za y.cells 0 λ c=>za y.cells 1 λ c_9=>za y.cells 2 λ c_10=>za y.cells 3 λ c_11=>za y.cells 4 λ c_12=>zc (zr (D.agg [c,c_9,c_10,c_11,c_12])) λ b=>bif !zg b then some (Out.ret (V.tup [V.d (D.str []),V.d (D.int .i64 (61:Int))]),[]) else LP cx K18 n 87 0 2 r [(0,V.d (D.sl 5 (T.ds l))),(9,V.d (D.sl 5 (T.ds l))),(10,V.d (D.int .i64 (↑l.length:Int))),(11,V.d (D.int .i64 (IntKind.i64.wrap (i+(1:Int)))))] [] (AK cx K18 n 87 0 2 (EK cx 87 0))) else none
      | x=>none) else none
     | x=>none else none
    | x=>none else none
   | x=>none)
  | x=>none else none
 | x=>none) else LP cx K18 n 87 0 9 n [(6,V.ptr 54 0),(55,V.d (D.sl 5 (T.ds l))),(56,V.d (D.int .i64 (↑(T.ds l).length:Int))),(57,V.d (D.int .i64 (0:Int)))] [(54,Ob.val 187695107 (V.agg [V.d D.nilptr,V.sl 6291457 [] 142,V.d (D.bool false)])),(142,Ob.tok 0)] (AK cx K18 n 87 0 9 (EK cx 87 0)):=by kernel_rfl
theorem yed(n r:Nat)(l:List T)(s:List UInt8)(i:Int):LP cx K19 n 92 0 3 (r+1) [(0,V.d (D.sl 5 (T.ds l))),(4,V.d (D.str s)),(5,V.d (D.int .i64 i))] [] (AK cx K19 n 92 0 3 (EK cx 92 0))=bif decide (i<(↑(T.ds l).length:Int)) then zb (decide (0≤i)&&decide (i<(↑(T.ds l).length:Int))) (za (T.ds l) i.toNat λ y=>za y.cells 0 λ c=>za y.cells 1 λ c_1=>za y.cells 2 λ c_2=>za y.cells 3 λ c_3=>za y.cells 4 λ c_4=>match c with
 | D.int k' n_1=>bif decide (k'=IntKind.i64) then bif !decide (n_1=(18:Int)) then some (Out.ret (V.tup [V.d (D.str []),V.d (D.int .i64 (61:Int))]),[]) else match c_1 with
  | D.str s_1=>zb (decide (s_1.length≤big)) (bif !z6 s_1 then some (Out.ret (V.tup [V.d (D.str []),V.d (D.int .i64 (61:Int))]),[]) else match c_3 with
   | D.sl s_2 l_1=>bif s_2.beq (cx.P.cellsOf 9)||l_1.isEmpty then bif decide ((0:Int)<(↑l_1.length:Int)) then some (Out.ret (V.tup [V.d (D.str []),V.d (D.int .i64 (61:Int))]),[]) else match c_2 with
    | D.sl s_3 l_2=>bif s_3.beq (cx.P.cellsOf 26)||l_2.isEmpty then bif !decide ((↑l_2.length:Int)=(2:Int)) then some (Out.ret (V.tup [V.d (D.str []),V.d (D.int .i64 (61:Int))]),[]) else match c_2 with
     | D.sl s_4 l_3=>bif s_4.beq (cx.P.cellsOf 26)||l_3.isEmpty then zb (decide ((0:Int)<(↑l_3.length:Int))) (za l_3 (0:Int).toNat λ y=>za y.cells 0 λ c=>za y.cells 1 λ c_5=>za y.cells 2 λ c_6=>za y.cells 3 λ c_7=>za y.cells 4 λ c_8=>zc (zr (D.agg [c,c_5,c_6,c_7,c_8])) λ b=>bif !zg b then some (Out.ret (V.tup [V.d (D.str []),V.d (D.int .i64 (61:Int))]),[]) else match c_2 with
      | D.sl s_5 l_4=>bif s_5.beq (cx.P.cellsOf 26)||l_4.isEmpty then zb (decide ((1:Int)<(↑l_4.length:Int))) (za l_4 (1:Int).toNat λ y=>za y.cells 0 λ c=>za y.cells 1 λ c_9=>za y.cells 2 λ c_10=>za y.cells 3 λ c_11=>za y.cells 4 λ c_12=>zc (zr (D.agg [c,c_9,c_10,c_11,c_12])) λ b=>bif !zg b then some (Out.ret (V.tup [V.d (D.str []),V.d (D.int .i64 (61:Int))]),[]) else match c_1 with
       | D.str s_6=>zb (decide (s.length+s_6.length≤4611686018427387904)) (zb (decide ((s++s_6).length+[32,58,32].length≤4611686018427387904)) (match c_2 with
        | D.sl s_7 l_5=>bif s_7.beq (cx.P.cellsOf 26)||l_5.isEmpty then zb (decide ((0:Int)<(↑l_5.length:Int))) (za l_5 (0:Int).toNat λ y=>za y.cells 0 λ c=>za y.cells 1 λ c_13=>za y.cells 2 λ c_14=>za y.cells 3 λ c_15=>za y.cells 4 λ c_16=>zc (zc (zr (D.agg [c,c_13,c_14,c_15,c_16])) λ t=>zb (zg t&&yg t) (some (zw t (0:Int)))) λ b=>zb (decide ((s++s_6++[32,58,32]).length+b.length≤4611686018427387904)) (zb (decide ((s++s_6++[32,58,32]++b).length+[32,61,32].length≤4611686018427387904)) (match c_2 with | D.sl s_8 l_6=>bif s_8.beq (cx.P.cellsOf 26)||l_6.isEmpty then zb (decide ((1:Int)<(↑l_6.length:Int))) (za l_6 (1:Int).toNat λ y=>za y.cells 0 λ c=>za y.cells 1 λ c_17=>za y.cells 2 λ c_18=>za y.cells 3 λ c_19=>za y.cells 4 λ c_20=>zc (zc (zr (D.agg [c,c_17,c_18,c_19,c_20])) λ t=>zb (zg t&&yg t) (some (zw t (0:Int)))) λ b_1=>zb (decide ((s++s_6++[32,58,32]++b++[32,61,32]).length+b_1.length≤4611686018427387904)) (zb (decide ((s++s_6++[32,58,32]++b++[32,61,32]++b_1).length+[59,10].length≤4611686018427387904)) (LP cx K19 n 92 0 3 r [(0,V.d (D.sl 5 (T.ds l))),(4,V.d (D.str (s++s_6++[32,58,32]++b++[32,61,32]++b_1++[59,10]))),(5,V.d (D.int .i64 (IntKind.i64.wrap (i+(1:Int)))))] [] (AK cx K19 n 92 0 3 (EK cx 92 0))))) else none | x=>none))) else none
        | x=>none))
       | x=>none) else none
      | x=>none) else none
     | x=>none else none
    | x=>none else none
   | x=>none)
  | x=>none else none
 | x=>none) else zb (decide (s.length≤big)) (some (Out.ret (V.tup [V.d (D.str (zif s).1),V.d (D.int .i64 (zif s).snd)]),[])):=by kernel_rfl
theorem yee(n r:Nat)(l:List T)(L:List D)(i:Int):LP cx K18 n 87 0 9 (r+1) [(6,V.ptr 54 0),(55,V.d (D.sl 5 (T.ds l))),(56,V.d (D.int .i64 (l.length:Int))),(57,V.d (D.int .i64 i))] [(54,Ob.val 187695107 (V.agg [V.ptr 54 0,V.sl 6291457 L 142,V.d (D.bool false)])),(142,Ob.tok L.length)] (AK cx K18 n 87 0 9 (EK cx 87 0))=bif decide (i<(↑l.length:Int)) then zb (decide (0≤i)&&decide (i<(↑(T.ds l).length:Int))) (za (T.ds l) i.toNat λ y=>za y.cells 0 λ c=>za y.cells 1 λ c=>za y.cells 2 λ c_1=>za y.cells 3 λ c_2=>za y.cells 4 λ c_3=>match c with
 | D.str s=>zb (zy L.length L) (zb (zq L (s++([32,58,32]++[]))) (match c_1 with
  | D.sl s_1 l_1=>bif s_1.beq (cx.P.cellsOf 26)||l_1.isEmpty then zb (decide ((0:Int)<(↑l_1.length:Int))) (za l_1 (0:Int).toNat λ y=>za y.cells 0 λ c=>za y.cells 1 λ c_4=>za y.cells 2 λ c_5=>za y.cells 3 λ c_6=>za y.cells 4 λ c_7=>zc (zc (zr (D.agg [c,c_4,c_5,c_6,c_7])) λ t=>zb (zg t) (some (zw t (0:Int)))) λ s_2=>zb (zy (ze L (s++([32,58,32]++[]))).length (ze L (s++([32,58,32]++[])))) (zb (zq (ze L (s++([32,58,32]++[]))) s_2) (zb (zy (ze (ze L (s++([32,58,32]++[]))) s_2).length (ze (ze L (s++([32,58,32]++[]))) s_2)) (zb (zq (ze (ze L (s++([32,58,32]++[]))) s_2) [32,61,32]) (match c_1 with
   | D.sl s_3 l_2=>bif s_3.beq (cx.P.cellsOf 26)||l_2.isEmpty then zb (decide ((1:Int)<(↑l_2.length:Int))) (za l_2 (1:Int).toNat λ y=>za y.cells 0 λ c=>za y.cells 1 λ c_8=>za y.cells 2 λ c_9=>za y.cells 3 λ c_10=>za y.cells 4 λ c_11=>zc (zc (zr (D.agg [c,c_8,c_9,c_10,c_11])) λ t=>zb (zg t) (some (zw t (0:Int)))) λ s_4=>zb (zy (ze (ze (ze L (s++([32,58,32]++[]))) s_2) [32,61,32]).length (ze (ze (ze L (s++([32,58,32]++[]))) s_2) [32,61,32])) (zb (zq (ze (ze (ze L (s++([32,58,32]++[]))) s_2) [32,61,32]) s_4) (zb (zy (ze (ze (ze (ze L (s++([32,58,32]++[]))) s_2) [32,61,32]) s_4).length (ze (ze (ze (ze L (s++([32,58,32]++[]))) s_2) [32,61,32]) s_4)) (zb (zq (ze (ze (ze (ze L (s++([32,58,32]++[]))) s_2) [32,61,32]) s_4) [59,10]) (LP cx K18 n 87 0 9 r [(6,V.ptr 54 0),(55,V.d (D.sl 5 (T.ds l))),(56,V.d (D.int .i64 (↑l.length:Int))),(57,V.d (D.int .i64 (IntKind.i64.wrap (i+(1:Int)))))] [(54,Ob.val 187695107 (V.agg [V.ptr 54 0,V.sl 6291457 (ze (ze (ze (ze (ze L (s++([32,58,32]++[]))) s_2) [32,61,32]) s_4) [59,10]) 142,V.d (D.bool false)])),(142,Ob.tok (ze (ze (ze (ze (ze L (s++([32,58,32]++[]))) s_2) [32,61,32]) s_4) [59,10]).length)] (AK cx K18 n 87 0 9 (EK cx 87 0))))))) else none
   | x=>none))))) else none
  | x=>none))
 | x=>none) else zc (zdn L) λ s=>zb (zy L.length L) (zb (decide (L.length≤65536)) (some (Out.ret (V.tup [V.d (D.str s),V.d (D.int .i64 (0:Int))]),[]))):=by kernel_rfl
theorem z90(n r:Nat)(l:List T)(L:List D)(i:Int):LP cx K18 n 87 0 9 (r+1) [(6,V.ptr 54 0),(55,V.d (D.sl 5 (T.ds l))),(56,V.d (D.int .i64 (l.length:Int))),(57,V.d (D.int .i64 i))] [(54,Ob.val 187695107 (V.agg [V.d D.nilptr,V.sl 6291457 L 142,V.d (D.bool false)])),(142,Ob.tok L.length)] (AK cx K18 n 87 0 9 (EK cx 87 0))=bif decide (i<(↑l.length:Int)) then zb (decide (0≤i)&&decide (i<(↑(T.ds l).length:Int))) (za (T.ds l) i.toNat λ y=>za y.cells 0 λ c=>za y.cells 1 λ c=>za y.cells 2 λ c_1=>za y.cells 3 λ c_2=>za y.cells 4 λ c_3=>match c with
 | D.str s=>zb (zy L.length L) (zb (zq L (s++([32,58,32]++[]))) (match c_1 with
  | D.sl s_1 l_1=>bif s_1.beq (cx.P.cellsOf 26)||l_1.isEmpty then zb (decide ((0:Int)<(↑l_1.length:Int))) (za l_1 (0:Int).toNat λ y=>za y.cells 0 λ c=>za y.cells 1 λ c_4=>za y.cells 2 λ c_5=>za y.cells 3 λ c_6=>za y.cells 4 λ c_7=>zc (zc (zr (D.agg [c,c_4,c_5,c_6,c_7])) λ t=>zb (zg t) (some (zw t (0:Int)))) λ s_2=>zb (zy (ze L (s++([32,58,32]++[]))).length (ze L (s++([32,58,32]++[])))) (zb (zq (ze L (s++([32,58,32]++[]))) s_2) (zb (zy (ze (ze L (s++([32,58,32]++[]))) s_2).length (ze (ze L (s++([32,58,32]++[]))) s_2)) (zb (zq (ze (ze L (s++([32,58,32]++[]))) s_2) [32,61,32]) (match c_1 with
   | D.sl s_3 l_2=>bif s_3.beq (cx.P.cellsOf 26)||l_2.isEmpty then zb (decide ((1:Int)<(↑l_2.length:Int))) (za l_2 (1:Int).toNat λ y=>za y.cells 0 λ c=>za y.cells 1 λ c_8=>za y.cells 2 λ c_9=>za y.cells 3 λ c_10=>za y.cells 4 λ c_11=>zc (zc (zr (D.agg [c,c_8,c_9,c_10,c_11])) λ t=>zb (zg t) (some (zw t (0:Int)))) λ s_4=>zb (zy (ze (ze (ze L (s++([32,58,32]++[]))) s_2) [32,61,32]).length (ze (ze (ze L (s++([32,58,32]++[]))) s_2) [32,61,32])) (zb (zq (ze (ze (ze L (s++([32,58,32]++[]))) s_2) [32,61,32]) s_4) (zb (zy (ze (ze (ze (ze L (s++([32,58,32]++[]))) s_2) [32,61,32]) s_4).length (ze (ze (ze (ze L (s++([32,58,32]++[]))) s_2) [32,61,32]) s_4)) (zb (zq (ze (ze (ze (ze L (s++([32,58,32]++[]))) s_2) [32,61,32]) s_4) [59,10]) (LP cx K18 n 87 0 9 r [(6,V.ptr 54 0),(55,V.d (D.sl 5 (T.ds l))),(56,V.d (D.int .i64 (↑l.length:Int))),(57,V.d (D.int .i64 (IntKind.i64.wrap (i+(1:Int)))))] [(54,Ob.val 187695107 (V.agg [V.ptr 54 0,V.sl 6291457 (ze (ze (ze (ze (ze L (s++([32,58,32]++[]))) s_2) [32,61,32]) s_4) [59,10]) 142,V.d (D.bool false)])),(142,Ob.tok (ze (ze (ze (ze (ze L (s++([32,58,32]++[]))) s_2) [32,61,32]) s_4) [59,10]).length)] (AK cx K18 n 87 0 9 (EK cx 87 0))))))) else none
   | x=>none))))) else none
  | x=>none))
 | x=>none) else zc (zdn L) λ s=>zb (zy L.length L) (zb (decide (L.length≤65536)) (some (Out.ret (V.tup [V.d (D.str s),V.d (D.int .i64 (0:Int))]),[]))):=by kernel_rfl
def yz:T→Bool | .mk k nm [a,b] [] _=>decide (k=18)&&z6 nm&&zg a&&zg b | _=>false
def zab:T→List UInt8 | .mk _ nm [a,b] _ _=>nm++[32,58,32]++zw a 0++[32,61,32]++zw b 0++[59,10] | _=>[]
def wz(l:List T):List UInt8:=(l.map zab).flatten
def zco(l:List T):List UInt8×Int:=bif l.all yz then (wz l,0) else ([],61)
theorem ztw(t:T):(zab t).length≤12 * xa t:=by
 obtain ⟨k,nm,kids,nms,pl⟩:=t;rcases kids with _ | ⟨a,_ | ⟨b,_ | ⟨c,l⟩⟩⟩
 ·simp [zab]
 ·simp [zab]
 ·have:=zld a 0;have:=zld b 0;simp only [zab,xa,Sp.bulks,pe,py,pz];omega
 ·simp [zab]
theorem zqf:∀ l:List T,(wz l).length≤12 * Sp.bulks l
 | []=>by simp [wz]
 | t::l=>by
  have:=ztw t;have:=zqf l;simp only [wz,List.map_cons,List.flatten_cons,pe,Sp.bulks] at this ⊢;omega
theorem zqg{t:T}(h:yz t=true):∃ nm a b pl,t=.mk 18 nm [a,b] [] pl∧z6 nm=true∧zg a=true∧zg b=true:=by
 obtain ⟨k,nm,kids,nms,pl⟩:=t;rcases kids with _ | ⟨a,_ | ⟨b,_ | ⟨c,l⟩⟩⟩ <;> rcases nms with _ | ⟨x,r⟩ <;> simp [yz] at h
 obtain ⟨⟨⟨rfl,h1⟩,h2⟩,h3⟩:=h;exact ⟨nm,a,b,pl,rfl,h1,h2,h3⟩
def prV(u:Bool):V:=match u with | true=>.ptr 54 0 | false=>.d .nilptr
abbrev L18 (n r:Nat) (l:List T) (u:Bool) (L:List D) (i:Int):Option R1:=
 LP cx K18 n 87 0 9 r [(6,V.ptr 54 0),(55,V.d (D.sl 5 (T.ds l))),(56,V.d (D.int .i64 (l.length:Int))),(57,V.d (D.int .i64 i))] [(54,Ob.val 187695107 (V.agg [prV u,V.sl 6291457 L 142,V.d (D.bool false)])),(142,Ob.tok L.length)] (AK cx K18 n 87 0 9 (EK cx 87 0))
theorem z06(n:Nat){l:List T}(hl:l.length<4294967296)(ho:T.oks l=true)(hd0:∀ t∈l,yz t=true):∀ (rest:List T) (j r:Nat) (u:Bool) (s:List UInt8),l.drop j=rest→j≤l.length→rest.length<r→s.length+(wz rest).length≤65536 →
  L18 n r l u (ze [] s) j=some (.ret (mkE (s++wz rest,0)),[])
 | [],j,r,u,s,hd,hj,hk',hb=>by
  obtain ⟨r,rfl⟩:∃ i,r=i+1:=⟨r - 1,by omega⟩
  have:l.length≤j:=by simpa using hd
  obtain rfl:j=l.length:=by omega
  have e:(ze [] s).length≤65536:=by rw [w0]; simp; omega
  simp only [L18,wz,List.map_nil,List.flatten_nil,List.append_nil];cases u
  ·refine (z90 n r l (ze [] s) l.length).trans ?_;rw [yw,px,zt3];simp only [zb,yo,pw,ww];rw [pa e];rfl
  ·refine (yee n r l (ze [] s) l.length).trans ?_;rw [yw,px,zt3];simp only [zb,yo,pw,ww];rw [pa e];rfl
 | t::rest,j,r,u,s,hd,hj,hk',hb=>by
  obtain ⟨r,rfl⟩:∃ i,r=i+1:=⟨r - 1,by omega⟩
  obtain ⟨h1,h2,h3⟩:=za0 hd;have htm:=pq h2;obtain ⟨nm,a,b,pl,rfl,hn,ha,hbb⟩:=zqg (hd0 t htm);obtain ⟨_,_,_,_,o5⟩:=vo (wx ho htm);have ih:=z06 n hl ho hd0 rest (j+1) r true (s++zab (.mk 18 nm [a,b] [] pl)) h3 h1 (by simp at hk'; omega) (by simp only [wz,List.map_cons,List.flatten_cons,pe] at hb ⊢; omega)
  have e:s++wz (.mk 18 nm [a,b] [] pl::rest)=s++zab (.mk 18 nm [a,b] [] pl)++wz rest:=by simp [wz]
  rw [e,←ih];have hlen:s.length+(nm.length+3+(zw a 0).length+3+(zw b 0).length+2)≤65536:=by
   simp only [wz,List.map_cons,List.flatten_cons,pe,zab,py,pz] at hb;omega
  have e0:decide ((0:Int)<((T.ds [a,b]).length:Int))=true:=by rw [zu]; rfl
  have e1:decide ((1:Int)<((T.ds [a,b]).length:Int))=true:=by rw [zu]; rfl
  have n0:[a,b][(0:Int).toNat]?=some a:=rfl;have n1:[a,b][(1:Int).toNat]?=some b:=rfl;have hCa:zr a.d=some a:=zd8 o5 (by simp)
  have hCb:zr b.d=some b:=zd8 o5 (by simp)
  have hal:(ze [] s).length=s.length:=by rw [w0]; simp
  simp only [L18];cases u
  ·refine (z90 n r l (ze [] s) j).trans ?_;rw [yf h1,zu,yf h1,y8,yh,po,h2,w9 h1 hl,ww];simp only [pw,zb,Bool.and_self,↓zbb,xu,vk,vj,vi,vh,yo,zgm,Bool.true_or,e0,e1,yh,n0,n1,yk,zjl,zi7,hCa,hCb,ww,ha,hbb];simp (disch:=((try simp only [w0,hal,pe,py,pz]); omega)) only [vl,pw]
   simp [wh,prV,zab]
  ·refine (yee n r l (ze [] s) j).trans ?_;rw [yf h1,zu,yf h1,y8,yh,po,h2,w9 h1 hl,ww];simp only [pw,zb,Bool.and_self,↓zbb,xu,vk,vj,vi,vh,yo,zgm,Bool.true_or,e0,e1,yh,n0,n1,yk,zjl,zi7,hCa,hCb,ww,ha,hbb];simp (disch:=((try simp only [w0,hal,pe,py,pz]); omega)) only [vl,pw]
   simp [wh,prV,zab]
theorem z8j(l:List T)(hl:yn l=true)(ho:T.oks l=true)(hb:12 * Sp.bulks l≤65536):zj cx 87 [.d (.sl 5 (T.ds l))] []=some (.ret (mkE (zco l)),[]):=by
 refine zm z4d (N:=l.length+1) ?_;rw [g18]
 have h:=vr (λ r i=>LP cx K18 (l.length+1) 87 0 2 r [(0,V.d (D.sl 5 (T.ds l))),(9,V.d (D.sl 5 (T.ds l))),(10,V.d (D.int .i64 (l.length:Int))),(11,V.d (D.int .i64 i))] [] (AK cx K18 (l.length+1) 87 0 2 (EK cx 87 0)))
  l (λ t=>!yz t) (λ j=>some (Out.ret (mkE ([],61)),[])) (L18 (l.length+1) (l.length+1) l false [] 0) (yp hl)
  (λ r j x hj hx=>by
   rw [yef,zu,yf hj,y8,yh,po,hx,ww];obtain ⟨q1,q2,q3,q4,q5⟩:yn x.nm=true∧yn x.kids=true∧yn x.nms=true∧x.nms.all yn=true∧T.oks x.kids=true:=by
    have:=wx ho (pq hx);cases x; exact vo this
   have hC:∀ t∈x.kids,zr t.d=some t:=λ t h=>zd8 q5 h;generalize LP cx K18 (l.length+1) 87 0 2 r _ _ _=Z;obtain ⟨k',nm',kids',nms',pl'⟩:=x;simp only [zlw,zax,zhk] at q1 q2 q3 q4 q5 hC;simp only [pw,zb,ww,Bool.and_self,↓zbb,xu,vk,vj,vi,vh,decide_true,zyp,zgm,Bool.true_or,zu,ph,zl1,znx,zm4,zuw,zps,yh,yk,zjl,zi7,zaj q1];have hk:k'=18∨k' ≠ 18:=by omega
   rcases hk with rfl | hk <;> rcases kids' with _ | ⟨b,_ | ⟨c,_ | ⟨d,l⟩⟩⟩ <;> rcases nms' with _ | ⟨y,nms'⟩ <;> simp [yz,hC,ww,mkE, *]
   cases z6 nm' <;> cases zg b <;> cases zg c <;> rfl)
  (λ r=>by rw [yef,yw,px,zu]; rfl) (k:=l.length+1) (by omega)
 rw [zu];refine h.trans ?_;unfold zco;have e:l.all yz = !(l.any λ s=>!yz s):=by rw [List.not_any_eq_all_not]; simp
 cases hf:xh (λ t=>!yz t) l 0 with
 | some j=>
  have:l.any (λ s=>!yz s)=true:=by rw [←zbh l 0,hf]; rfl
  rw [e,this];rfl
 | none=>
  have h0:l.any (λ s=>!yz s)=false:=by rw [←zbh l 0,hf]; rfl
  have hall:∀ t∈l,yz t=true:=by
   have:l.all yz=true:=by rw [e,h0]; rfl
   exact List.all_eq_true.1 this
  have:=zqf l;have hL:=z06 (l.length+1) (yp hl) ho hall l 0 (l.length+1) false [] rfl (Nat.zero_le _) (by omega) (by simp; omega)
  rw [e,h0];exact hL
abbrev L19 (n r:Nat) (l:List T) (s:List UInt8) (i:Int):Option R1:=
 LP cx K19 n 92 0 3 r [(0,V.d (D.sl 5 (T.ds l))),(4,V.d (D.str s)),(5,V.d (D.int .i64 i))] [] (AK cx K19 n 92 0 3 (EK cx 92 0))
theorem z5r(n:Nat){l:List T}(hl:l.length<4294967296)(ho:T.oks l=true)(hb0:Sp.bulks l≤16777216):∀ (rest:List T) (j r:Nat) (s:List UInt8),l.drop j=rest→j≤l.length→rest.length<r→s.length+12 * Sp.bulks rest≤65536 →
  L19 n r l s j=some (.ret (mkE (bif rest.all yz then (s++wz rest,0) else ([],61))),[])
 | [],j,r,s,hd,hj,hk',hb=>by
  obtain ⟨r,rfl⟩:∃ i,r=i+1:=⟨r - 1,by omega⟩
  have:l.length≤j:=by simpa using hd
  obtain rfl:j=l.length:=by omega
  have e:zif s=(s,0):=by unfold zif; rw [pb (by omega)]; rfl
  simp only [L19];rw [yed,zu,yw,px,e,pa (by unfold big; omega)]
  simp [zb,wz,mkE]
 | t::rest,j,r,s,hd,hj,hk',hb=>by
  obtain ⟨r,rfl⟩:∃ i,r=i+1:=⟨r - 1,by omega⟩
  obtain ⟨h1,h2,h3⟩:=za0 hd;have htm:=pq h2;have hbt:=zei htm;have hdl:=ztw t;simp only [Sp.bulks] at hb;have ih:=z5r n hl ho hb0 rest (j+1) r (s++zab t) h3 h1 (by simp at hk'; omega) (by simp only [pe]; omega)
  simp only [L19] at ih ⊢;rw [yed,zu,yf h1,y8,yh,po,h2,w9 h1 hl,ww];obtain ⟨q1,q2,q3,q4,q5⟩:yn t.nm=true∧yn t.kids=true∧yn t.nms=true∧t.nms.all yn=true∧T.oks t.kids=true:=by
   have:=wx ho htm;cases t; exact vo this
  have hC:∀ u∈t.kids,zr u.d=some u:=λ t h=>zd8 q5 h;have hLt:∀ u∈t.kids,yg u=true:=λ u hu=>by
   have:=zei hu;refine pa ?_;obtain ⟨k',nm',kids',nms',pl'⟩:=t;simp only [xa] at hbt;simp only [zax] at this;omega
  obtain ⟨k',nm',kids',nms',pl'⟩:=t;simp only [zlw,zax,zhk] at q1 q2 q3 q4 q5 hC hLt;by_cases hok:yz (.mk k' nm' kids' nms' pl')=true
  ·obtain ⟨nm,a,b,pl,he,hn,ha,hbb⟩:=zqg hok;cases he;have e:s++wz (.mk 18 nm' [a,b] [] pl'::rest)=s++zab (.mk 18 nm' [a,b] [] pl')++wz rest:=by simp [wz]
   refine Eq.trans ?_ (ih.trans (by rw [List.all_cons,hok,Bool.true_and,e]))
   have e0:decide ((0:Int)<((T.ds [a,b]).length:Int))=true:=by rw [zu]; rfl
   have e1:decide ((1:Int)<((T.ds [a,b]).length:Int))=true:=by rw [zu]; rfl
   have e2:decide (((T.ds [a,b]).length:Int)=2)=true:=by rw [zu]; rfl
   have n0:[a,b][(0:Int).toNat]?=some a:=rfl;have n1:[a,b][(1:Int).toNat]?=some b:=rfl;have ez:decide ((0:Int)<((([]:List (List UInt8)).map D.str).length:Int))=false:=rfl;have hta:=zld a 0;have htb:=zld b 0;simp only [xa,Sp.bulks] at hb;simp only [pw,px,zb,ww,Bool.and_self,↓zbb,xu,vk,vj,vi,vh,decide_true,Bool.not_true,zyp,zgm,Bool.true_or,e0,e1,e2,ez,n0,n1,yh,yk,zjl,zi7,zaj q1,hn,hC a (by simp),hC b (by simp),hLt a (by simp),hLt b (by simp),ha,hbb]
   simp (disch:=((try simp only [pe,py,pz]); omega)) only [dle,pw]
   simp [zab]
  ·have hno:yz (.mk k' nm' kids' nms' pl')=false:=by simpa using hok
   rw [List.all_cons,hno,Bool.false_and,px];clear ih;simp only [pw,zb,Bool.and_self,↓zbb,xu,vk,vj,vi,vh,decide_true,zyp,zgm,Bool.true_or,zu,ph,zl1,znx,zm4,zuw,zps,yh,yk,zjl,zi7,zaj q1];have hk:k'=18∨k' ≠ 18:=by omega
   rcases hk with rfl | hk
   ·cases hn:z6 nm'
    ·simp [mkE]
    ·rcases nms' with _ | ⟨y,nms'⟩
     ·by_cases h2:kids'.length=2
      ·obtain ⟨b,c,rfl⟩:∃ b c,kids'=[b,c]:=by
        rcases kids' with _ | ⟨b,_ | ⟨c,_ | ⟨d,l⟩⟩⟩ <;> simp at h2
        exact ⟨b,c,rfl⟩
       have n0:[b,c][(0:Int).toNat]?=some b:=rfl;have n1:[b,c][(1:Int).toNat]?=some c:=rfl;have hs:(zg b&&zg c)=false:=by simpa [yz,hn] using hno
       simp only [n0,n1,ww,hC b (by simp),hC c (by simp)]
       cases hb1:zg b
       ·simp [mkE]
       ·have hb2:zg c=false:=by rw [hb1] at hs; simpa using hs
        rw [hb2];simp [mkE]
      ·rw [pb h2];simp [mkE]
     ·simp [mkE]
   ·rw [pb hk];simp [mkE]
theorem ya4(l:List T)(hl:yn l=true)(ho:T.oks l=true)(hb:12 * Sp.bulks l≤65536):zj cx 92 [.d (.sl 5 (T.ds l))] []=some (.ret (mkE (zco l)),[]):=by
 refine zm z4c (N:=l.length+1) ?_;rw [g19];have h:=z5r (l.length+1) (yp hl) ho (by omega) l 0 (l.length+1) [] rfl (Nat.zero_le _) (by omega) (by simp; omega)
 exact h
end Go.Vai
end
section
namespace Go.Proofs
open Go.Shelf
def Tryz.growS_ren:Go.Shelf.Ren:=⟨λ | 4=>165 | n=>n,λ | 22=>23 | 25=>9 | 3=>3 | 4=>4 | 9=>9 | 20=>20 | 0=>0 | n=>n,λ | n=>n⟩
theorem Tryz.growS:Go.Proofs.Lays8.n4 Tryz.prog Tryz.growS_ren:={
 mixed:=by kernel_rfl
 f4:=⟨Tryz.f165.name,by decide,Tryz.func165.trans (congrArg some (by kernel_rfl))⟩
 t0:=Tryz.underlying0
 a0:=Tryz.isAgg0
 z0:=Tryz.sizeOf0
 v0:=Tryz.zeroValue0
 t3:=Tryz.underlying3
 a3:=Tryz.isAgg3
 z3:=Tryz.sizeOf3
 v3:=Tryz.zeroValue3
 t4:=Tryz.underlying4
 a4:=Tryz.isAgg4
 z4:=Tryz.sizeOf4
 v4:=Tryz.zeroValue4
 t9:=Tryz.underlying9
 a9:=Tryz.isAgg9
 z9:=Tryz.sizeOf9
 v9:=Tryz.zeroValue9
 t20:=Tryz.underlying20
 a20:=Tryz.isAgg20
 z20:=Tryz.sizeOf20
 v20:=Tryz.zeroValue20
 t22:=Tryz.underlying23
 a22:=Tryz.isAgg23
 z22:=Tryz.sizeOf23
 v22:=Tryz.zeroValue23 }
def Tryz.lays169_ren:Go.Shelf.Ren:=⟨λ | 169=>164 | n=>n,λ | 70=>173 | 9=>9 | 0=>0 | 72=>176 | 37=>174 | 127=>232 | 3=>3 | 5=>5 | n=>n,λ | n=>n⟩
theorem Tryz.lays169:Go.Proofs.Lays.n169 Tryz.prog Tryz.lays169_ren:={
 mixed:=by kernel_rfl
 f169:=Tryz.func164.trans (congrArg some (by kernel_rfl))
 t0:=Tryz.underlying0
 a0:=Tryz.isAgg0
 z0:=Tryz.sizeOf0
 v0:=Tryz.zeroValue0
 t3:=Tryz.underlying3
 a3:=Tryz.isAgg3
 z3:=Tryz.sizeOf3
 v3:=Tryz.zeroValue3
 t9:=Tryz.underlying9
 a9:=Tryz.isAgg9
 z9:=Tryz.sizeOf9
 v9:=Tryz.zeroValue9
 t37:=Tryz.underlying174
 a37:=Tryz.isAgg174
 z37:=Tryz.sizeOf174
 v37:=Tryz.zeroValue174
 t70:=Tryz.underlying173
 a70:=Tryz.isAgg173
 z70:=Tryz.sizeOf173
 v70:=Tryz.zeroValue173
 t72:=Tryz.underlying176
 a72:=Tryz.isAgg176
 z72:=Tryz.sizeOf176
 v72:=Tryz.zeroValue176
 t127:=Tryz.underlying232
 a127:=Tryz.isAgg232
 z127:=Tryz.sizeOf232
 v127:=Tryz.zeroValue232 }
theorem Tryz.Builder_Extra_169:Builder.Extra Tryz.prog Tryz.lays169_ren:={
 sizeBuilder:=by kernel_rfl
 liesBuilder:=by kernel_rfl
 t5:=Tryz.underlying5
 a5:=Tryz.isAgg5
 z5:=Tryz.sizeOf5
 v5:=Tryz.zeroValue5
 infoByte:=by kernel_rfl
 cellsByte:=by kernel_rfl
 sizeByte:=by kernel_rfl
 neB5:=by decide }
open Go.RowKit in
def Tryz.lays156_ren:Go.Shelf.Ren:=⟨λ | 156=>192 | 165=>215 | 166=>159 | 169=>164 | 240=>191 | 241=>231 | 276=>214 | 277=>242 | n=>n,λ | 31=>23 | 9=>9 | 3=>3 | 4=>4 | 0=>0 | 20=>20 | 72=>176 | 76=>204 | 70=>173 | 37=>174 | 75=>203 | 127=>232 | 164=>237 | 5=>5 | 80=>155 | n=>n,λ | n=>n⟩
theorem Tryz.lays156:Go.Proofs.Lays.n156 Tryz.prog Tryz.lays156_ren:={
 mixed:=by kernel_rfl
 f156:=Tryz.func192.trans (congrArg some (by kernel_rfl))
 f165:=Tryz.func215.trans (congrArg some (by kernel_rfl))
 f166:=Tryz.func159.trans (congrArg some (by kernel_rfl))
 f169:=Tryz.func164.trans (congrArg some (by kernel_rfl))
 f240:=Tryz.func191.trans (congrArg some (by kernel_rfl))
 f241:=Tryz.func231.trans (congrArg some (by kernel_rfl))
 f276:=Tryz.func214.trans (congrArg some (by kernel_rfl))
 f277:=Tryz.func242.trans (congrArg some (by kernel_rfl))
 t0:=Tryz.underlying0
 a0:=Tryz.isAgg0
 z0:=Tryz.sizeOf0
 v0:=Tryz.zeroValue0
 t3:=Tryz.underlying3
 a3:=Tryz.isAgg3
 z3:=Tryz.sizeOf3
 v3:=Tryz.zeroValue3
 t4:=Tryz.underlying4
 a4:=Tryz.isAgg4
 z4:=Tryz.sizeOf4
 v4:=Tryz.zeroValue4
 t9:=Tryz.underlying9
 a9:=Tryz.isAgg9
 z9:=Tryz.sizeOf9
 v9:=Tryz.zeroValue9
 t20:=Tryz.underlying20
 a20:=Tryz.isAgg20
 z20:=Tryz.sizeOf20
 v20:=Tryz.zeroValue20
 t31:=Tryz.underlying23
 a31:=Tryz.isAgg23
 z31:=Tryz.sizeOf23
 v31:=Tryz.zeroValue23
 t37:=Tryz.underlying174
 a37:=Tryz.isAgg174
 z37:=Tryz.sizeOf174
 v37:=Tryz.zeroValue174
 t70:=Tryz.underlying173
 a70:=Tryz.isAgg173
 z70:=Tryz.sizeOf173
 v70:=Tryz.zeroValue173
 t72:=Tryz.underlying176
 a72:=Tryz.isAgg176
 z72:=Tryz.sizeOf176
 v72:=Tryz.zeroValue176
 t75:=Tryz.underlying203
 a75:=Tryz.isAgg203
 z75:=Tryz.sizeOf203
 v75:=Tryz.zeroValue203
 t76:=Tryz.underlying204
 a76:=Tryz.isAgg204
 z76:=Tryz.sizeOf204
 v76:=Tryz.zeroValue204
 t127:=Tryz.underlying232
 a127:=Tryz.isAgg232
 z127:=Tryz.sizeOf232
 v127:=Tryz.zeroValue232
 t164:=Tryz.underlying237
 a164:=Tryz.isAgg237
 z164:=Tryz.sizeOf237
 v164:=Tryz.zeroValue237 }
theorem Tryz.Builder_Extra_156:Builder.Extra Tryz.prog Tryz.lays156_ren:={
 sizeBuilder:=by kernel_rfl
 liesBuilder:=by kernel_rfl
 t5:=Tryz.underlying5
 a5:=Tryz.isAgg5
 z5:=Tryz.sizeOf5
 v5:=Tryz.zeroValue5
 infoByte:=by kernel_rfl
 cellsByte:=by kernel_rfl
 sizeByte:=by kernel_rfl
 neB5:=by decide }
open Go.RowKit in
theorem Tryz.strings_Join_none(a:Option Addr)(c:Nat)(sep:ByteArray)(w:World) :
  Calls Tryz.prog 192 #[.slice a 0 c,.string sep] w λ e w'=>e=.returned (.string ⟨#[]⟩)∧w'=w:=Any.strings_Join_none Tryz.lays156 Tryz.Builder_Extra_156 a c sep w
open Go.RowKit in
theorem Tryz.strings_Join(bk o c:Nat)(xs:List ByteArray)(sep:ByteArray)(w:World)(hcells:∀ (j:Nat) x,xs[j]?=some x→w.cell? ⟨bk,o+j,none⟩=some (.string x))(hbk:bk<w.heap.size)(hN:xs.length≤140737488355328)(hcap:xs.length≤c)(hlen:(Lib.join (xs.map (·.data.toList)) sep.data.toList).length≤140737488355328) :
  Calls Tryz.prog 192 #[.slice (some ⟨bk,o,none⟩) xs.length c,.string sep] w λ e w'=>e=.returned (.string ⟨(Lib.join (xs.map (·.data.toList)) sep.data.toList).toArray⟩)∧Below w.heap.size w w':=Any.strings_Join Tryz.lays156 Tryz.Builder_Extra_156 bk o c xs sep w hcells hbk hN hcap hlen
def Tryz.lays189_ren:Go.Shelf.Ren:=⟨λ | 189=>49 | 125=>86 | 257=>85 | 128=>124 | 129=>125 | 294=>115 | 295=>116 | 296=>117 | 297=>118 | 298=>119 | 299=>120 | 216=>121 | 300=>122 | 301=>123 | 328=>152 | 329=>153 | 330=>154 | 331=>155 | 332=>156 | 215=>157 | 343=>190 | n=>n,λ | 28=>47 | 3=>3 | 46=>140 | 0=>0 | 51=>78 | 53=>44 | 4=>4 | 183=>164 | 182=>163 | 131=>102 | 5=>5 | 9=>9 | 218=>196 | 222=>200 | 228=>229 | 229=>230 | n=>n,λ | n=>n⟩
theorem Tryz.lays189:Go.Proofs.Lays.n189 Tryz.prog Tryz.lays189_ren:={
 mixed:=by kernel_rfl
 f125:=Tryz.func86.trans (congrArg some (by kernel_rfl))
 f128:=Tryz.func124.trans (congrArg some (by kernel_rfl))
 f129:=Tryz.func125.trans (congrArg some (by kernel_rfl))
 f189:=Tryz.func49.trans (congrArg some (by kernel_rfl))
 f215:=Tryz.func157.trans (congrArg some (by kernel_rfl))
 f216:=Tryz.func121.trans (congrArg some (by kernel_rfl))
 f257:=Tryz.func85.trans (congrArg some (by kernel_rfl))
 f294:=Tryz.func115.trans (congrArg some (by kernel_rfl))
 f295:=Tryz.func116.trans (congrArg some (by kernel_rfl))
 f296:=Tryz.func117.trans (congrArg some (by kernel_rfl))
 f297:=Tryz.func118.trans (congrArg some (by kernel_rfl))
 f298:=Tryz.func119.trans (congrArg some (by kernel_rfl))
 f299:=Tryz.func120.trans (congrArg some (by kernel_rfl))
 f300:=Tryz.func122.trans (congrArg some (by kernel_rfl))
 f301:=Tryz.func123.trans (congrArg some (by kernel_rfl))
 f328:=Tryz.func152.trans (congrArg some (by kernel_rfl))
 f329:=Tryz.func153.trans (congrArg some (by kernel_rfl))
 f330:=Tryz.func154.trans (congrArg some (by kernel_rfl))
 f331:=Tryz.func155.trans (congrArg some (by kernel_rfl))
 f332:=Tryz.func156.trans (congrArg some (by kernel_rfl))
 f343:=Tryz.func190.trans (congrArg some (by kernel_rfl))
 t0:=Tryz.underlying0
 a0:=Tryz.isAgg0
 z0:=Tryz.sizeOf0
 v0:=Tryz.zeroValue0
 t3:=Tryz.underlying3
 a3:=Tryz.isAgg3
 z3:=Tryz.sizeOf3
 v3:=Tryz.zeroValue3
 t4:=Tryz.underlying4
 a4:=Tryz.isAgg4
 z4:=Tryz.sizeOf4
 v4:=Tryz.zeroValue4
 t5:=Tryz.underlying5
 a5:=Tryz.isAgg5
 z5:=Tryz.sizeOf5
 v5:=Tryz.zeroValue5
 t9:=Tryz.underlying9
 a9:=Tryz.isAgg9
 z9:=Tryz.sizeOf9
 v9:=Tryz.zeroValue9
 t28:=Tryz.underlying47
 a28:=Tryz.isAgg47
 z28:=Tryz.sizeOf47
 v28:=Tryz.zeroValue47
 t46:=Tryz.underlying140
 a46:=Tryz.isAgg140
 z46:=Tryz.sizeOf140
 v46:=Tryz.zeroValue140
 t51:=Tryz.underlying78
 a51:=Tryz.isAgg78
 z51:=Tryz.sizeOf78
 v51:=Tryz.zeroValue78
 t53:=Tryz.underlying44
 a53:=Tryz.isAgg44
 z53:=Tryz.sizeOf44
 v53:=Tryz.zeroValue44
 t131:=Tryz.underlying102
 a131:=Tryz.isAgg102
 z131:=Tryz.sizeOf102
 v131:=Tryz.zeroValue102
 t182:=Tryz.underlying163
 a182:=Tryz.isAgg163
 z182:=Tryz.sizeOf163
 v182:=Tryz.zeroValue163
 t183:=Tryz.underlying164
 a183:=Tryz.isAgg164
 z183:=Tryz.sizeOf164
 v183:=Tryz.zeroValue164
 t218:=Tryz.underlying196
 a218:=Tryz.isAgg196
 z218:=Tryz.sizeOf196
 v218:=Tryz.zeroValue196
 t222:=Tryz.underlying200
 a222:=Tryz.isAgg200
 z222:=Tryz.sizeOf200
 v222:=Tryz.zeroValue200
 t228:=Tryz.underlying229
 a228:=Tryz.isAgg229
 z228:=Tryz.sizeOf229
 v228:=Tryz.zeroValue229
 t229:=Tryz.underlying230
 a229:=Tryz.isAgg230
 z229:=Tryz.sizeOf230
 v229:=Tryz.zeroValue230 }
open Go.Sort Go.RowKit in
theorem Tryz.slices_Sort_int(blk off cap:Nat)(zs:List Int)(w:World)(hH:Holds (Value.int .i64) w blk off zs.toArray)(hblk:blk<w.heap.size)(hsz:zs.length<4611686018427387904) :
  Calls Tryz.prog 49 #[.slice (some ⟨blk,off,none⟩) zs.length cap] w λ e w'=>
   e=.returned (.tuple #[])∧∃ n os,w'=grow (putRow (Value.int .i64) (Sort.ahead w n) blk off (zs.mergeSort λ x y=>decide (x≤y)).toArray) os:=Any.slices_Sort_int Tryz.lays189 blk off cap zs w hH hblk hsz
def Tryz.laysNm216_ren:Go.Shelf.Ren:=⟨λ | 16=>99 | n=>n,λ | 24=>23 | 9=>9 | 4=>4 | n=>n,λ | n=>n⟩
theorem Tryz.laysNm216:Go.Proofs.Lays2.n16 Tryz.prog Tryz.laysNm216_ren:={
 mixed:=by kernel_rfl
 f16:=Tryz.func99.trans (congrArg some (by kernel_rfl))
 t4:=Tryz.underlying4
 a4:=Tryz.isAgg4
 z4:=Tryz.sizeOf4
 v4:=Tryz.zeroValue4
 t9:=Tryz.underlying9
 a9:=Tryz.isAgg9
 z9:=Tryz.sizeOf9
 v9:=Tryz.zeroValue9
 t24:=Tryz.underlying23
 a24:=Tryz.isAgg23
 z24:=Tryz.sizeOf23
 v24:=Tryz.zeroValue23
 i9:=by kernel_rfl }
open Go.RowKit Go.Lib in
theorem Tryz.slices_Clone_string(b off n c:Nat)(zs:List ByteArray)(w:World)(hz:n≤zs.length)(hbig:n * 16≤140737488355328)(hc:∀ j,j<zs.length→w.cell? ⟨b,off+j,none⟩=some (.string (zs.getD j ByteArray.empty))) :
  Calls Tryz.prog 99 #[.slice (some ⟨b,off,none⟩) n c] w λ e w'=>∃ v',e=.returned v'∧w'.ownsRow w.heap.size 9 1 v' n ((zs.take n).map (Value.string))∧v' ≠ .slice none 0 0∧Below w.heap.size w w':=Any.slices_Clone_string Tryz.laysNm216 b off n c zs w hz hbig hc
open Go.RowKit Go.Lib in
theorem Tryz.slices_Clone_string_nil(n c:Nat)(w:World) :
  Calls Tryz.prog 99 #[.slice none n c] w λ e w'=>e=.returned (.slice none 0 0)∧w'=w:=Any.slices_Clone_string_nil Tryz.laysNm216 n c w
open Go.RowKit Go.Lib in
theorem Tryz.slices_Clone_string_zero(a:Addr)(c:Nat)(w:World) :
  Calls Tryz.prog 99 #[.slice (some a) 0 c] w λ e w'=>∃ v',e=.returned v'∧w'.ownsRow w.heap.size 9 1 v' 0 []∧v' ≠ .slice none 0 0∧Below w.heap.size w w':=Any.slices_Clone_string_zero Tryz.laysNm216 a c w
end Go.Proofs
end
section
set_option linter.unusedVariables false
namespace Go.Proofs
open Go.Shelf Go.RowKit
variable {P:Program} {ρ:Ren}
set_option maxHeartbeats 2000000 in
set_option maxRecDepth 100000 in
theorem Any.String_core(L:Lays.n169 P ρ)(X:Builder.Extra P ρ)(b:Nat)(w w2:World)(ao p:Option Addr)(n cap:Nat)(s:ByteArray)
  (c1:w.drew.cell? ⟨b,1,none⟩=some (.slice ao n cap))
  (hSD:(Builtin.unsafeSliceData_ #[(ρ.t 37)] (ρ.t 127) #[.slice ao n cap]).run P w.drew=.ok (.pointer p) w.drew)
  (hUS:(Builtin.unsafeString_ #[(ρ.t 127),(ρ.t 3)] (ρ.t 9) #[.pointer p,.int .i64 n]).run P w.drew=.ok (.string s) w2) :
  Calls P (ρ.f 169) #[.pointer (some ⟨b,0,none⟩)] w λ e w'=>e=.returned (.string s)∧w'=w2:=by
 have mixed:=L.mixed;have t72:=L.t72; have a72:=L.a72; have z72:=L.z72; have v72:=L.v72; have u72:=run_underlying L.t72;have t70:=L.t70; have a70:=L.a70; have z70:=L.z70; have v70:=L.v70; have u70:=run_underlying L.t70;have t37:=L.t37; have a37:=L.a37; have z37:=L.z37; have v37:=L.v37; have u37:=run_underlying L.t37;have t127:=L.t127; have a127:=L.a127; have z127:=L.z127; have v127:=L.v127; have u127:=run_underlying L.t127;have t3:=L.t3; have a3:=L.a3; have z3:=L.z3; have v3:=L.v3; have u3:=run_underlying L.t3;have t9:=L.t9; have a9:=L.a9; have z9:=L.z9; have v9:=L.v9; have u9:=run_underlying L.t9;have t5:=X.t5; have a5:=X.a5; have z5:=X.z5; have v5:=X.v5; have u5:=run_underlying X.t5
 go_enter L.f169,Body.n169_ntmps ρ
 go_wp2
 go_region_o
 all_goals (go_wp2; go_ret; exact ⟨rfl,rfl⟩)
theorem Tryz.String_core(b:Nat)(w w2:World)(ao p:Option Addr)(n cap:Nat)(s:ByteArray)
  (c1:w.drew.cell? ⟨b,1,none⟩=some (.slice ao n cap))
  (hSD:(Builtin.unsafeSliceData_ #[174] 232 #[.slice ao n cap]).run Tryz.prog w.drew=.ok (.pointer p) w.drew)
  (hUS:(Builtin.unsafeString_ #[232,3] 9 #[.pointer p,.int .i64 n]).run Tryz.prog w.drew=.ok (.string s) w2) :
  Calls Tryz.prog 164 #[.pointer (some ⟨b,0,none⟩)] w λ e w'=>e=.returned (.string s)∧w'=w2:=
 Any.String_core Tryz.lays169 Tryz.Builder_Extra_169 b w w2 ao p n cap s c1 hSD hUS
end Go.Proofs
namespace Go.Vai
open Go.Proofs Go.Sort
section
variable {cx:Cx} {w w':World} {σ:St} {μ:Mu}
theorem zz5{w w':World}(h:RowKit.Below w.heap.size w w'){b i:Nat}{x:Value}(hc:w.cell? ⟨b,i,none⟩=some x):w'.cell? ⟨b,i,none⟩=some x:=by
 have:=h.block b (lt_of_cell hc);unfold World.cell? at hc ⊢;simp only at hc ⊢;rw [this];exact hc
theorem zjh(hi:Inv cx w σ μ)(h:RowKit.Below w.heap.size w w'):After cx w σ μ w' σ μ:=by
 have hu:Upd cx w σ μ w' σ μ []:=⟨h.os,h.output,h.size,λ b hb _=>h.block b hb,λ b i x _ hc=>zz5 h hc,rfl,λ _ _=>⟨rfl,rfl⟩,λ _ h=>by simp at h,λ _ h=>by simp at h,λ _ h=>by simp at h⟩
 exact hu.after hi (λ _ h=>by simp at h)
theorem zn4(w:World)(g n:Nat):∀ b,b ≠ g→(w.freeze ⟨g,0,none⟩ n).heap[b]?=w.heap[b]?:=λ b hb=>by
 unfold World.freeze;split
 ·rfl
 ·simp [Array.getElem?_modify,Ne.symm hb]
theorem zxb(w:World)(g n:Nat)(b k:Nat):(w.freeze ⟨g,0,none⟩ n).cell? ⟨b,k,none⟩=w.cell? ⟨b,k,none⟩:=by
 by_cases hbg:b=g
 ·subst hbg;unfold World.freeze;split
  ·rfl
  ·unfold World.cell?;simp only [Array.getElem?_modify,if_true];cases h:w.heap[b]? with
   | none=>rfl
   | some o=>cases o <;> rfl
 ·unfold World.cell?;simp only;rw [zn4 w g n b hbg]
theorem z6m{id k:Nat}(ho:zl σ id=some (.tok k))(hos:w'.os=w.os)(hout:w'.output=w.output)(hsize:w.heap.size≤w'.heap.size)
  (hblk:∀ b,b<w.heap.size→(μ id).blk ≠ some b→w'.heap[b]?=w.heap[b]?) (hcell:∀ b i x,w.cell? ⟨b,i,none⟩=some x→w'.cell? ⟨b,i,none⟩=some x) :
  Upd cx w σ μ w' (qt σ id (.tok (k+1))) (setMu μ id ⟨none,0,0,0⟩) [id] where
 os:=hos
 output:=hout
 size:=hsize
 blk:=λ b hb h=>hblk b hb λ e=>h id (by simp) _ ho (μ id).f ⟨e,Nat.le_refl _⟩
 cell:=λ b i x _ h=>hcell b i x h
 fr:=rfl
 same:=λ j hj=>by
  have:id ≠ j:=λ e=>hj (by simp [e])
  exact ⟨by simp [zx,this],by simp [setMu,Ne.symm this]⟩
 own:=λ j hj q hq b i hown _=>by
  simp at hj; subst hj;simp only [zx,if_true] at hq;cases hq;have:=hown.1;simp [setMu] at this
 still:=λ j hj q hq=>by
  simp at hj; subst hj;rw [ho] at hq; cases hq;simp only [zx,if_true];exact ⟨by omega,λ h=>by omega⟩
 apart:=λ j hj j' hj' _ _ _ _ _ _ _ _ _=>by simp at hj hj'; rw [hj,hj']
theorem zzm{id k:Nat}(hi:Inv cx w σ μ)(ho:zl σ id=some (.tok k))(hos:w'.os=w.os)(hout:w'.output=w.output)(hsize:w.heap.size≤w'.heap.size)
  (hblk:∀ b,b<w.heap.size→(μ id).blk ≠ some b→w'.heap[b]?=w.heap[b]?) (hcell:∀ b i x,w.cell? ⟨b,i,none⟩=some x→w'.cell? ⟨b,i,none⟩=some x) :
  After cx w σ μ w' (qt σ id (.tok (k+1))) (setMu μ id ⟨none,0,0,0⟩):=
 (z6m ho hos hout hsize hblk hcell).after hi λ j hj o' ho'=>by
  simp at hj; subst hj;simp only [zx,if_true] at ho';cases ho';intro b hb;simp [setMu] at hb
theorem znp:szN 6291457=1:=by decide
theorem z3f{id k:Nat}(hc:Canon σ)(ho:zl σ id=some (.tok k)):∀ j o,zl (qt σ id (.tok (k+1))) j=some o→j<σ.length∧∀ i∈o.ids,i<σ.length:=by
 intro j o hj;rw [zx] at hj;by_cases h:id=j
 ·subst h;rw [if_pos rfl] at hj;cases hj;exact ⟨(hc id _ ho).1,by simp [Ob.ids]⟩
 ·rw [if_neg h] at hj;exact hc j o hj
theorem z2k(hP : cx.P = Tryz.prog){args : List V}{out : Out}{σ' : St}(h : zm0 args σ = some (out, σ')){vs : List Value}(hi : Inv cx w σ μ)(hcan : Canon σ)(hv : RVs w σ μ vs args) :
    ∃ u, out = .ret u ∧ (∀ k o, zl σ' k = some o → k < σ.length ∧ ∀ i ∈ o.ids, i < σ.length) ∧ (∀ i ∈ u.ids, i < σ.length) ∧
    Calls cx.P 164 vs.toArray w λ e w' => ∃ μ' x, e = .returned x ∧ After cx w σ μ w' σ' μ' ∧ RV w' σ' μ' x u := by
  unfold zm0 at h;obtain ⟨i, hargs, h1⟩ := zd h;clear h;obtain rfl := z2b hargs;obtain ⟨⟨sz, l, id⟩, hq, h2⟩ := zd h1;clear h1;obtain ⟨n, p, r, ho⟩ := zyo hq;obtain ⟨k, hk, h3⟩ := zd h2;clear h2;have ht := zyj hk;obtain ⟨hc, h4⟩ := zf h3;clear h3;obtain ⟨s, hs, h⟩ := zd h4;clear h4;cases h;clear hk hq hargs;simp only at hs hc ht ho;simp only [pm, decide_eq_true_eq] at hc;obtain ⟨⟨hsz, hk⟩, hlen⟩ := hc;have hsz := pj hsz;subst hsz;subst hk;have hl := zqy l s hs;refine ⟨_, rfl, z3f hcan ht, by simp [V.ids], ?_⟩
  -- the argument
  obtain ⟨v, rfl⟩ : ∃ v, vs = [v] := List.length_eq_one_iff.1 (by simpa using hv.1)
  have hv0 := hv.2 0 v _ rfl rfl;cases hv0 with | ptr _ _ b _ hb => ?_
  obtain ⟨b', cs, el, hb', hh, _, _, _, hrs, _⟩ := hi.ob i _ ho;obtain rfl : b = b' := by rw [hb] at hb'; exact Option.some.inj hb'
  obtain ⟨v1, hv1⟩ : ∃ v1, cs.toList[1]? = some v1 := xj (by rw [hrs.1]; simp [V.cells])
  have hr1 := hrs.2 1 v1 (.sl 6291457 l id) hv1 rfl;cases hr1 with | sl _ _ _ _ n' hrd ht' hn' htail => ?_
  rw [ht] at ht'; cases ht';have htail := htail rfl;rw [znp] at hrd;obtain ⟨base, cap, rfl⟩ := hrd.slice_inv;have c1 : w.drew.cell? ⟨b, 1, none⟩ = some (.slice base l.length cap) := by
    show w.cell? ⟨b, 1, none⟩ = _;rw [cell_of_heap hh];simpa using hv1
  rw [hP]
  have fin : ∀ w', w'.os = w.os → w'.output = w.output → w.heap.size ≤ w'.heap.size → (∀ b, b < w.heap.size → (μ id).blk ≠ some b → w'.heap[b]? = w.heap[b]?) →
      (∀ b i x, w.cell? ⟨b, i, none⟩ = some x → w'.cell? ⟨b, i, none⟩ = some x) →
      ∃ μ' x, Ending.returned (.string ⟨s.toArray⟩) = .returned x ∧ After cx w σ μ w' (qt σ id (.tok (l.length + 1))) μ' ∧ RV w' (qt σ id (.tok (l.length + 1))) μ' x (.d (.str s)) :=
    λ w' h1 h2 h3 h4 h5 => ⟨_, _, rfl, zzm hi ht h1 h2 h3 h4 h5, .d _ _ (.str s)⟩
  by_cases he : l = []
  · subst he;have hs0 : s = [] := by cases s with | nil => rfl | cons a b => simp at hl
    subst hs0;rcases htail with ⟨h1, _, _, h2⟩ | ⟨b2, o, _, _, _, _, _, h2⟩
    · subst h1
      obtain rfl : base = none := by rcases h2 with h2 | h2; · exact absurd h2 (by decide)
                                     · exact h2
      refine (Tryz.String_core b w w.drew none none 0 0 .empty c1 rfl (Lib.run_unsafeString_none w.drew 232 3 9 none)).mono ?_;rintro e w' ⟨rfl, rfl⟩;exact fin _ rfl rfl (Nat.le_refl _) (λ _ _ _ => rfl) (λ _ _ _ h => h)
    · rcases h2 with h2 | h2
      · exact absurd h2 (by decide)
      · exact absurd h2.2.2 (by simp)
  · have hpos : 0 < l.length := List.length_pos_iff.2 he;rcases htail with ⟨_, h1, _⟩ | ⟨g, o, hbase, hg, hf, hend, hnc, h2⟩
    · omega
    rcases h2 with h2 | ⟨hel, ho0, _⟩
    · exact absurd h2 (by decide)
    subst hbase;subst ho0;obtain ⟨cs', el', fr', hh', hel', hcs', _⟩ := hi.ob id _ ht g hg;have h6 : (6291457 : Nat) / 1048576 = 6 := by decide
    have hel5 : el' = 5 := by rw [hel']; rw [h6] at hel; exact (Nat.succ.inj hel).symm
    rw [znp] at hend;subst hel5;have hsl : s.length = l.length := by rw [hl]; simp
    have hs0 : s ≠ [] := λ e => by rw [e] at hsl; simp at hsl; omega
    have hcell : ∀ j x, s[j]? = some x → w.drew.cell? ((⟨g, 0, none⟩ : Addr).add j) = some (.int .u8 x.toNat) := by
      intro j x hx;have hj := (pn.1 hx).1;generalize hnl : l.length = nl at hrd;cases hrd with
      | sl0 => exact absurd rfl he
      | sl _ _ _ _ _ _ xs hn hcap hszs hcells hels =>
        have hlx : l[j]? = some (zoc x) := by rw [hl, List.getElem?_map, hx]; rfl
        have h1 := hcells j (by omega)
        have h2 := hels j 0 (zoc x) (zoc x) hlx rfl;simp only [Nat.mul_one, Nat.add_zero] at h2;rw [show (⟨g, 0, none⟩ : Addr).add j = ⟨g, 0 + j, none⟩ from by by_cases hj0 : j = 0 <;> simp [Addr.add, hj0]]
        have h3 : w.cell? ⟨g, 0 + j, none⟩ = some (xs j) := h1.1;generalize xs j = q at h2 h3;unfold zoc at h2;cases h2;exact h3
    have hUS := Lib.run_unsafeString_row (P := Tryz.prog) w.drew 232 3 9 5 (by kernel_rfl) (by kernel_rfl) g cs'.size (by show w.shape? g = _; simp [World.shape?, hh']) s hs0 (by rw [hsl, hcs']; omega) (by omega) hcell
    rw [hsl] at hUS;refine (Tryz.String_core b w _ (some ⟨g, 0, none⟩) (some ⟨g, 0, none⟩) l.length cap ⟨s.toArray⟩ c1 (Lib.run_unsafeSliceData_row w.drew _ _ _ _ _ (by omega)) hUS).mono ?_
    rintro e w' ⟨rfl, rfl⟩;refine fin _ ?_ ?_ ?_ (λ b' _ hb' => ?_) (λ b' i' x hx => ?_)
    · unfold World.freeze; split <;> rfl
    · unfold World.freeze; split <;> rfl
    · unfold World.freeze; split
      · exact Nat.le_refl _
      · simp
    · rw [zn4 w.drew g _ b' (λ e => hb' (by rw [e]; exact hg))]
      rfl
    · rw [zxb];exact hx
theorem zyy(hP:cx.P=Tryz.prog){args:List V}{out:Out}{σ':St}(h:zlz args σ=some (out,σ')){vs:List Value}(hi:Inv cx w σ μ)(hcan:Canon σ)(hv:RVs w σ μ vs args) :
  ∃ u,out=.ret u∧(∀ k o,zl σ' k=some o→k<σ.length∧∀ i∈o.ids,i<σ.length)∧(∀ i∈u.ids,i<σ.length) ∧
  Calls cx.P 192 vs.toArray w λ e w'=>∃ μ' x,e=.returned x∧After cx w σ μ w' σ' μ'∧RV w' σ' μ' x u:=by
 unfold zlz at h;split at h
 case h_2=>cases h
 rename_i sz xs sep;obtain ⟨l,hl,h1⟩:=zd h;clear h;obtain ⟨hc,h⟩:=zf h1;clear h1;cases h;simp only [pm,decide_eq_true_eq] at hc;refine ⟨_,rfl,hcan,by simp [V.ids],?_⟩
 obtain ⟨v1,v2,rfl⟩:∃ v1 v2,vs=[v1,v2]:=by
  have:=hv.1
  match vs,this with
  | [a,b],_=>exact ⟨a,b,rfl⟩
 have h1:=hv.2 0 v1 _ rfl rfl;have h2:=hv.2 1 v2 _ rfl rfl;cases h2 with | d _ _ h2=>?_
 cases h2;cases h1 with | d _ _ h1=>?_
 have hxs:=zmn xs l hl;rw [hP];have fin:∀ (q:ByteArray) (w':World),q=wg (Lib.join l sep)→RowKit.Below w.heap.size w w'→∃ μ' x,Ending.returned (.string q)=.returned x∧After cx w σ μ w' σ μ'∧RV w' σ μ' x (.d (.str (Lib.join l sep))):=by
  rintro q w' rfl hb;exact ⟨μ,_,rfl,zjh hi hb,.d _ _ (.str _)⟩
 cases h1 with
 | sl0 base cap _=>
  have hl0:l=[]:=by cases l with | nil=>rfl | cons a b=>simp at hxs
  subst hl0;refine (Tryz.strings_Join_none base cap (wg sep) w).mono ?_;rintro e w' ⟨rfl,rfl⟩;exact fin _ _ (by simp [Lib.join,List.intercalate,wg]) (RowKit.Below.refl _ _)
 | sl b o n cap _ _ ys hn hcap hsz hcell hels=>
  subst hn;by_cases h0:l=[]
  ·subst h0;have hx0:xs=[]:=by simpa using hxs
   subst hx0;refine (Tryz.strings_Join_none (some ⟨b,o,none⟩) cap (wg sep) w).mono ?_;rintro e w' ⟨rfl,rfl⟩;exact fin _ _ (by simp [Lib.join,List.intercalate,wg]) (RowKit.Below.refl _ _)
  have hlen:xs.length=(l.map wg).length:=by rw [hxs]; simp
  have hsz1:sz=1:=by
   have hne:xs ≠ []:=by rw [hxs]; simpa using h0
   obtain ⟨y,hy⟩:=List.exists_mem_of_ne_nil xs hne;have:=hsz y hy;rw [hxs] at hy;obtain ⟨q,_,rfl⟩:=List.mem_map.1 hy;exact this.symm
  subst hsz1;have hmap:(l.map wg).map (·.data.toList)=l:=by
   rw [List.map_map]
   conv=>rhs; rw [←List.map_id l]
   exact List.map_congr_left λ a _=>by simp [wg]
  have hsep:(wg sep).data.toList=sep:=by simp [wg]
  have hj:=Tryz.strings_Join b o cap (l.map wg) (wg sep) w (λ j x hx=>?_) ?_ (by rw [←hlen,hxs]; simpa using hc.1) (by rw [←hlen]; exact hcap) (by rw [hmap,hsep]; exact hc.2)
  ·rw [hmap,hsep,←hlen] at hj;refine hj.mono ?_;rintro e w' ⟨rfl,hb⟩;exact fin _ _ rfl hb
  ·rw [List.getElem?_map,Option.map_eq_some_iff] at hx;obtain ⟨q,hq,rfl⟩:=hx;have hjl:j<xs.length:=by rw [hlen]; simpa using (pn.1 hq).1
   have g1:=(hcell j (by omega)).1
   have hlx:xs[j]?=some (.str q):=by rw [hxs,List.getElem?_map,hq]; rfl
   have g2:=hels j 0 (.str q) (.str q) hlx rfl;simp only [Nat.mul_one,Nat.add_zero] at g2;generalize ys j=z at g1 g2;cases g2;exact g1
  ·have hpos:0<xs.length:=by rw [hlen]; simpa using List.length_pos_iff.2 h0
   exact lt_of_cell (hcell 0 (by omega)).1
theorem zkm:∀ l:List Int,(qh l).Perm l
 | []=>.refl _
 | x::l=>by
  have ins:∀ (x:Int) (l:List Int),(zi9 x l).Perm (x::l):=by
   intro x l
   induction l with
   | nil=>exact .refl _
   | cons y r ih=>
    unfold zi9;cases decide (x≤y)
    ·exact (ih.cons y).trans (.swap x y r)
    ·exact .refl _
  exact (ins x _).trans ((zkm l).cons x)
theorem zv9:∀ l:List Int,(qh l).Pairwise (·≤·)
 | []=>by simp [qh]
 | x::l=>by
  have ins:∀ (x:Int) (l:List Int),l.Pairwise (·≤·)→(zi9 x l).Pairwise (·≤·):=by
   intro x l
   induction l with
   | nil=>intro _; simp [zi9]
   | cons y r ih=>
    intro h;rw [List.pairwise_cons] at h;unfold zi9;by_cases hxy:x≤y
    ·rw [pa hxy];simp only [pw,List.pairwise_cons,List.mem_cons];refine ⟨λ z hz=>?_,h⟩;rcases hz with rfl | hz
     ·exact hxy
     ·exact Int.le_trans hxy (h.1 z hz)
    ·rw [pb hxy];simp only [px,List.pairwise_cons];refine ⟨λ z hz=>?_,ih h.2⟩;have hz:z=x∨z∈r:=by
      have hp:(zi9 x r).Perm (x::r):=by
       clear ih h hz hxy
       induction r with
       | nil=>exact .refl _
       | cons y r ih=>
        unfold zi9;cases decide (x≤y)
        ·exact (ih.cons y).trans (.swap x y r)
        ·exact .refl _
      simpa using hp.mem_iff.1 hz
     rcases hz with rfl | hz
     ·omega
     ·exact h.1 z hz
  exact ins x _ (zv9 l)
theorem zv8(l:List Int):(l.mergeSort λ x y=>decide (x≤y))=qh l:=by
 have h1:(l.mergeSort λ x y=>decide (x≤y)).Pairwise (·≤·):=by
  have:=List.pairwise_mergeSort (le:=λ x y:Int=>decide (x≤y)) (by intro a b c; simp; omega) (by intro a b; simp; omega) l
  exact this.imp λ h=>by simpa using h
 exact ((List.mergeSort_perm l _).trans (zkm l).symm).eq_of_pairwise (λ a b _ _ h1 h2=>by omega) h1 (zv9 l)
theorem zgs:∀ {l:List D} {zs:List Int},zef l=some zs→l=zs.map (.int .i64)
 | [],zs,h=>by cases h; rfl
 | x::r,zs,h=>by
  unfold zef at h;split at h
  ·rename_i he; cases he
  ·rename_i n q he;cases he;split at h
   ·rename_i l hl; cases h; rw [zgs hl]; rfl
   ·cases h
  ·cases h
theorem zyx(hP:cx.P=Tryz.prog){args:List V}{out:Out}{σ':St}(h:zly args σ=some (out,σ')){vs:List Value}(hi:Inv cx w σ μ)(hcan:Canon σ)(hv:RVs w σ μ vs args) :
  ∃ u,out=.ret u∧(∀ k o,zl σ' k=some o→k<σ.length∧∀ i∈o.ids,i<σ.length)∧(∀ i∈u.ids,i<σ.length) ∧
  Calls cx.P 49 vs.toArray w λ e w'=>∃ μ' x,e=.returned x∧After cx w σ μ w' σ' μ'∧RV w' σ' μ' x u:=by
 unfold zly at h;split at h
 case h_2=>cases h
 rename_i id k;split at h
 case h_2=>cases h
 rename_i l ho;obtain ⟨hc,h1⟩:=zf h;clear h;obtain ⟨zs,hz,h⟩:=zd h1;clear h1;cases h;simp only [pm,decide_eq_true_eq,Bool.not_eq_true'] at hc;obtain ⟨⟨hk,hle⟩,hne⟩:=hc;obtain rfl:=pj hk;have hl:=zgs hz;have hlen:l.length=zs.length:=by rw [hl]; simp
 have hpos:0<l.length:=by cases l with | nil=>simp at hne | cons=>simp
 refine ⟨_,rfl,λ j o hj=>?_,by simp [V.ids,V.idsL],?_⟩
 ·rw [zx] at hj;by_cases h:id=j
  ·subst h;rw [if_pos rfl] at hj;cases hj;exact ⟨(hcan id _ ho).1,by simp [Ob.ids]⟩
  ·rw [if_neg h] at hj;exact hcan j o hj
 obtain ⟨v,rfl⟩:∃ v,vs=[v]:=List.length_eq_one_iff.1 (by simpa using hv.1)
 have hv0:=hv.2 0 v _ rfl rfl;cases hv0 with | slo _ _ _ cap base l' hl' hkl hcap hn hat=>?_
 rw [ho] at hl'; cases hl';rcases hat rfl with ⟨_,_,hc0⟩ | ⟨b,rfl,hb,hf,hend⟩
 ·omega
 obtain ⟨cs,el,hh,hcs,h2,h3,h4,h5⟩:=hi.ob id _ ho b hb;rw [hf] at h2 h4 h5;have hget:∀ (j:Nat) z,zs[j]?=some z→cs[j]?=some (.int .i64 z):=λ j z hj=>by
  have hlj:l[j]?=some (.int .i64 z):=by rw [hl,List.getElem?_map,hj]; rfl
  obtain ⟨v,hv,hvc⟩:=h5 j 0 _ (.int .i64 z) hlj rfl;cases hvc;simpa using hv
 have hH:Holds (Value.int .i64) w b 0 zs.toArray:=λ j hj=>by
  have hj':j<zs.length:=by simpa using hj
  refine ⟨?_,?_⟩
  ·rw [cell_of_heap hh,Nat.zero_add,hget j zs[j] (p4 hj')];rw [getElem!_pos zs.toArray j hj];simp
  ·simp [World.frozen?,hh]
 rw [hP,show ([Value.slice (some ⟨b,0,none⟩) l.length cap]).toArray = #[.slice (some ⟨b,0,none⟩) zs.length cap] by rw [hlen]]
 refine (Tryz.slices_Sort_int b 0 cap zs w hH (lt_of_heap hh) (by omega)).mono ?_
 rintro e w' ⟨rfl,n,os,hw'⟩;rw [zv8] at hw';have hsl:(qh zs).length=zs.length:=(zkm zs).length_eq;have hlt:=lt_of_heap hh;have hother:∀ b',b' ≠ b→b'<w.heap.size→w'.heap[b']?=w.heap[b']?:=λ b' hb' hlt'=>by
  rw [hw',heap_grow_old _ _ (by simpa [putRow,mapBlock,Sort.ahead] using hlt')]
  simp [putRow,mapBlock,Sort.ahead,Array.getElem?_modify,Ne.symm hb']
 have hnew:w'.heap[b]?=some (.cells (putCells (Value.int .i64) 0 (qh zs).toArray cs) el (0,0)):=by
  rw [hw',heap_grow_old _ _ (by simpa [putRow,mapBlock,Sort.ahead] using hlt)]
  simp [putRow,mapBlock,Sort.ahead,Array.getElem?_modify,hh,onCells]
 have hsize:w.heap.size≤w'.heap.size:=by rw [hw']; simp [grow,putRow,mapBlock,Sort.ahead]
 have hup:Upd cx w σ μ w' (qt σ id (.row ((qh zs).map (.int .i64)))) μ [id]:={
  os:=by rw [hw']; rfl,output:=by rw [hw']; rfl,size:=hsize,
  blk:=λ b' hb' hno=>hother b' (λ e=>hno id (by simp) _ ho 0 (by rw [e]; exact hb)) hb',
  cell:=λ b' i x hno hc=>by
   have hne:b' ≠ b:=λ e=>hno id (by simp) _ ho (by rw [e]; exact hb)
   have:=hother b' hne (lt_of_cell hc);unfold World.cell? at hc ⊢;simp only at hc ⊢;rw [this]; exact hc,
  fr:=rfl,same:=λ j hj=>⟨by rw [zx,if_neg (Ne.symm (by simpa using hj))],rfl⟩,
  own:=λ j hj q hq b' i hown _=>by
   simp at hj; subst hj;rw [zx,if_pos rfl] at hq; cases hq;exact ⟨_,ho,hown⟩,
  still:=λ j hj q hq=>by
   simp at hj; subst hj;rw [ho] at hq; cases hq;rw [zx,if_pos rfl];exact ⟨by simp [hsl,hlen],λ _=>rfl⟩,
  apart:=λ j hj j' hj' _ _ _ _ _ _ _ _ _=>by simp at hj hj'; rw [hj,hj'] }
 refine ⟨μ,_,rfl,hup.after hi λ j hj o' ho'=>?_,.tup #[] [] rfl (by simp)⟩
 simp at hj; subst hj;rw [zx,if_pos rfl] at ho'; cases ho';refine zag.of hb hnew (by simp [putCells,hcs]) (by rw [hf]; simp [putCells,hsl]; omega) (λ x hx=>?_) (λ y hy=>?_) λ k c hk=>?_
 ·simp only [putCells,Array.toList_mapIdx,List.mem_mapIdx] at hx;obtain ⟨i,hi',hx⟩:=hx;rw [←hx];split
  ·rfl
  ·exact h3 _ (List.getElem_mem _)
 ·rw [hf];obtain ⟨z,_,rfl⟩:=List.mem_map.1 hy;rfl
 ·have hfl:y6 ((qh zs).map (.int .i64))=(qh zs).map (.int .i64):=by
   unfold y6;generalize qh zs=q
   induction q with
   | nil=>rfl
   | cons a q ih=>simp only [List.map_cons,List.flatMap_cons,ih]; rfl
  rw [hfl,List.getElem?_map,Option.map_eq_some_iff] at hk;obtain ⟨z,hz',rfl⟩:=hk;have hklt:=(pn.1 hz').1;refine ⟨.int .i64 z,?_,.int _ _⟩;have hkc:k<cs.size:=by omega
  simp only [putCells,Array.getElem?_mapIdx,Array.getElem?_eq_getElem hkc,Option.map_some];rw [if_pos ⟨Nat.zero_le _,by simpa using hklt⟩]
  rw [getElem!_pos _ _ (by simpa using hklt)]
  have:(qh zs)[k]=z:=(pn.1 hz').2;simp [this]
theorem zpd{n:Nat}{l:List (List UInt8)}{v:Value}(hi:Inv cx w σ μ)(h:w'.ownsRow w.heap.size 9 1 v n (l.map λ s=>Value.string (wg s)))(hn:l.length=n)(haf:After cx w σ μ w' σ μ):RD w' (z8 σ μ) v (.sl 1 (l.map .str)):=by
 obtain ⟨hlen,h⟩:=h;rcases h with ⟨rfl,h0⟩ | ⟨g,cap,cur,rfl,hg,hh,hcap,_,hsize,htake⟩
 ·have:l=[]:=List.eq_nil_of_length_eq_zero (by omega)
  subst this;exact .sl0 _ _ _
 ·have hfree:∀ i,¬ z8 σ μ g i:=λ i ho=>by
   rcases ho with hf | ⟨id,o,ho,hown⟩
   ·exact absurd (hi.frLt _ _ hf) (by omega)
   ·exact absurd (zf3 hi ho hown) (by omega)
  refine RD.ofRow (cs:=cur) hh (by simp [hn]) hcap (λ y hy=>by obtain ⟨s,_,rfl⟩:=List.mem_map.1 hy; rfl) (λ k c hk=>?_) λ k _=>by rw [Nat.zero_add]; exact hfree k
  have hfl:y6 (l.map .str)=l.map .str:=by
   unfold y6;clear hlen htake hn hk
   induction l with
   | nil=>rfl
   | cons a q ih=>simp only [List.map_cons,List.flatMap_cons,ih]; rfl
  rw [hfl,List.getElem?_map,Option.map_eq_some_iff] at hk;obtain ⟨s,hs,rfl⟩:=hk;have hklt:=(pn.1 hs).1;have:(cur.toList.take (n * 1))[k]?=some (.string (wg s)):=by rw [htake,List.getElem?_map,hs]; rfl
  rw [List.getElem?_take,if_pos (by omega)] at this
  exact ⟨_,by simpa using this,.str s,rfl⟩
theorem zwo(hP:cx.P=Tryz.prog){args:List V}{out:Out}{σ':St}(h:zi5 args σ=some (out,σ')){vs:List Value}(hi:Inv cx w σ μ)(hcan:Canon σ)(hv:RVs w σ μ vs args) :
  ∃ u,out=.ret u∧(∀ k o,zl σ' k=some o→k<σ.length∧∀ i∈o.ids,i<σ.length)∧(∀ i∈u.ids,i<σ.length) ∧
  Calls cx.P 99 vs.toArray w λ e w'=>∃ μ' x,e=.returned x∧After cx w σ μ w' σ' μ'∧RV w' σ' μ' x u:=by
 unfold zi5 at h;split at h
 case h_2=>cases h
 rename_i xs;obtain ⟨hc,h1⟩:=zf h;clear h;obtain ⟨l,hl,h⟩:=zd h1;clear h1;cases h;have hc:=pc hc;have hxs:=zmn xs l hl;subst hxs;rw [ph] at hc;refine ⟨_,rfl,hcan,by simp [V.ids],?_⟩
 obtain ⟨v,rfl⟩:∃ v,vs=[v]:=List.length_eq_one_iff.1 (by simpa using hv.1)
 have hv0:=hv.2 0 v _ rfl rfl;cases hv0 with | d _ _ hd=>?_
 rw [hP];have e0:∀ zs:List (List UInt8),(zs.map wg).map (Value.string)=zs.map λ s=>Value.string (wg s):=λ zs=>by rw [List.map_map]; rfl
 by_cases hne:l=[]
 ·subst hne;obtain ⟨base,cap,rfl⟩:=hd.slice_inv;cases base with
  | none=>
   refine (Tryz.slices_Clone_string_nil 0 cap w).mono ?_;rintro e w' ⟨rfl,rfl⟩;exact ⟨μ,_,rfl,After.refl hi,.d _ _ (.sl0 _ _ _)⟩
  | some a=>
   refine (Tryz.slices_Clone_string_zero a cap w).mono ?_;rintro e w' ⟨v',rfl,ho,_,hb⟩;have haf:=zjh hi hb;exact ⟨μ,_,rfl,haf,.d _ _ (zpd (l:=[]) hi ho rfl haf)⟩
 ·generalize hnl:(l.map D.str)=q at hd;cases hd with
  | sl0=>exact absurd (by simpa using hnl) hne
  | sl b o n cap _ _ ys hn hcap hsz hcell hels=>
   subst hnl;have hn:n=l.length:=by simpa using hn
   subst hn;have hj:=Tryz.slices_Clone_string b o l.length cap (l.map wg) w (by simp) (by omega) (λ j hj=>by
    have hj':j<l.length:=by simpa using hj
    have g1:=(hcell j (by omega)).1
    have hlx:(l.map D.str)[j]?=some (.str l[j]):=by rw [List.getElem?_map,p4 hj']; rfl
    have g2:=hels j 0 (.str l[j]) (.str l[j]) hlx rfl;simp only [Nat.mul_one,Nat.add_zero] at g2;generalize ys j=z at g1 g2;cases g2;rw [g1];simp [List.getD_eq_getElem?_getD,hj'])
   refine hj.mono ?_;rintro e w' ⟨v',rfl,ho,_,hb⟩;have haf:=zjh hi hb;rw [List.take_of_length_le (by simp),e0] at ho
   exact ⟨μ,_,rfl,haf,.d _ _ (zpd hi ho rfl haf)⟩
theorem z8n(hP : cx.P = Tryz.prog)(hg : ∀ g e, cx.grow g = some e → g = 165 ∧ e = 9) : z7r cx := by
  intro g e h n w h0 h1;obtain ⟨rfl, rfl⟩ := hg g e h;refine ⟨⟨_, by rw [hP]; exact Tryz.func165, by kernel_rfl⟩, ?_⟩
  obtain ⟨m, rfl⟩ : ∃ m : Nat, n = (m : Int) := ⟨n.toNat, by omega⟩
  rw [hP];by_cases hm : m = 0
  · subst hm;refine (Any8.slices_Grow_room Tryz.growS none 0 0 0 w (by omega) (by omega) (by omega) (by omega)).mono ?_
    rintro x w' ⟨rfl, rfl⟩;exact ⟨none, 0, rfl, .inl ⟨rfl, rfl, rfl⟩⟩
  · have hi9 : Tryz.prog.info? 9 = Tryz.prog.info? 9 := rfl;obtain ⟨i, hi⟩ : ∃ i, Tryz.prog.info? 9 = some i := by
      cases hq : Tryz.prog.info? 9 with
      | some i => exact ⟨i, rfl⟩
      | none => have : (Tryz.prog.info? 9).isSome = true := by kernel_rfl
                rw [hq] at this; cases this
    have hs : (Tryz.prog.info? 9).map (λ i => (i.zero.isSome, i.size, i.bytes)) = some (true, 1, 16) := by kernel_rfl
    rw [hi] at hs;simp only [Option.map_some, Option.some.injEq, Prod.mk.injEq] at hs;obtain ⟨hz, hsz, hby⟩ := hs;obtain ⟨z, hz⟩ := Option.isSome_iff_exists.1 hz;have hzc : z.cells.size = 1 := by
      have : (Tryz.prog.info? 9).bind (λ i => i.zero.map λ z => z.cells.size) = some 1 := by kernel_rfl
      rw [hi] at this;simp only [Option.bind_some, hz, Option.map_some, Option.some.injEq] at this;exact this
    refine (Any8.slices_Grow_grow Tryz.growS i z hi hz (by omega) none 0 0 m [] w (by omega) (by omega) (by rw [hby]; omega) (by omega) (by simp) (λ _ => rfl) (λ a h => by cases h)).mono ?_
    rintro x w' ⟨rfl, rfl⟩;refine ⟨_, _, rfl, .inr ⟨_, _, rfl, rfl, ?_⟩⟩;have hc1 : Tryz.prog.cellsOf 9 = 1 := by kernel_rfl
    have hge := grownCap_ge w (0 + m) 0 9;simp only [Array.size_append, qj, hzc, hc1];show ([] : List Value).toArray.size + (0 + m - 0) * 1 + (_ - (0 + m)) * 1 = _ * 1;simp only [List.size_toArray, pz];have hge : 0 + m ≤ grownCap w (0 + m) 0 (Tryz.growS_ren.t 25) := hge;omega
theorem zop{f g : Nat}{out : Out}{σ' : St}{vs : List Value}(hfg : f = g)(hfn : ∃ fn, cx.P.funcs[g]? = some fn ∧ fn.body.isNone = false) : (∃ u, out = .ret u ∧ (∀ k o, zl σ' k = some o → k < σ.length ∧ ∀ i ∈ o.ids, i < σ.length) ∧ (∀ i ∈ u.ids, i < σ.length) ∧
      Calls cx.P g vs.toArray w λ e w' => ∃ μ' x, e = .returned x ∧ After cx w σ μ w' σ' μ' ∧ RV w' σ' μ' x u) →
    (∃ fn, cx.P.funcs[f]? = some fn ∧ fn.body.isNone = false) ∧ (∀ k o, zl σ' k = some o → k < σ.length ∧ ∀ i ∈ o.ids, i < σ.length) ∧ (∀ i ∈ (match out with | .ret v => v.ids | .pan v => v.ids), i < σ.length) ∧
    Calls cx.P f vs.toArray w λ e w' => ∃ μ', After cx w σ μ w' σ' μ' ∧
      match out, e with
      | .ret v, .returned x => RV w' σ' μ' x v
      | .pan v, .panicked chain => ∃ x, chain = [{ v := x, recovered := false }] ∧ RV w' σ' μ' x v
      | _, _ => False := by
  intro h;subst hfg;obtain ⟨u, rfl, h1, h2, h3⟩ := h;refine ⟨hfn, h1, h2, h3.mono ?_⟩;rintro e w' ⟨μ', x, rfl, ha, hr⟩;exact ⟨μ', ha, hr⟩
theorem nat_ok(hP:cx.P=Tryz.prog)(hg:∀ g e,cx.grow g=some e→g=165∧e=9):za5 cx nat:=by
 refine ⟨z8n hP hg,?_⟩;intro f args σ out σ' h w μ vs hi hcan hids hall hv;unfold nat at h;cases h1:Nat.beq f 164 <;> rw [h1] at h
 ·rw [px] at h;cases h2:Nat.beq f 192 <;> rw [h2] at h
  ·rw [px] at h;cases h3:Nat.beq f 49 <;> rw [h3] at h
   ·rw [px] at h;cases h4:Nat.beq f 99 <;> rw [h4] at h
    ·cases h
    ·exact zop (pj h4) ⟨_,by rw [hP]; exact Tryz.func99,by kernel_rfl⟩ (zwo hP h hi hcan hv)
   ·exact zop (pj h3) ⟨_,by rw [hP]; exact Tryz.func49,by kernel_rfl⟩ (zyx hP h hi hcan hv)
  ·exact zop (pj h2) ⟨_,by rw [hP]; exact Tryz.func192,by kernel_rfl⟩ (zyy hP h hi hcan hv)
 ·exact zop (pj h1) ⟨_,by rw [hP]; exact Tryz.func164,by kernel_rfl⟩ (z2k hP h hi hcan hv)
end
end Go.Vai
end

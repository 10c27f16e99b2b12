/-
  Show: how long texts are; the reference's join. To: The library's contracts that are leaned on, at this program: strings.Builder's String, strings.Join, slices.Sort, slices.Clone, slices.Grow.
-/
import Derived.Test.YtmolcgfhgdhgoaaGreatDoorSliPart3
import Derived.Shelf.Spec.SlicesGrow
import Derived.Shelf.Strings.Builder1
import Derived.Shelf.Strings.Builder2
import Derived.Shelf.Strings.OnBuilder
import Derived.Shelf.Strings.BuilderF
import Derived.Shelf.Strings.BuilderK
import Derived.Shelf.Strings.Builder2Cap
import Derived.Shelf.Sort.Plain
import Derived.Shelf.Slices.Clone
import Derived.Test.YtmolcgfhgdhgoaaGreatDoorProg
set_option linter.all false
noncomputable section
namespace Go.Vai
open Go.Proofs
def Sp.lens:List (List UInt8)→Nat | []=>0 | x::l=>x.length+1+Sp.lens l
mutual
def yt:T→Nat
 | .mk _ nm kids nms _=>1+nm.length+Sp.lens nms+Sp.bulks kids
def Sp.bulks:List T→Nat
 | []=>0
 | t::l=>yt t+Sp.bulks l
end
theorem zdn{t:T}:∀ {l:List T},t∈l→yt t≤Sp.bulks l
 | u::l,h=>by
  simp only [Sp.bulks];cases h with
  | head=>omega
  | tail _ h=>have:=zdn h; omega
theorem zjz(b:Bool)(s:List UInt8):(zw b s).length≤s.length+2:=by rw [zhf]; cases b <;> simp
theorem zyk:∀ (l:List (List UInt8)) (i:Nat),(Sp.at l i).length≤Sp.lens l
 | [],i=>by simp [Sp.at,Sp.lens]
 | x::l,0=>by simp [Sp.at,Sp.lens]; omega
 | x::l,i+1=>by have:=zyk l i; simp [Sp.at,Sp.lens] at this ⊢; omega
theorem zr1(sep:List UInt8):zu [] sep=[]:=by simp [zu,Lib.join,List.intercalate]
theorem zl9(x sep:List UInt8):zu [x] sep=x:=by simp [zu,Lib.join,List.intercalate]
theorem zjo(x y sep:List UInt8)(l:List (List UInt8)):zu (x::y::l) sep=x++sep++zu (y::l) sep:=by simp [zu,Lib.join,List.intercalate,List.intersperse]
theorem zr2:∀ (l:List (List UInt8)),(zu l [32]).length≤Sp.lens l
 | []=>by simp [zr1]
 | [x]=>by simp [zl9,Sp.lens]
 | x::y::l=>by
  have:=zr2 (y::l);rw [zjo,Sp.lens];simp only [pe,List.length_cons,List.length_nil];omega
mutual
theorem zk2:∀ t:T,(xc t).length+2≤12 * yt t
 | .mk k nm kids nms pl=>by
  have h2:=z4b kids;simp only [xc,yt];cases decide (k=16)
  ·cases decide (k=15)
   ·cases decide (k=14)
    ·simp only [cond_false]; omega
    ·have:=h2 0 1;simp only [cond_true,cond_false,pe,List.length_cons,List.length_nil]; omega
   ·have:=h2 1 2;simp only [cond_true,cond_false,pe,List.length_cons,List.length_nil]; omega
  ·have:=h2 2 2;simp only [cond_true,pe,List.length_cons,List.length_nil]; omega
theorem z4b:∀ (l:List T) (a b:Int),(Sp.at (zdb l a) 0).length+(Sp.at (zdb l b) 1).length≤12 * Sp.bulks l
 | [],a,b=>by simp [zdb,Sp.at,Sp.bulks]
 | [t],a,b=>by
  have:=zk2 t;have:=zjz (decide (xa t.k<a)) (xc t);simp [zdb,Sp.at,Sp.bulks]; omega
 | t::u::l,a,b=>by
  have:=zk2 t;have:=zk2 u;have:=zjz (decide (xa t.k<a)) (xc t);have:=zjz (decide (xa u.k<b)) (xc u);simp [zdb,Sp.at,Sp.bulks]; omega
end
theorem z98(t:T)(a:Int):(wx t a).length≤12 * yt t:=by
 have:=zk2 t;have:=zjz (decide (xa t.k<a)) (xc t);unfold wx; omega
theorem z6v(t:T):(qh t).length≤12 * yt t:=by
 obtain ⟨k,nm,kids,nms,pl⟩:=t;have:=zyk nms 0;simp only [qh,zkr,zgs,yt,pe,List.length_cons,List.length_nil];omega
theorem zv5:∀ l:List T,((l.map qh).flatten).length≤12 * Sp.bulks l
 | []=>by simp
 | t::l=>by
  have:=z6v t;have:=zv5 l;simp only [List.map_cons,List.flatten_cons,pe,Sp.bulks]; omega
theorem zsd(t:T):(zey t).length≤12 * yt t:=by
 obtain ⟨k,nm,kids,nms,pl⟩:=t;have:=zv5 kids;simp only [zey,zac,yt,pe];cases kids.isEmpty <;> simp only [cond_true,cond_false,List.length_cons,List.length_nil] <;> omega
mutual
theorem zwn:∀ t:T,(Sp.bare t).length+2≤12 * yt t
 | .mk k nm kids nms pl=>by
  have h2:=zww kids;have hj:=zr2 nms;have ha:=zyk nms 0;have hb:=zpy kids;simp only [Sp.bare,yt];cases decide (k=1)
  rotate_left
  ·simp only [cond_true]; omega
  cases decide (k=2)
  rotate_left
  ·have:=h2 0 0; simp only [cond_true,cond_false,pe,List.length_cons,List.length_nil]; omega
  cases decide (k=3)
  rotate_left
  ·have:=h2 0 0; simp only [cond_true,cond_false,pe,List.length_cons,List.length_nil]; omega
  have h4:((bif decide (nms.length=1) then [40]++Sp.at nms 0++[32,58,32]++Sp.at (Sp.texts kids 0) 0++[41] else zw (w7 kids) (Sp.at (Sp.texts kids 1) 0))++[32,45,62,32]++Sp.at (Sp.texts kids 0) 1).length≤9+Sp.lens nms+12 * Sp.bulks kids:=by
   have:=zjz (w7 kids) (Sp.at (Sp.texts kids 1) 0);have:=h2 0 0;have:=h2 1 0;cases decide (nms.length=1) <;> simp only [cond_true,cond_false,pe,List.length_cons,List.length_nil] <;> omega
  have h5:((bif decide (nms.length=1) then [40]++Sp.at nms 0++[32,58,32]++Sp.at (Sp.texts kids 0) 0++[41] else zw (w7 kids) (Sp.at (Sp.texts kids 1) 0))++[32,42,32]++Sp.at (Sp.texts kids 0) 1).length≤9+Sp.lens nms+12 * Sp.bulks kids:=by
   have:=zjz (w7 kids) (Sp.at (Sp.texts kids 1) 0);have:=h2 0 0;have:=h2 1 0;cases decide (nms.length=1) <;> simp only [cond_true,cond_false,pe,List.length_cons,List.length_nil] <;> omega
  cases decide (k=4)
  rotate_left
  ·simp only [cond_true,cond_false]; omega
  cases decide (k=5)
  rotate_left
  ·simp only [cond_true,cond_false]; omega
  cases decide (k=6)
  rotate_left
  ·have:=h2 1 2; simp only [cond_true,cond_false,pe,List.length_cons,List.length_nil]; omega
  cases decide (k=7)
  rotate_left
  ·have:=h2 1 1;simp only [cond_true,cond_false];rcases kids with _ | ⟨a,_ | ⟨b,l⟩⟩
   ·simp [Sp.texts,Sp.at]; omega
   ·simp only [pe,List.length_cons,List.length_nil] at this ⊢; omega
   ·have h8:=z98 b 2;have h9:=zcw a 1;have e:Sp.at (Sp.texts (a::b::l) 1) 0=zw (decide (yp a.k<1)) (Sp.bare a):=rfl;simp only [pe,List.length_cons,List.length_nil,Sp.bulks,e];omega
  cases decide (k=8)
  rotate_left
  ·have:=h2 0 0; simp only [cond_true,cond_false,pe,List.length_cons,List.length_nil]; omega
  cases decide (k=9)
  rotate_left
  ·have:=h2 0 0; simp only [cond_true,cond_false,pe,List.length_cons,List.length_nil]; omega
  simp only [cond_false,pe,List.length_cons,List.length_nil];have:=hb true;omega
theorem zcw:∀ (t:T) (a:Int),(zw (decide (yp t.k<a)) (Sp.bare t)).length≤12 * yt t
 | t,a=>by
  have:=zwn t;have:=zjz (decide (yp t.k<a)) (Sp.bare t);omega
theorem zww:∀ (l:List T) (a b:Int),(Sp.at (Sp.texts l a) 0).length+(Sp.at (Sp.texts l b) 1).length≤12 * Sp.bulks l
 | [],a,b=>by simp [Sp.texts,Sp.at,Sp.bulks]
 | [t],a,b=>by
  have:=zcw t a;simp [Sp.texts,Sp.at,Sp.bulks]; omega
 | t::u::l,a,b=>by
  have:=zcw t a;have:=zcw u b;simp [Sp.texts,Sp.at,Sp.bulks]; omega
theorem zty:∀ t:T,(qi t).length+2≤12 * yt t
 | .mk k nm [] nms pl=>by simp [qi,yt]; omega
 | .mk k nm [f] nms pl=>by
  have:=zsd f;simp [qi,yt,Sp.bulks]; omega
 | .mk k nm (f::u::l) nms pl=>by
  have:=zsd f;have h1:=zcw u 0;have e:Sp.at (Sp.texts (f::u::l) 0) 1=zw (decide (yp u.k<0)) (Sp.bare u):=rfl;simp only [qi,e,yt,Sp.bulks];cases decide ((f::u::l).length=2) <;> simp only [cond_true,cond_false,pe,List.length_cons,List.length_nil] <;> omega
theorem zpy:∀ (l:List T) (b:Bool),(zaw b l).length≤12 * Sp.bulks l
 | [],b=>by simp [zaw]
 | t::l,b=>by
  have:=zty t;have:=zpy l false;simp only [zaw,Sp.bulks];cases b <;> simp only [cond_true,cond_false,pe,List.length_cons,List.length_nil] <;> omega
end
theorem zj8(t:T)(a:Int):(Sp.text t a).length≤12 * yt t:=zcw t a
theorem g77(n:Nat)(l:List (List UInt8))(b:List UInt8):zl cx (CK.plain zn) n 167 [.d (.sl 1 (l.map .str)),.d (.str b)] []=LP cx (CK.plain zn) n 167 0 3 n [(0,V.d (D.sl 1 (List.map D.str l))),(1,V.d (D.str b)),(5,V.d (D.str [])),(6,V.d (D.int .i64 (0:Int)))] [] (AK cx (CK.plain zn) n 167 0 3 (EK cx 167 0)):=by kernel_rfl
theorem l77(n k:Nat)(l:List (List UInt8))(b s:List UInt8)(i:Int):LP cx (CK.plain zn) n 167 0 3 (k+1) [(0,V.d (D.sl 1 (List.map D.str l))),(1,V.d (D.str b)),(5,V.d (D.str s)),(6,V.d (D.int .i64 i))] [] (AK cx (CK.plain zn) n 167 0 3 (EK cx 167 0))=bif decide (i<(↑(List.map D.str l).length:Int)) then bif decide ((0:Int)<i) then zb (decide (s.length+b.length≤4611686018427387904)) (zb (decide (0≤i)&&decide (i<(↑(List.map D.str l).length:Int))) (za (List.map D.str l) i.toNat λ y=>za y.cells 0 λ c=>match c with
 | D.str s_1=>zb (decide ((s++b).length+s_1.length≤4611686018427387904)) (LP cx (CK.plain zn) n 167 0 3 k [(0,V.d (D.sl 1 (List.map D.str l))),(1,V.d (D.str b)),(5,V.d (D.str (s++b++s_1))),(6,V.d (D.int .i64 (IntKind.i64.wrap (i+(1:Int)))))] [] (AK cx (CK.plain zn) n 167 0 3 (EK cx 167 0)))
 | x=>none)) else zb (decide (0≤i)&&decide (i<(↑(List.map D.str l).length:Int))) (za (List.map D.str l) i.toNat λ y=>za y.cells 0 λ c=>match c with
 | D.str s_1=>zb (decide (s.length+s_1.length≤4611686018427387904)) (LP cx (CK.plain zn) n 167 0 3 k [(0,V.d (D.sl 1 (List.map D.str l))),(1,V.d (D.str b)),(5,V.d (D.str (s++s_1))),(6,V.d (D.int .i64 (IntKind.i64.wrap (i+(1:Int)))))] [] (AK cx (CK.plain zn) n 167 0 3 (EK cx 167 0)))
 | x=>none) else some (Out.ret (V.d (D.str s)),[]):=by kernel_rfl
theorem yfp(n:Nat)(k:Int)(nm:List UInt8)(kids:List T)(nms:List (List UInt8))(pl:Int):zl cx (CK.plain zn) n 202 [.d (.agg [.int .i64 k,.str nm,.sl 5 (T.ds kids),.sl 1 (nms.map .str),.int .i64 pl])] []=bif decide (k=(14:Int)) then some (Out.ret (V.d (D.int .i64 (0:Int))),[]) else bif decide (k=(15:Int)) then some (Out.ret (V.d (D.int .i64 (1:Int))),[]) else some (Out.ret (V.d (D.int .i64 (2:Int))),[]):=by kernel_rfl
def qo(b:List UInt8):Bool→List (List UInt8)→List UInt8
 | _,[]=>[]
 | first,x::l=>(bif first then [] else b)++x++qo b false l
theorem zm2(b:List UInt8):∀ (x:List UInt8) (l:List (List UInt8)),qo b false (x::l)=b++zu (x::l) b
 | x,[]=>by simp [qo,zl9]
 | x,y::l=>by rw [qo,zm2 b y l,zjo]; simp
theorem zgw(b:List UInt8):∀ l:List (List UInt8),qo b true l=zu l b
 | []=>by rw [zr1]; rfl
 | [x]=>by simp [qo,zl9]
 | x::y::l=>by rw [qo,zm2,zjo]; simp
theorem z3l{l:List (List UInt8)}{b:List UInt8}(n:Nat)(hl:l.length<4294967296):∀ (r:List (List UInt8)) (j k:Nat) (s:List UInt8),l.drop j=r→j≤l.length→r.length<k→s.length+(qo b (decide (j=0)) r).length≤4611686018427387904 →
  LP cx (CK.plain zn) n 167 0 3 k [(0,V.d (D.sl 1 (List.map D.str l))),(1,V.d (D.str b)),(5,V.d (D.str s)),(6,V.d (D.int .i64 j))] [] (AK cx (CK.plain zn) n 167 0 3 (EK cx 167 0))=some (.ret (mkS (s++qo b (decide (j=0)) r)),[])
 | [],j,k,s,hd,hj,hk,hb=>by
  obtain ⟨k,rfl⟩:∃ i,k=i+1:=⟨k - 1,by omega⟩
  have:l.length≤j:=by simpa using hd
  obtain rfl:j=l.length:=by omega
  rw [l77,pf,yj,cond_false];simp [qo,mkS]
 | x::r,j,k,s,hd,hj,hk,hb=>by
  obtain ⟨k,rfl⟩:∃ i,k=i+1:=⟨k - 1,by omega⟩
  obtain ⟨h1,h2,h3⟩:=zbu hd;rw [l77,pf,z6 h1,yy,xq h1 hl];have e:decide (j+1=0)=false:=pb (by omega)
  have ih:=λ s' hb'=>z3l (l:=l) (b:=b) n hl r (j+1) k s' h3 h1 (by simp at hk; omega) hb'
  rw [e] at ih;rcases j with _ | j
  ·simp only [qo,decide_true,cond_true,List.nil_append,pe] at hb ⊢;simp only [Bool.and_self,zb,cond_true,xx,pm,h2,zc,zca,xo];have f0:decide ((0:Int)<((0:Nat):Int))=false:=rfl;rw [f0,cond_false,pa (by omega),cond_true,ih (s++x) (by rw [pe]; omega),List.append_assoc]
  ·have f0:decide ((0:Int)<((j+1:Nat):Int))=true:=pa (by omega)
   simp only [qo,Nat.succ_ne_zero,decide_false,cond_false,pe] at hb ⊢;rw [f0];simp only [Bool.and_self,zb,cond_true,xx,pm,h2,zc,zca,xo,pe];rw [pa (by omega),pa (by omega),cond_true,cond_true,ih (s++b++x) (by simp only [pe]; omega)]
   simp only [List.append_assoc]
theorem ybl(l:List (List UInt8))(b:List UInt8)(hl:yd l=true)(hb:(zu l b).length≤4611686018427387904):zh cx 167 [.d (.sl 1 (l.map .str)),.d (.str b)] []=some (.ret (mkS (zu l b)),[]):=by
 refine zk zm (N:=l.length+1) ?_;rw [g77];have h:=z3l (b:=b) (l.length+1) (yh hl) l 0 (l.length+1) [] rfl (Nat.zero_le _) (by omega) (by rw [pa rfl,zgw]; simpa using hb)
 rw [pa rfl,zgw] at h;exact h
def z7(t:T):Bool:=decide (yt t≤16777216)
def zcv:List V→Option (D×Int) | [.d x,.d (.int .i64 a)]=>some (x,a) | _=>none
theorem zaf{a:List V}{x:D}{n:Int}(h:zcv a=some (x,n)):a=[.d x,.d (.int .i64 n)]:=by
 unfold zcv at h;split at h
 ·cases h; rfl
 ·cases h
def yex(m:Nat):D×Int→Option (List UInt8) | (x,a)=>zc (zg m x) λ t=>zb (Sp.form t&&z7 t) (some (wx t a))
def z7f:D×Int→Option (List UInt8) | (x,a)=>zc (Sp.toC x) λ t=>zb (Sp.form t&&z7 t) (some (wx t a))
def yey(m:Nat):D×Int→Option (List UInt8) | (x,a)=>zc (zg m x) λ t=>zb (Sp.right t&&z7 t) (some (Sp.text t a))
def yew(m:Nat)(x:D):Option (List UInt8):=zc (zg m x) λ t=>zb (zbx t&&z7 t) (some (zdc t))
def yay:CK R1:=zt 202 vp Sp.toC (λ t=>mkI (xa t.k)) (zt 167 z4o zcq (λ q=>mkS (zu q.1 q.2)) (CK.plain zn))
def K78(m:Nat):CK R1:=zt 168 zcv (yex m) mkS yay
def K43(m:Nat):CK R1:=zt 134 zcv (yey m) mkS yay
def K79(m:Nat):CK R1:=zt 169 vp (yew (m+1)) mkS (zt 168 zcv z7f mkS (K43 m))
theorem z9e(t:T):zh cx 202 [.d t.d] []=some (.ret (mkI (xa t.k)),[]):=by
 obtain ⟨k,nm,kids,nms,pl⟩:=t;refine zk zm (N:=0) ?_;refine (yfp 0 k nm kids nms pl).trans ?_;show _=some (Out.ret (mkI (xa k)),[]);simp only [mkI,xa];cases decide (k=14) <;> cases decide (k=15) <;> rfl
theorem ycy(n m:Nat)(nm:List UInt8)(kids:List T)(nms:List (List UInt8))(pl a:Int):zl cx (K78 m) n 168 [.d (.agg [.int .i64 1,.str nm,.sl 5 (T.ds kids),.sl 1 (nms.map .str),.int .i64 pl]),.d (.int .i64 a)] []=zc (Sp.toC (D.agg [D.int .i64 (1:Int),D.str nm,D.sl 5 (T.ds kids),D.sl 1 (List.map D.str nms),D.int .i64 pl])) λ b=>bif decide (xa b.k<a) then zb (decide ([40].length+nm.length≤4611686018427387904)) (zb (decide ((40::nm).length+[41].length≤4611686018427387904)) (some (Out.ret (V.d (D.str (40::(nm++[41])))),[]))) else some (Out.ret (V.d (D.str nm)),[]):=by kernel_rfl
theorem z9w(n m:Nat)(nm:List UInt8)(kids:List T)(nms:List (List UInt8))(pl a:Int):zl cx (K78 m) n 168 [.d (.agg [.int .i64 14,.str nm,.sl 5 (T.ds kids),.sl 1 (nms.map .str),.int .i64 pl]),.d (.int .i64 a)] []=zb (decide ((0:Int)<(↑(T.ds kids).length:Int))) (za (T.ds kids) (0:Int).toNat λ y=>za y.cells 0 λ c=>za y.cells 1 λ c_1=>za y.cells 2 λ c_2=>za y.cells 3 λ c_3=>za y.cells 4 λ c_4=>zc (zc (zg m (D.agg [c,c_1,c_2,c_3,c_4])) λ t=>zb (Sp.form t&&z7 t) (some (wx t (0:Int)))) λ b=>zb (decide (b.length+[32,92,47,32].length≤4611686018427387904)) (zb (decide ((1:Int)<(↑(T.ds kids).length:Int))) (za (T.ds kids) (1:Int).toNat λ y=>za y.cells 0 λ c=>za y.cells 1 λ c_5=>za y.cells 2 λ c_6=>za y.cells 3 λ c_7=>za y.cells 4 λ c_8=>zc (zc (zg m (D.agg [c,c_5,c_6,c_7,c_8])) λ t=>zb (Sp.form t&&z7 t) (some (wx t (1:Int)))) λ b_1=>zb (decide ((b++[32,92,47,32]).length+b_1.length≤4611686018427387904)) (zc (Sp.toC (D.agg [D.int .i64 (14:Int),D.str nm,D.sl 5 (T.ds kids),D.sl 1 (List.map D.str nms),D.int .i64 pl])) λ b_2=>bif decide (xa b_2.k<a) then zb (decide ([40].length+(b++[32,92,47,32]++b_1).length≤4611686018427387904)) (zb (decide ((40::(b++[32,92,47,32]++b_1)).length+[41].length≤4611686018427387904)) (some (Out.ret (V.d (D.str (40::((b++[32,92,47,32]++b_1)++[41])))),[]))) else some (Out.ret (V.d (D.str (b++[32,92,47,32]++b_1))),[]))))):=by kernel_rfl
theorem z9v(n m:Nat)(nm:List UInt8)(kids:List T)(nms:List (List UInt8))(pl a:Int):zl cx (K78 m) n 168 [.d (.agg [.int .i64 15,.str nm,.sl 5 (T.ds kids),.sl 1 (nms.map .str),.int .i64 pl]),.d (.int .i64 a)] []=zb (decide ((0:Int)<(↑(T.ds kids).length:Int))) (za (T.ds kids) (0:Int).toNat λ y=>za y.cells 0 λ c=>za y.cells 1 λ c_1=>za y.cells 2 λ c_2=>za y.cells 3 λ c_3=>za y.cells 4 λ c_4=>zc (zc (zg m (D.agg [c,c_1,c_2,c_3,c_4])) λ t=>zb (Sp.form t&&z7 t) (some (wx t (1:Int)))) λ b=>zb (decide (b.length+[32,47,92,32].length≤4611686018427387904)) (zb (decide ((1:Int)<(↑(T.ds kids).length:Int))) (za (T.ds kids) (1:Int).toNat λ y=>za y.cells 0 λ c=>za y.cells 1 λ c_5=>za y.cells 2 λ c_6=>za y.cells 3 λ c_7=>za y.cells 4 λ c_8=>zc (zc (zg m (D.agg [c,c_5,c_6,c_7,c_8])) λ t=>zb (Sp.form t&&z7 t) (some (wx t (2:Int)))) λ b_1=>zb (decide ((b++[32,47,92,32]).length+b_1.length≤4611686018427387904)) (zc (Sp.toC (D.agg [D.int .i64 (15:Int),D.str nm,D.sl 5 (T.ds kids),D.sl 1 (List.map D.str nms),D.int .i64 pl])) λ b_2=>bif decide (xa b_2.k<a) then zb (decide ([40].length+(b++[32,47,92,32]++b_1).length≤4611686018427387904)) (zb (decide ((40::(b++[32,47,92,32]++b_1)).length+[41].length≤4611686018427387904)) (some (Out.ret (V.d (D.str (40::((b++[32,47,92,32]++b_1)++[41])))),[]))) else some (Out.ret (V.d (D.str (b++[32,47,92,32]++b_1))),[]))))):=by kernel_rfl
theorem z9u(n m:Nat)(nm:List UInt8)(kids:List T)(nms:List (List UInt8))(pl a:Int):zl cx (K78 m) n 168 [.d (.agg [.int .i64 16,.str nm,.sl 5 (T.ds kids),.sl 1 (nms.map .str),.int .i64 pl]),.d (.int .i64 a)] []=zb (decide ((0:Int)<(↑(T.ds kids).length:Int))) (za (T.ds kids) (0:Int).toNat λ y=>za y.cells 0 λ c=>za y.cells 1 λ c_1=>za y.cells 2 λ c_2=>za y.cells 3 λ c_3=>za y.cells 4 λ c_4=>zc (zc (zg m (D.agg [c,c_1,c_2,c_3,c_4])) λ t=>zb (Sp.form t&&z7 t) (some (wx t (2:Int)))) λ b=>zb (decide ([126].length+b.length≤4611686018427387904)) (zc (Sp.toC (D.agg [D.int .i64 (16:Int),D.str nm,D.sl 5 (T.ds kids),D.sl 1 (List.map D.str nms),D.int .i64 pl])) λ b_1=>bif decide (xa b_1.k<a) then zb (decide ([40].length+(126::b).length≤4611686018427387904)) (zb (decide ((40::126::b).length+[41].length≤4611686018427387904)) (some (Out.ret (V.d (D.str (40::126::(b++[41])))),[]))) else some (Out.ret (V.d (D.str (126::b))),[]))):=by kernel_rfl
theorem z9t(n m:Nat)(nm:List UInt8)(kids:List T)(nms:List (List UInt8))(pl a:Int):zl cx (K78 m) n 168 [.d (.agg [.int .i64 17,.str nm,.sl 5 (T.ds kids),.sl 1 (nms.map .str),.int .i64 pl]),.d (.int .i64 a)] []=zc (Sp.toC (D.agg [D.int .i64 (17:Int),D.str nm,D.sl 5 (T.ds kids),D.sl 1 (List.map D.str nms),D.int .i64 pl])) λ b=>bif decide (xa b.k<a) then zb (decide ([40].length+nm.length≤4611686018427387904)) (zb (decide ((40::nm).length+[41].length≤4611686018427387904)) (some (Out.ret (V.d (D.str (40::(nm++[41])))),[]))) else some (Out.ret (V.d (D.str nm)),[]):=by kernel_rfl
theorem g79(n m:Nat)(k:Int)(nm:List UInt8)(kids:List T)(nms:List (List UInt8))(pl:Int):zl cx (K43 m) n 169 [.d (.agg [.int .i64 k,.str nm,.sl 5 (T.ds kids),.sl 1 (nms.map .str),.int .i64 pl])] []=LP cx (K43 m) n 169 0 3 n [(1,V.ptr 1 0),(3,V.sl 1 [] 3),(4,V.d (D.int .i64 (0:Int)))] [(1,Ob.val 5 (V.d (D.agg [D.int .i64 k,D.str nm,D.sl 5 (T.ds kids),D.sl 1 (List.map D.str nms),D.int .i64 pl]))),(3,Ob.tok 0)] (AK cx (K43 m) n 169 0 3 (EK cx 169 0)):=by kernel_rfl
theorem l79(n m r:Nat)(k:Int)(nm:List UInt8)(kids:List T)(nms:List (List UInt8))(pl i:Int)(ls:List (List UInt8)):LP cx (K43 m) n 169 0 3 (r+1) [(1,V.ptr 1 0),(3,V.sl 1 (ls.map .str) 3),(4,V.d (D.int .i64 i))] [(1,Ob.val 5 (V.d (D.agg [D.int .i64 k,D.str nm,D.sl 5 (T.ds kids),D.sl 1 (List.map D.str nms),D.int .i64 pl]))),(3,Ob.tok ls.length)] (AK cx (K43 m) n 169 0 3 (EK cx 169 0))=bif decide (i<(↑(T.ds kids).length:Int)) then zb (decide (0≤i)&&decide (i<(↑(T.ds kids).length:Int))) (za (T.ds kids) i.toNat λ y=>za y.cells 0 λ c=>za y.cells 1 λ c_1=>za y.cells 2 λ c_2=>za y.cells 3 λ c_3=>za y.cells 4 λ c_4=>LP cx (K43 m) n 169 0 8 n [(1,V.ptr 1 0),(3,V.sl 1 (List.map D.str ls) 3),(4,V.d (D.int .i64 i)),(5,V.ptr 5 0),(6,V.d (D.str [])),(7,V.d (D.int .i64 (0:Int)))] [(1,Ob.val 5 (V.d (D.agg [D.int .i64 k,D.str nm,D.sl 5 (T.ds kids),D.sl 1 (List.map D.str nms),D.int .i64 pl]))),(3,Ob.tok ls.length),(5,Ob.val 5 (V.d (D.agg [c,c_1,c_2,c_3,c_4])))] (AL cx (K43 m) n 169 0 3 8 (inK cx (K43 m) n 169 0 3 r (AK cx (K43 m) n 169 0 3 (EK cx 169 0))))) else zc (zcq (D.sl 1 (List.map D.str ls),[44,32])) λ b=>zb (decide ([91].length+(zu b.fst b.snd).length≤4611686018427387904)) (zb (decide ((91::zu b.fst b.snd).length+[93].length≤4611686018427387904)) (some (Out.ret (V.d (D.str (91::((zu b.fst b.snd)++[93])))),[]))):=by kernel_rfl
theorem i79(n m r q:Nat)(k:Int)(nm:List UInt8)(kids:List T)(nms:List (List UInt8))(pl i j k' pl' k2 pl2:Int)(ls:List (List UInt8))(s nm' nm2:List UInt8)(nms' nms2:List (List UInt8))(r' qs:List T):LP cx (K43 m) n 169 0 8 (q+1) [(1,V.ptr 1 0),(3,V.sl 1 (ls.map .str) 3),(4,V.d (D.int .i64 i)),(5,V.ptr 5 0),(6,V.d (D.str s)),(7,V.d (D.int .i64 j))] [(1,Ob.val 5 (V.d (D.agg [D.int .i64 k,D.str nm,D.sl 5 (T.ds kids),D.sl 1 (List.map D.str nms),D.int .i64 pl]))),(3,Ob.tok ls.length),(5,Ob.val 5 (V.d (D.agg [D.int .i64 k',D.str nm',D.sl 5 (D.agg [D.int .i64 k2,D.str nm2,D.sl 5 (T.ds qs),D.sl 1 (List.map D.str nms2),D.int .i64 pl2]::T.ds r'),D.sl 1 (List.map D.str nms'),D.int .i64 pl'])))] (AL cx (K43 m) n 169 0 3 8 (inK cx (K43 m) n 169 0 3 r (AK cx (K43 m) n 169 0 3 (EK cx 169 0))))=zb (decide ((0:Int)<(↑(D.agg [D.int .i64 k2,D.str nm2,D.sl 5 (T.ds qs),D.sl 1 (List.map D.str nms2),D.int .i64 pl2]::T.ds r').length:Int))) (bif decide (j<(↑(T.ds qs).length:Int)) then zb (decide ((0:Int)<(↑(D.agg [D.int .i64 k2,D.str nm2,D.sl 5 (T.ds qs),D.sl 1 (List.map D.str nms2),D.int .i64 pl2]::T.ds r').length:Int))) (zb (decide (0≤j)&&decide (j<(↑(T.ds qs).length:Int))) (za (T.ds qs) j.toNat λ y=>za y.cells 0 λ c=>za y.cells 1 λ c=>za y.cells 2 λ c_1=>za y.cells 3 λ c_2=>za y.cells 4 λ c_3=>zb (decide (s.length+[40].length≤4611686018427387904)) (match c with
 | D.str s_1=>zb (decide ((s++[40]).length+s_1.length≤4611686018427387904)) (zb (decide ((s++[40]++s_1).length+[61].length≤4611686018427387904)) (match c_2 with
  | D.sl s_2 l=>bif s_2.beq (cx.P.cellsOf 9)||l.isEmpty then zb (decide ((0:Int)<(↑l.length:Int))) (za l (0:Int).toNat λ y=>za y.cells 0 λ c=>match c with
   | D.str s_3=>zb (decide ((s++[40]++s_1++[61]).length+s_3.length≤4611686018427387904)) (zb (decide ((s++[40]++s_1++[61]++s_3).length+[41].length≤4611686018427387904)) (LP cx (K43 m) n 169 0 8 q [(1,V.ptr 1 0),(3,V.sl 1 (List.map D.str ls) 3),(4,V.d (D.int .i64 i)),(5,V.ptr 5 0),(6,V.d (D.str (s++[40]++s_1++[61]++s_3++[41]))),(7,V.d (D.int .i64 (IntKind.i64.wrap (j+(1:Int)))))] [(1,Ob.val 5 (V.d (D.agg [D.int .i64 k,D.str nm,D.sl 5 (T.ds kids),D.sl 1 (List.map D.str nms),D.int .i64 pl]))),(3,Ob.tok ls.length),(5,Ob.val 5 (V.d (D.agg [D.int .i64 k',D.str nm',D.sl 5 (D.agg [D.int .i64 k2,D.str nm2,D.sl 5 (T.ds qs),D.sl 1 (List.map D.str nms2),D.int .i64 pl2]::T.ds r'),D.sl 1 (List.map D.str nms'),D.int .i64 pl'])))] (AL cx (K43 m) n 169 0 3 8 (inK cx (K43 m) n 169 0 3 r (AK cx (K43 m) n 169 0 3 (EK cx 169 0))))))
   | x=>none) else none
  | x=>none))
 | x=>none))) else bif decide (s=[]) then bif decide ((↑(D.agg [D.int .i64 k2,D.str nm2,D.sl 5 (T.ds qs),D.sl 1 (List.map D.str nms2),D.int .i64 pl2]::T.ds r').length:Int)=(2:Int)) then zb (decide ((1:Int)<(↑(D.agg [D.int .i64 k2,D.str nm2,D.sl 5 (T.ds qs),D.sl 1 (List.map D.str nms2),D.int .i64 pl2]::T.ds r').length:Int))) (za (D.agg [D.int .i64 k2,D.str nm2,D.sl 5 (T.ds qs),D.sl 1 (List.map D.str nms2),D.int .i64 pl2]::T.ds r') (1:Int).toNat λ y=>za y.cells 0 λ c=>za y.cells 1 λ c_1=>za y.cells 2 λ c_2=>za y.cells 3 λ c_3=>za y.cells 4 λ c_4=>zc (zc (zg m (D.agg [c,c_1,c_2,c_3,c_4])) λ t=>zb (Sp.right t&&z7 t) (some (Sp.text t (0:Int)))) λ b=>zb (decide ([49,32,45,62,32].length+b.length≤4611686018427387904)) (zb (decide (ls.length=(List.map D.str ls).length)&&decide ((List.map D.str ls).length+[D.str (49::32::45::62::32::b)].length≤4294967296)) (LP cx (K43 m) n 169 0 3 r [(1,V.ptr 1 0),(3,V.sl 1 (List.map D.str ls++[D.str (49::32::45::62::32::b)]) 3),(4,V.d (D.int .i64 (IntKind.i64.wrap (i+(1:Int)))))] [(1,Ob.val 5 (V.d (D.agg [D.int .i64 k,D.str nm,D.sl 5 (T.ds kids),D.sl 1 (List.map D.str nms),D.int .i64 pl]))),(3,Ob.tok ((List.map D.str ls).length+[D.str (49::32::45::62::32::b)].length))] (AK cx (K43 m) n 169 0 3 (EK cx 169 0))))) else zb (decide (ls.length=(List.map D.str ls).length)&&decide ((List.map D.str ls).length+[D.str [49]].length≤4294967296)) (LP cx (K43 m) n 169 0 3 r [(1,V.ptr 1 0),(3,V.sl 1 (List.map D.str ls++[D.str [49]]) 3),(4,V.d (D.int .i64 (IntKind.i64.wrap (i+(1:Int)))))] [(1,Ob.val 5 (V.d (D.agg [D.int .i64 k,D.str nm,D.sl 5 (T.ds kids),D.sl 1 (List.map D.str nms),D.int .i64 pl]))),(3,Ob.tok ((List.map D.str ls).length+[D.str [49]].length))] (AK cx (K43 m) n 169 0 3 (EK cx 169 0))) else bif decide ((↑(D.agg [D.int .i64 k2,D.str nm2,D.sl 5 (T.ds qs),D.sl 1 (List.map D.str nms2),D.int .i64 pl2]::T.ds r').length:Int)=(2:Int)) then zb (decide (s.length+[32,45,62,32].length≤4611686018427387904)) (zb (decide ((1:Int)<(↑(D.agg [D.int .i64 k2,D.str nm2,D.sl 5 (T.ds qs),D.sl 1 (List.map D.str nms2),D.int .i64 pl2]::T.ds r').length:Int))) (za (D.agg [D.int .i64 k2,D.str nm2,D.sl 5 (T.ds qs),D.sl 1 (List.map D.str nms2),D.int .i64 pl2]::T.ds r') (1:Int).toNat λ y=>za y.cells 0 λ c=>za y.cells 1 λ c_1=>za y.cells 2 λ c_2=>za y.cells 3 λ c_3=>za y.cells 4 λ c_4=>zc (zc (zg m (D.agg [c,c_1,c_2,c_3,c_4])) λ t=>zb (Sp.right t&&z7 t) (some (Sp.text t (0:Int)))) λ b=>zb (decide ((s++[32,45,62,32]).length+b.length≤4611686018427387904)) (zb (decide (ls.length=(List.map D.str ls).length)&&decide ((List.map D.str ls).length+[D.str (s++[32,45,62,32]++b)].length≤4294967296)) (LP cx (K43 m) n 169 0 3 r [(1,V.ptr 1 0),(3,V.sl 1 (List.map D.str ls++[D.str (s++[32,45,62,32]++b)]) 3),(4,V.d (D.int .i64 (IntKind.i64.wrap (i+(1:Int)))))] [(1,Ob.val 5 (V.d (D.agg [D.int .i64 k,D.str nm,D.sl 5 (T.ds kids),D.sl 1 (List.map D.str nms),D.int .i64 pl]))),(3,Ob.tok ((List.map D.str ls).length+[D.str (s++[32,45,62,32]++b)].length))] (AK cx (K43 m) n 169 0 3 (EK cx 169 0)))))) else zb (decide (ls.length=(List.map D.str ls).length)&&decide ((List.map D.str ls).length+[D.str s].length≤4294967296)) (LP cx (K43 m) n 169 0 3 r [(1,V.ptr 1 0),(3,V.sl 1 (List.map D.str ls++[D.str s]) 3),(4,V.d (D.int .i64 (IntKind.i64.wrap (i+(1:Int)))))] [(1,Ob.val 5 (V.d (D.agg [D.int .i64 k,D.str nm,D.sl 5 (T.ds kids),D.sl 1 (List.map D.str nms),D.int .i64 pl]))),(3,Ob.tok ((List.map D.str ls).length+[D.str s].length))] (AK cx (K43 m) n 169 0 3 (EK cx 169 0)))):=by kernel_rfl
theorem dle{n:Nat}(h:n≤4611686018427387904):decide (n≤4611686018427387904)=true:=pa h
theorem zqg:knows cx yay.S (zh cx):=by
 have h77:=zj (f:=167) (dec:=z4o) (sp:=zcq) (mk:=λ q=>mkS (zu q.1 q.2)) zm λ a q b hd h hb=>by
  obtain ⟨x,s⟩:=q;unfold z4o at h;split at h
  ·cases h;unfold zcq at hb;split at hb
   ·rename_i l hl;simp only at hl hb;cases hc:decide ((Lib.join l s).length≤140737488355328) <;> rw [hc] at hb
    ·cases hb
    ·cases hb;obtain ⟨rfl,h1,h2⟩:=zkq hl;have:=pc hc;exact ybl l s h1 (by unfold zu; omega)
   ·cases hb
  ·cases h
 exact zj h77 λ a q b hd h hb=>by
  obtain rfl:=xy h;obtain ⟨rfl,h1⟩:=xz hb;exact z9e b
theorem zrx{k:Int}{nm:List UInt8}{kids:List T}{nms:List (List UInt8)}{pl:Int}(h:z7 (.mk k nm kids nms pl)=true):∀ t∈kids,z7 t=true:=by
 intro t ht;have:=zdn ht;have h':=pc h;simp only [yt] at h';exact pa (by omega)
theorem z7q:∀ (m:Nat) (t:T) (a:Int),t.depth≤m→t.ok=true→Sp.form t=true→z7 t=true→zh cx 168 [.d t.d,.d (.int .i64 a)] []=some (.ret (mkS (wx t a)),[])
 | 0,.mk ..,_,h,_,_,_=>by simp [T.depth] at h
 | m+1,.mk k nm kids nms pl,x,hd,ho,hi,hl=>by
  have hK:knows cx (K78 m).S (zh cx):=zj zqg λ a q s _ ha hs=>by
   obtain ⟨y,n⟩:=q;obtain rfl:=zaf ha;obtain ⟨t,ht,hs⟩:=zd hs;obtain ⟨hf,hs⟩:=ze hs;cases hs;obtain ⟨rfl,h1,h2⟩:=y5 ht;rw [ph] at hf;exact z7q m t n h1 h2 hf.1 hf.2
  obtain ⟨h1,h2,h3,h4,h5⟩:=wu ho;have hkd:=vo hd;have hT:∀ t∈kids,zg m t.d=some t:=λ t h=>zad hkd h5 h;have hL:=zrx hl;have hC:Sp.toC (D.agg [D.int .i64 k,D.str nm,D.sl 5 (T.ds kids),D.sl 1 (List.map D.str nms),D.int .i64 pl])=some (.mk k nm kids nms pl):=zhl ho;have hlen:(xc (.mk k nm kids nms pl)).length+2≤51539607552:=by
   have:=zk2 (.mk k nm kids nms pl);simp only [z7,decide_eq_true_eq] at hl;omega
  refine zk hK (N:=0) ?_;have efm:wx (.mk k nm kids nms pl) x=zw (decide (xa k<x)) (xc (.mk k nm kids nms pl)):=rfl;rw [efm];rcases zsa hi with ⟨rfl,hk⟩ | ⟨a,rfl,rfl,ha⟩ | ⟨a,b,rfl,hk,ha,hb⟩
  ·have e:xc (.mk k nm [] nms pl)=nm:=by rcases hk with rfl | rfl <;> simp [xc]
   rw [e] at hlen ⊢;rcases hk with rfl | rfl
   ·refine (ycy 0 m nm [] nms pl x).trans ?_;simp only [hC,zc,zb];show (bif decide (xa 1<x) then _ else _)=some (Out.ret (mkS (zw (decide (xa 1<x)) nm)),[]);generalize decide (xa 1<x)=q;cases q
    ·rfl
    ·simp (disch:=((try simp only [pe,List.length_cons,List.length_nil]); omega)) only [dle,cond_true]
     rfl
   ·refine (z9t 0 m nm [] nms pl x).trans ?_;simp only [hC,zc,zb];show (bif decide (xa 17<x) then _ else _)=some (Out.ret (mkS (zw (decide (xa 17<x)) nm)),[]);generalize decide (xa 17<x)=q;cases q
    ·rfl
    ·simp (disch:=((try simp only [pe,List.length_cons,List.length_nil]); omega)) only [dle,cond_true]
     rfl
  ·have e:xc (.mk 16 nm [a] nms pl)=[126]++wx a 2:=by simp [xc,←zeq [a] 2 0 a rfl]
   rw [e] at hlen ⊢;simp only [pe,List.length_cons,List.length_nil] at hlen;have e0:decide ((0:Int)<((T.ds [a]).length:Int))=true:=by rw [zo]; rfl
   have n0:[a][(0:Int).toNat]?=some a:=rfl;refine (z9u 0 m nm [a] nms pl x).trans ?_;simp only [hC,e0,zz,n0,yb,xo,wz,vc,vb,va,wj,hT a (by simp),zc,zb,cond_true,ha,hL a (by simp),Bool.and_self]
   simp (disch:=((try simp only [pe,List.length_cons,List.length_nil]); omega)) only [dle,cond_true]
   show (bif decide (xa 16<x) then _ else _)=some (Out.ret (mkS (zw (decide (xa 16<x)) _)),[]);generalize decide (xa 16<x)=q;cases q
   ·simp [zw,mkS]
   ·simp (disch:=((try simp only [pe,List.length_cons,List.length_nil]); omega)) only [dle,cond_true]
    simp [zw,mkS]
  ·have e0:decide ((0:Int)<((T.ds [a,b]).length:Int))=true:=by rw [zo]; rfl
   have e1:decide ((1:Int)<((T.ds [a,b]).length:Int))=true:=by rw [zo]; rfl
   have n0:[a,b][(0:Int).toNat]?=some a:=rfl;have n1:[a,b][(1:Int).toNat]?=some b:=rfl;rcases hk with rfl | rfl
   ·have e:xc (.mk 14 nm [a,b] nms pl)=wx a 0++[32,92,47,32]++wx b 1:=by simp [xc,←zeq [a,b] 0 0 a rfl,←zeq [a,b] 1 1 b rfl]
    rw [e] at hlen ⊢;simp only [pe,List.length_cons,List.length_nil] at hlen;refine (z9w 0 m nm [a,b] nms pl x).trans ?_;simp only [hC,e0,e1,zz,n0,n1,yb,xo,wz,vc,vb,va,wj,hT a (by simp),hT b (by simp),zc,zb,cond_true,ha,hb,hL a (by simp),hL b (by simp),Bool.and_self]
    simp (disch:=((try simp only [pe,List.length_cons,List.length_nil]); omega)) only [dle,cond_true]
    show (bif decide (xa 14<x) then _ else _)=some (Out.ret (mkS (zw (decide (xa 14<x)) _)),[]);generalize decide (xa 14<x)=q;cases q
    ·simp [zw,mkS]
    ·simp (disch:=((try simp only [pe,List.length_cons,List.length_nil]); omega)) only [dle,cond_true]
     simp [zw,mkS]
   ·have e:xc (.mk 15 nm [a,b] nms pl)=wx a 1++[32,47,92,32]++wx b 2:=by simp [xc,←zeq [a,b] 1 0 a rfl,←zeq [a,b] 2 1 b rfl]
    rw [e] at hlen ⊢;simp only [pe,List.length_cons,List.length_nil] at hlen;refine (z9v 0 m nm [a,b] nms pl x).trans ?_;simp only [hC,e0,e1,zz,n0,n1,yb,xo,wz,vc,vb,va,wj,hT a (by simp),hT b (by simp),zc,zb,cond_true,ha,hb,hL a (by simp),hL b (by simp),Bool.and_self]
    simp (disch:=((try simp only [pe,List.length_cons,List.length_nil]); omega)) only [dle,cond_true]
    show (bif decide (xa 15<x) then _ else _)=some (Out.ret (mkS (zw (decide (xa 15<x)) _)),[]);generalize decide (xa 15<x)=q;cases q
    ·simp [zw,mkS]
    ·simp (disch:=((try simp only [pe,List.length_cons,List.length_nil]); omega)) only [dle,cond_true]
     simp [zw,mkS]
abbrev O79 (m n r:Nat) (k:Int) (nm:List UInt8) (kids:List T) (nms:List (List UInt8)) (pl:Int) (ls:List (List UInt8)) (i:Int):Option R1:=
 LP cx (K43 m) n 169 0 3 r [(1,V.ptr 1 0),(3,V.sl 1 (ls.map .str) 3),(4,V.d (D.int .i64 i))] [(1,Ob.val 5 (V.d (D.agg [D.int .i64 k,D.str nm,D.sl 5 (T.ds kids),D.sl 1 (List.map D.str nms),D.int .i64 pl]))),(3,Ob.tok ls.length)] (AK cx (K43 m) n 169 0 3 (EK cx 169 0))
theorem zzt{m n r:Nat}{k:Int}{nm:List UInt8}{kids:List T}{nms:List (List UInt8)}{pl i k' pl' k2 pl2:Int}{ls:List (List UInt8)}{nm' nm2:List UInt8}{nms' nms2:List (List UInt8)}{r' qs:List T}
  (hq:∀ t∈qs,qq t=true) (hl:qs.length<4294967296) (hls:ls.length+1≤4294967296) (hr:r'=[]∨∃ u,r'=[u]∧zg m u.d=some u∧Sp.right u=true∧z7 u=true) :
  ∀ (rest:List T) (j q:Nat) (s:List UInt8),qs.drop j=rest→j≤qs.length→rest.length<q→(j=0∧s=[]∨0<j∧s ≠ [])→s.length+((rest.map qh).flatten.length+(qb (T.mk k2 nm2 qs nms2 pl2::r')).length)+1≤4611686018427387904 →
   LP cx (K43 m) n 169 0 8 q [(1,V.ptr 1 0),(3,V.sl 1 (ls.map .str) 3),(4,V.d (D.int .i64 i)),(5,V.ptr 5 0),(6,V.d (D.str s)),(7,V.d (D.int .i64 j))] [(1,Ob.val 5 (V.d (D.agg [D.int .i64 k,D.str nm,D.sl 5 (T.ds kids),D.sl 1 (List.map D.str nms),D.int .i64 pl]))),(3,Ob.tok ls.length),(5,Ob.val 5 (V.d (D.agg [D.int .i64 k',D.str nm',D.sl 5 (D.agg [D.int .i64 k2,D.str nm2,D.sl 5 (T.ds qs),D.sl 1 (List.map D.str nms2),D.int .i64 pl2]::T.ds r'),D.sl 1 (List.map D.str nms'),D.int .i64 pl'])))] (AL cx (K43 m) n 169 0 3 8 (inK cx (K43 m) n 169 0 3 r (AK cx (K43 m) n 169 0 3 (EK cx 169 0)))) =
   O79 m n r k nm kids nms pl (ls++[(bif decide (s++(rest.map qh).flatten=[]) then [49] else s++(rest.map qh).flatten)++qb (T.mk k2 nm2 qs nms2 pl2::r')]) (IntKind.i64.wrap (i+1))
 | [],j,q,s,hd,hj,hk',hs,hb=>by
  obtain ⟨q,rfl⟩:∃ i,q=i+1:=⟨q - 1,by omega⟩
  have:qs.length≤j:=by simpa using hd
  obtain rfl:j=qs.length:=by omega
  have p0:decide ((0:Int)<((D.agg [D.int .i64 k2,D.str nm2,D.sl 5 (T.ds qs),D.sl 1 (List.map D.str nms2),D.int .i64 pl2]::T.ds r').length:Int))=true:=pa (by simp only [List.length_cons]; omega)
  rw [i79,p0,zo,yj];simp only [zb,cond_true,cond_false,List.map_nil,List.flatten_nil,List.append_nil,List.length_nil,Nat.zero_add] at hb ⊢;rcases hr with rfl | ⟨u,rfl,hT,hu,hlu⟩
  ·have e:qb [T.mk k2 nm2 qs nms2 pl2]=[]:=rfl;have p2:decide (((D.agg [D.int .i64 k2,D.str nm2,D.sl 5 (T.ds qs),D.sl 1 (List.map D.str nms2),D.int .i64 pl2]::T.ds []).length:Int)=2)=false:=rfl;have p3:∀ x:List UInt8,(decide (ls.length=(List.map D.str ls).length)&&decide ((List.map D.str ls).length+[D.str x].length≤4294967296))=true:=λ x=>by
    rw [pf,pa rfl,pa (by simpa using hls)]; rfl
   rw [e,p2];simp only [cond_false,p3,cond_true,List.append_nil];cases hs0:decide (s=[]) <;> simp [O79]
  ·have e:qb [T.mk k2 nm2 qs nms2 pl2,u]=[32,45,62,32]++Sp.text u 0:=rfl;have p2:decide (((D.agg [D.int .i64 k2,D.str nm2,D.sl 5 (T.ds qs),D.sl 1 (List.map D.str nms2),D.int .i64 pl2]::T.ds [u]).length:Int)=2)=true:=rfl;have p1:decide ((1:Int)<((D.agg [D.int .i64 k2,D.str nm2,D.sl 5 (T.ds qs),D.sl 1 (List.map D.str nms2),D.int .i64 pl2]::T.ds [u]).length:Int))=true:=rfl;have n1:∀ (K:D→Option R1),za (D.agg [D.int .i64 k2,D.str nm2,D.sl 5 (T.ds qs),D.sl 1 (List.map D.str nms2),D.int .i64 pl2]::T.ds [u]) (1:Int).toNat K=K u.d:=λ K=>rfl;have p3:∀ x:List UInt8,(decide (ls.length=(List.map D.str ls).length)&&decide ((List.map D.str ls).length+[D.str x].length≤4294967296))=true:=λ x=>by
    rw [pf,pa rfl,pa (by simpa using hls)]; rfl
   rw [e] at hb ⊢;simp only [pe,List.length_cons,List.length_nil] at hb;rw [p2,p1];simp only [cond_true,n1,yb,xo,wz,vc,vb,va,wj,hT,zc,hu,hlu,Bool.and_self,p3];simp (disch:=((try simp only [pe,List.length_cons,List.length_nil]); omega)) only [dle,cond_true]
   cases hs0:decide (s=[]) <;> simp [O79]
 | t::rest,j,q,s,hd,hj,hk',hs,hb=>by
  obtain ⟨q,rfl⟩:∃ i,q=i+1:=⟨q - 1,by omega⟩
  obtain ⟨h1,h2,h3⟩:=zbu hd;obtain ⟨nm3,x,pl3,rfl,_,_⟩:=zzz (hq t (po h2));have et:qh (.mk 13 nm3 [] [x] pl3)=[40]++nm3++[61]++x++[41]:=by simp [qh,T.nm,T.nms,Sp.at]
  simp only [List.map_cons,List.flatten_cons,pe] at hb ⊢;have hel:(qh (.mk 13 nm3 [] [x] pl3)).length=nm3.length+x.length+3:=by rw [et]; simp; omega
  have ih:=zzt (n:=n) (r:=r) (k:=k) (nm:=nm) (kids:=kids) (nms:=nms) (pl:=pl) (i:=i) (k':=k') (pl':=pl') (k2:=k2) (pl2:=pl2) (ls:=ls) (nm':=nm') (nm2:=nm2) (nms':=nms') (nms2:=nms2) hq hl hls hr rest (j+1) q (s++qh (.mk 13 nm3 [] [x] pl3)) h3 h1 (by simp at hk'; omega) (.inr ⟨by omega,by rw [et]; simp⟩) (by simp only [pe]; omega)
  rw [List.append_assoc] at ih;rw [←ih];have p0:decide ((0:Int)<((D.agg [D.int .i64 k2,D.str nm2,D.sl 5 (T.ds qs),D.sl 1 (List.map D.str nms2),D.int .i64 pl2]::T.ds r').length:Int))=true:=pa (by simp only [List.length_cons]; omega)
  have nx:[x][(0:Int).toNat]?=some x:=rfl;have ex:decide ((0:Int)<(([x].map D.str).length:Int))=true:=rfl;rw [i79,p0,zo,z6 h1,yy,xq h1 hl];rw [hel] at hb;simp only [cond_true,zb,zc,Bool.and_self,zz,pm,h2,zam,xo,wz,vc,vb,va,zw0,Bool.true_or,ex,xx,nx,zca];simp (disch:=((try simp only [pe,List.length_cons,List.length_nil]); omega)) only [dle,cond_true]
  simp only [et,List.append_assoc]
theorem yda(n m:Nat)(nm:List UInt8)(kids:List T)(nms:List (List UInt8))(pl a:Int):zl cx (K79 m) n 134 [.d (.agg [.int .i64 1,.str nm,.sl 5 (T.ds kids),.sl 1 (nms.map .str),.int .i64 pl]),.d (.int .i64 a)] []=bif decide ((2:Int)<a) then zb (decide ([40].length+nm.length≤4611686018427387904)) (zb (decide ((40::nm).length+[41].length≤4611686018427387904)) (some (Out.ret (V.d (D.str (40::(nm++[41])))),[]))) else some (Out.ret (V.d (D.str nm)),[]):=by kernel_rfl
theorem yc9(n m:Nat)(nm:List UInt8)(kids:List T)(nms:List (List UInt8))(pl a:Int):zl cx (K79 m) n 134 [.d (.agg [.int .i64 2,.str nm,.sl 5 (T.ds kids),.sl 1 (nms.map .str),.int .i64 pl]),.d (.int .i64 a)] []=zc (zcq (D.sl 1 (List.map D.str nms),[32])) λ b=>zb (decide ([92].length+(zu b.fst b.snd).length≤4611686018427387904)) (zb (decide ((92::zu b.fst b.snd).length+[46,32].length≤4611686018427387904)) (zb (decide ((0:Int)<(↑(T.ds kids).length:Int))) (za (T.ds kids) (0:Int).toNat λ y=>za y.cells 0 λ c=>za y.cells 1 λ c_1=>za y.cells 2 λ c_2=>za y.cells 3 λ c_3=>za y.cells 4 λ c_4=>zc (zc (zg m (D.agg [c,c_1,c_2,c_3,c_4])) λ t=>zb (Sp.right t&&z7 t) (some (Sp.text t (0:Int)))) λ b_1=>zb (decide ((92::((zu b.fst b.snd)++[46,32])).length+b_1.length≤4611686018427387904)) (bif decide ((0:Int)<a) then zb (decide ([40].length+(92::((((zu b.fst b.snd)++[46,32]))++b_1)).length≤4611686018427387904)) (zb (decide ((40::92::((((zu b.fst b.snd)++[46,32]))++b_1)).length+[41].length≤4611686018427387904)) (some (Out.ret (V.d (D.str (40::92::((((((zu b.fst b.snd)++[46,32]))++b_1))++[41])))),[]))) else some (Out.ret (V.d (D.str (92::((((zu b.fst b.snd)++[46,32]))++b_1)))),[]))))):=by kernel_rfl
theorem yc8(n m:Nat)(nm:List UInt8)(kids:List T)(nms:List (List UInt8))(pl a:Int):zl cx (K79 m) n 134 [.d (.agg [.int .i64 3,.str nm,.sl 5 (T.ds kids),.sl 1 (nms.map .str),.int .i64 pl]),.d (.int .i64 a)] []=zc (zcq (D.sl 1 (List.map D.str nms),[32])) λ b=>zb (decide ([60].length+(zu b.fst b.snd).length≤4611686018427387904)) (zb (decide ((60::zu b.fst b.snd).length+[62,32].length≤4611686018427387904)) (zb (decide ((0:Int)<(↑(T.ds kids).length:Int))) (za (T.ds kids) (0:Int).toNat λ y=>za y.cells 0 λ c=>za y.cells 1 λ c_1=>za y.cells 2 λ c_2=>za y.cells 3 λ c_3=>za y.cells 4 λ c_4=>zc (zc (zg m (D.agg [c,c_1,c_2,c_3,c_4])) λ t=>zb (Sp.right t&&z7 t) (some (Sp.text t (0:Int)))) λ b_1=>zb (decide ((60::((zu b.fst b.snd)++[62,32])).length+b_1.length≤4611686018427387904)) (bif decide ((0:Int)<a) then zb (decide ([40].length+(60::((((zu b.fst b.snd)++[62,32]))++b_1)).length≤4611686018427387904)) (zb (decide ((40::60::((((zu b.fst b.snd)++[62,32]))++b_1)).length+[41].length≤4611686018427387904)) (some (Out.ret (V.d (D.str (40::60::((((((zu b.fst b.snd)++[62,32]))++b_1))++[41])))),[]))) else some (Out.ret (V.d (D.str (60::((((zu b.fst b.snd)++[62,32]))++b_1)))),[]))))):=by kernel_rfl
theorem yc7(n m:Nat)(nm:List UInt8)(kids:List T)(nms:List (List UInt8))(pl a:Int):zl cx (K79 m) n 134 [.d (.agg [.int .i64 4,.str nm,.sl 5 (T.ds kids),.sl 1 (nms.map .str),.int .i64 pl]),.d (.int .i64 a)] []=zb (decide ((0:Int)<(↑(T.ds kids).length:Int))) (za (T.ds kids) (0:Int).toNat λ y=>za y.cells 0 λ c=>za y.cells 1 λ c_1=>za y.cells 2 λ c_2=>za y.cells 3 λ c_3=>za y.cells 4 λ c_4=>bif decide ((↑(List.map D.str nms).length:Int)=(1:Int)) then zb (decide ((0:Int)<(↑(List.map D.str nms).length:Int))) (za (List.map D.str nms) (0:Int).toNat λ y=>za y.cells 0 λ c_5=>match c_5 with
 | D.str s=>zb (decide ([40].length+s.length≤4611686018427387904)) (zb (decide ((40::s).length+[32,58,32].length≤4611686018427387904)) (zc (zc (zg m (D.agg [c,c_1,c_2,c_3,c_4])) λ t=>zb (Sp.right t&&z7 t) (some (Sp.text t (0:Int)))) λ b=>zb (decide ((40::(s++[32,58,32])).length+b.length≤4611686018427387904)) (zb (decide ((40::(((s++[32,58,32]))++b)).length+[41].length≤4611686018427387904)) (zb (decide ((40::(((((s++[32,58,32]))++b))++[41])).length+[32,45,62,32].length≤4611686018427387904)) (zb (decide ((1:Int)<(↑(T.ds kids).length:Int))) (za (T.ds kids) (1:Int).toNat λ y=>za y.cells 0 λ c=>za y.cells 1 λ c_6=>za y.cells 2 λ c_7=>za y.cells 3 λ c_8=>za y.cells 4 λ c_9=>zc (zc (zg m (D.agg [c,c_6,c_7,c_8,c_9])) λ t=>zb (Sp.right t&&z7 t) (some (Sp.text t (0:Int)))) λ b_1=>zb (decide ((40::(((((((s++[32,58,32]))++b))++[41]))++[32,45,62,32])).length+b_1.length≤4611686018427387904)) (bif decide ((0:Int)<a) then zb (decide ([40].length+(40::(((((((((s++[32,58,32]))++b))++[41]))++[32,45,62,32]))++b_1)).length≤4611686018427387904)) (zb (decide ((40::40::(((((((((s++[32,58,32]))++b))++[41]))++[32,45,62,32]))++b_1)).length+[41].length≤4611686018427387904)) (some (Out.ret (V.d (D.str (40::40::(((((((((((s++[32,58,32]))++b))++[41]))++[32,45,62,32]))++b_1))++[41])))),[]))) else some (Out.ret (V.d (D.str (40::(((((((((s++[32,58,32]))++b))++[41]))++[32,45,62,32]))++b_1)))),[]))))))))
 | x=>none) else match c with
 | D.int k' n=>bif decide (k'=IntKind.i64) then bif decide (n=(9:Int)) then match c_2 with
  | D.sl s l=>bif s.beq (cx.P.cellsOf 26)||l.isEmpty then zb (decide ((0:Int)<(↑l.length:Int))) (za l (0:Int).toNat λ y=>za y.cells 0 λ c_5=>match c_5 with
   | D.int k' n=>bif decide (k'=IntKind.i64) then bif decide (n=(1:Int)) then zc (zc (zg m (D.agg [c,c_1,c_2,c_3,c_4])) λ t=>zb (Sp.right t&&z7 t) (some (Sp.text t (1:Int)))) λ b=>zb (decide ([40].length+b.length≤4611686018427387904)) (zb (decide ((40::b).length+[41].length≤4611686018427387904)) (zb (decide ((40::(b++[41])).length+[32,45,62,32].length≤4611686018427387904)) (zb (decide ((1:Int)<(↑(T.ds kids).length:Int))) (za (T.ds kids) (1:Int).toNat λ y=>za y.cells 0 λ c=>za y.cells 1 λ c_6=>za y.cells 2 λ c_7=>za y.cells 3 λ c_8=>za y.cells 4 λ c_9=>zc (zc (zg m (D.agg [c,c_6,c_7,c_8,c_9])) λ t=>zb (Sp.right t&&z7 t) (some (Sp.text t (0:Int)))) λ b_1=>zb (decide ((40::(((b++[41]))++[32,45,62,32])).length+b_1.length≤4611686018427387904)) (bif decide ((0:Int)<a) then zb (decide ([40].length+(40::(((((b++[41]))++[32,45,62,32]))++b_1)).length≤4611686018427387904)) (zb (decide ((40::40::(((((b++[41]))++[32,45,62,32]))++b_1)).length+[41].length≤4611686018427387904)) (some (Out.ret (V.d (D.str (40::40::(((((((b++[41]))++[32,45,62,32]))++b_1))++[41])))),[]))) else some (Out.ret (V.d (D.str (40::(((((b++[41]))++[32,45,62,32]))++b_1)))),[])))))) else zc (zc (zg m (D.agg [c,c_1,c_2,c_3,c_4])) λ t=>zb (Sp.right t&&z7 t) (some (Sp.text t (1:Int)))) λ b=>zb (decide (b.length+[32,45,62,32].length≤4611686018427387904)) (zb (decide ((1:Int)<(↑(T.ds kids).length:Int))) (za (T.ds kids) (1:Int).toNat λ y=>za y.cells 0 λ c=>za y.cells 1 λ c_6=>za y.cells 2 λ c_7=>za y.cells 3 λ c_8=>za y.cells 4 λ c_9=>zc (zc (zg m (D.agg [c,c_6,c_7,c_8,c_9])) λ t=>zb (Sp.right t&&z7 t) (some (Sp.text t (0:Int)))) λ b_1=>zb (decide ((b++[32,45,62,32]).length+b_1.length≤4611686018427387904)) (bif decide ((0:Int)<a) then zb (decide ([40].length+(b++[32,45,62,32]++b_1).length≤4611686018427387904)) (zb (decide ((40::(b++[32,45,62,32]++b_1)).length+[41].length≤4611686018427387904)) (some (Out.ret (V.d (D.str (40::((b++[32,45,62,32]++b_1)++[41])))),[]))) else some (Out.ret (V.d (D.str (b++[32,45,62,32]++b_1))),[])))) else none
   | x=>none) else none
  | x=>none else zc (zc (zg m (D.agg [c,c_1,c_2,c_3,c_4])) λ t=>zb (Sp.right t&&z7 t) (some (Sp.text t (1:Int)))) λ b=>zb (decide (b.length+[32,45,62,32].length≤4611686018427387904)) (zb (decide ((1:Int)<(↑(T.ds kids).length:Int))) (za (T.ds kids) (1:Int).toNat λ y=>za y.cells 0 λ c=>za y.cells 1 λ c_5=>za y.cells 2 λ c_6=>za y.cells 3 λ c_7=>za y.cells 4 λ c_8=>zc (zc (zg m (D.agg [c,c_5,c_6,c_7,c_8])) λ t=>zb (Sp.right t&&z7 t) (some (Sp.text t (0:Int)))) λ b_1=>zb (decide ((b++[32,45,62,32]).length+b_1.length≤4611686018427387904)) (bif decide ((0:Int)<a) then zb (decide ([40].length+(b++[32,45,62,32]++b_1).length≤4611686018427387904)) (zb (decide ((40::(b++[32,45,62,32]++b_1)).length+[41].length≤4611686018427387904)) (some (Out.ret (V.d (D.str (40::((b++[32,45,62,32]++b_1)++[41])))),[]))) else some (Out.ret (V.d (D.str (b++[32,45,62,32]++b_1))),[])))) else none
 | x=>none):=by kernel_rfl
theorem yc6(n m:Nat)(nm:List UInt8)(kids:List T)(nms:List (List UInt8))(pl a:Int):zl cx (K79 m) n 134 [.d (.agg [.int .i64 5,.str nm,.sl 5 (T.ds kids),.sl 1 (nms.map .str),.int .i64 pl]),.d (.int .i64 a)] []=zb (decide ((0:Int)<(↑(T.ds kids).length:Int))) (za (T.ds kids) (0:Int).toNat λ y=>za y.cells 0 λ c=>za y.cells 1 λ c_1=>za y.cells 2 λ c_2=>za y.cells 3 λ c_3=>za y.cells 4 λ c_4=>bif decide ((↑(List.map D.str nms).length:Int)=(1:Int)) then zb (decide ((0:Int)<(↑(List.map D.str nms).length:Int))) (za (List.map D.str nms) (0:Int).toNat λ y=>za y.cells 0 λ c_5=>match c_5 with
 | D.str s=>zb (decide ([40].length+s.length≤4611686018427387904)) (zb (decide ((40::s).length+[32,58,32].length≤4611686018427387904)) (zc (zc (zg m (D.agg [c,c_1,c_2,c_3,c_4])) λ t=>zb (Sp.right t&&z7 t) (some (Sp.text t (0:Int)))) λ b=>zb (decide ((40::(s++[32,58,32])).length+b.length≤4611686018427387904)) (zb (decide ((40::(((s++[32,58,32]))++b)).length+[41].length≤4611686018427387904)) (zb (decide ((40::(((((s++[32,58,32]))++b))++[41])).length+[32,42,32].length≤4611686018427387904)) (zb (decide ((1:Int)<(↑(T.ds kids).length:Int))) (za (T.ds kids) (1:Int).toNat λ y=>za y.cells 0 λ c=>za y.cells 1 λ c_6=>za y.cells 2 λ c_7=>za y.cells 3 λ c_8=>za y.cells 4 λ c_9=>zc (zc (zg m (D.agg [c,c_6,c_7,c_8,c_9])) λ t=>zb (Sp.right t&&z7 t) (some (Sp.text t (0:Int)))) λ b_1=>zb (decide ((40::(((((((s++[32,58,32]))++b))++[41]))++[32,42,32])).length+b_1.length≤4611686018427387904)) (bif decide ((0:Int)<a) then zb (decide ([40].length+(40::(((((((((s++[32,58,32]))++b))++[41]))++[32,42,32]))++b_1)).length≤4611686018427387904)) (zb (decide ((40::40::(((((((((s++[32,58,32]))++b))++[41]))++[32,42,32]))++b_1)).length+[41].length≤4611686018427387904)) (some (Out.ret (V.d (D.str (40::40::(((((((((((s++[32,58,32]))++b))++[41]))++[32,42,32]))++b_1))++[41])))),[]))) else some (Out.ret (V.d (D.str (40::(((((((((s++[32,58,32]))++b))++[41]))++[32,42,32]))++b_1)))),[]))))))))
 | x=>none) else match c with
 | D.int k' n=>bif decide (k'=IntKind.i64) then bif decide (n=(9:Int)) then match c_2 with
  | D.sl s l=>bif s.beq (cx.P.cellsOf 26)||l.isEmpty then zb (decide ((0:Int)<(↑l.length:Int))) (za l (0:Int).toNat λ y=>za y.cells 0 λ c_5=>match c_5 with
   | D.int k' n=>bif decide (k'=IntKind.i64) then bif decide (n=(1:Int)) then zc (zc (zg m (D.agg [c,c_1,c_2,c_3,c_4])) λ t=>zb (Sp.right t&&z7 t) (some (Sp.text t (1:Int)))) λ b=>zb (decide ([40].length+b.length≤4611686018427387904)) (zb (decide ((40::b).length+[41].length≤4611686018427387904)) (zb (decide ((40::(b++[41])).length+[32,42,32].length≤4611686018427387904)) (zb (decide ((1:Int)<(↑(T.ds kids).length:Int))) (za (T.ds kids) (1:Int).toNat λ y=>za y.cells 0 λ c=>za y.cells 1 λ c_6=>za y.cells 2 λ c_7=>za y.cells 3 λ c_8=>za y.cells 4 λ c_9=>zc (zc (zg m (D.agg [c,c_6,c_7,c_8,c_9])) λ t=>zb (Sp.right t&&z7 t) (some (Sp.text t (0:Int)))) λ b_1=>zb (decide ((40::(((b++[41]))++[32,42,32])).length+b_1.length≤4611686018427387904)) (bif decide ((0:Int)<a) then zb (decide ([40].length+(40::(((((b++[41]))++[32,42,32]))++b_1)).length≤4611686018427387904)) (zb (decide ((40::40::(((((b++[41]))++[32,42,32]))++b_1)).length+[41].length≤4611686018427387904)) (some (Out.ret (V.d (D.str (40::40::(((((((b++[41]))++[32,42,32]))++b_1))++[41])))),[]))) else some (Out.ret (V.d (D.str (40::(((((b++[41]))++[32,42,32]))++b_1)))),[])))))) else zc (zc (zg m (D.agg [c,c_1,c_2,c_3,c_4])) λ t=>zb (Sp.right t&&z7 t) (some (Sp.text t (1:Int)))) λ b=>zb (decide (b.length+[32,42,32].length≤4611686018427387904)) (zb (decide ((1:Int)<(↑(T.ds kids).length:Int))) (za (T.ds kids) (1:Int).toNat λ y=>za y.cells 0 λ c=>za y.cells 1 λ c_6=>za y.cells 2 λ c_7=>za y.cells 3 λ c_8=>za y.cells 4 λ c_9=>zc (zc (zg m (D.agg [c,c_6,c_7,c_8,c_9])) λ t=>zb (Sp.right t&&z7 t) (some (Sp.text t (0:Int)))) λ b_1=>zb (decide ((b++[32,42,32]).length+b_1.length≤4611686018427387904)) (bif decide ((0:Int)<a) then zb (decide ([40].length+(b++[32,42,32]++b_1).length≤4611686018427387904)) (zb (decide ((40::(b++[32,42,32]++b_1)).length+[41].length≤4611686018427387904)) (some (Out.ret (V.d (D.str (40::((b++[32,42,32]++b_1)++[41])))),[]))) else some (Out.ret (V.d (D.str (b++[32,42,32]++b_1))),[])))) else none
   | x=>none) else none
  | x=>none else zc (zc (zg m (D.agg [c,c_1,c_2,c_3,c_4])) λ t=>zb (Sp.right t&&z7 t) (some (Sp.text t (1:Int)))) λ b=>zb (decide (b.length+[32,42,32].length≤4611686018427387904)) (zb (decide ((1:Int)<(↑(T.ds kids).length:Int))) (za (T.ds kids) (1:Int).toNat λ y=>za y.cells 0 λ c=>za y.cells 1 λ c_5=>za y.cells 2 λ c_6=>za y.cells 3 λ c_7=>za y.cells 4 λ c_8=>zc (zc (zg m (D.agg [c,c_5,c_6,c_7,c_8])) λ t=>zb (Sp.right t&&z7 t) (some (Sp.text t (0:Int)))) λ b_1=>zb (decide ((b++[32,42,32]).length+b_1.length≤4611686018427387904)) (bif decide ((0:Int)<a) then zb (decide ([40].length+(b++[32,42,32]++b_1).length≤4611686018427387904)) (zb (decide ((40::(b++[32,42,32]++b_1)).length+[41].length≤4611686018427387904)) (some (Out.ret (V.d (D.str (40::((b++[32,42,32]++b_1)++[41])))),[]))) else some (Out.ret (V.d (D.str (b++[32,42,32]++b_1))),[])))) else none
 | x=>none):=by kernel_rfl
theorem yc5(n m:Nat)(nm:List UInt8)(kids:List T)(nms:List (List UInt8))(pl a:Int):zl cx (K79 m) n 134 [.d (.agg [.int .i64 6,.str nm,.sl 5 (T.ds kids),.sl 1 (nms.map .str),.int .i64 pl]),.d (.int .i64 a)] []=zb (decide ((0:Int)<(↑(T.ds kids).length:Int))) (za (T.ds kids) (0:Int).toNat λ y=>za y.cells 0 λ c=>za y.cells 1 λ c_1=>za y.cells 2 λ c_2=>za y.cells 3 λ c_3=>za y.cells 4 λ c_4=>zc (zc (zg m (D.agg [c,c_1,c_2,c_3,c_4])) λ t=>zb (Sp.right t&&z7 t) (some (Sp.text t (1:Int)))) λ b=>zb (decide (b.length+[32].length≤4611686018427387904)) (zb (decide ((1:Int)<(↑(T.ds kids).length:Int))) (za (T.ds kids) (1:Int).toNat λ y=>za y.cells 0 λ c=>za y.cells 1 λ c_5=>za y.cells 2 λ c_6=>za y.cells 3 λ c_7=>za y.cells 4 λ c_8=>zc (zc (zg m (D.agg [c,c_5,c_6,c_7,c_8])) λ t=>zb (Sp.right t&&z7 t) (some (Sp.text t (2:Int)))) λ b_1=>zb (decide ((b++[32]).length+b_1.length≤4611686018427387904)) (bif decide ((1:Int)<a) then zb (decide ([40].length+(b++[32]++b_1).length≤4611686018427387904)) (zb (decide ((40::(b++[32]++b_1)).length+[41].length≤4611686018427387904)) (some (Out.ret (V.d (D.str (40::((b++[32]++b_1)++[41])))),[]))) else some (Out.ret (V.d (D.str (b++[32]++b_1))),[]))))):=by kernel_rfl
theorem yc4(n m:Nat)(nm:List UInt8)(kids:List T)(nms:List (List UInt8))(pl a:Int):zl cx (K79 m) n 134 [.d (.agg [.int .i64 7,.str nm,.sl 5 (T.ds kids),.sl 1 (nms.map .str),.int .i64 pl]),.d (.int .i64 a)] []=zb (decide ((0:Int)<(↑(T.ds kids).length:Int))) (za (T.ds kids) (0:Int).toNat λ y=>za y.cells 0 λ c=>za y.cells 1 λ c_1=>za y.cells 2 λ c_2=>za y.cells 3 λ c_3=>za y.cells 4 λ c_4=>zc (zc (zg m (D.agg [c,c_1,c_2,c_3,c_4])) λ t=>zb (Sp.right t&&z7 t) (some (Sp.text t (1:Int)))) λ b=>zb (decide (b.length+[32,64,32].length≤4611686018427387904)) (zb (decide ((1:Int)<(↑(T.ds kids).length:Int))) (za (T.ds kids) (1:Int).toNat λ y=>za y.cells 0 λ c=>za y.cells 1 λ c_5=>za y.cells 2 λ c_6=>za y.cells 3 λ c_7=>za y.cells 4 λ c_8=>zc (zc (Sp.toC (D.agg [c,c_5,c_6,c_7,c_8])) λ t=>zb (Sp.form t&&z7 t) (some (wx t (2:Int)))) λ b_1=>zb (decide ((b++[32,64,32]).length+b_1.length≤4611686018427387904)) (bif decide ((1:Int)<a) then zb (decide ([40].length+(b++[32,64,32]++b_1).length≤4611686018427387904)) (zb (decide ((40::(b++[32,64,32]++b_1)).length+[41].length≤4611686018427387904)) (some (Out.ret (V.d (D.str (40::((b++[32,64,32]++b_1)++[41])))),[]))) else some (Out.ret (V.d (D.str (b++[32,64,32]++b_1))),[]))))):=by kernel_rfl
theorem yc3(n m:Nat)(nm:List UInt8)(kids:List T)(nms:List (List UInt8))(pl a:Int):zl cx (K79 m) n 134 [.d (.agg [.int .i64 8,.str nm,.sl 5 (T.ds kids),.sl 1 (nms.map .str),.int .i64 pl]),.d (.int .i64 a)] []=zb (decide ((0:Int)<(↑(T.ds kids).length:Int))) (za (T.ds kids) (0:Int).toNat λ y=>za y.cells 0 λ c=>za y.cells 1 λ c_1=>za y.cells 2 λ c_2=>za y.cells 3 λ c_3=>za y.cells 4 λ c_4=>zc (zc (zg m (D.agg [c,c_1,c_2,c_3,c_4])) λ t=>zb (Sp.right t&&z7 t) (some (Sp.text t (0:Int)))) λ b=>zb (decide ([40].length+b.length≤4611686018427387904)) (zb (decide ((40::b).length+[44,32].length≤4611686018427387904)) (zb (decide ((1:Int)<(↑(T.ds kids).length:Int))) (za (T.ds kids) (1:Int).toNat λ y=>za y.cells 0 λ c=>za y.cells 1 λ c_5=>za y.cells 2 λ c_6=>za y.cells 3 λ c_7=>za y.cells 4 λ c_8=>zc (zc (zg m (D.agg [c,c_5,c_6,c_7,c_8])) λ t=>zb (Sp.right t&&z7 t) (some (Sp.text t (0:Int)))) λ b_1=>zb (decide ((40::(b++[44,32])).length+b_1.length≤4611686018427387904)) (zb (decide ((40::(((b++[44,32]))++b_1)).length+[41].length≤4611686018427387904)) (bif decide ((2:Int)<a) then zb (decide ([40].length+(40::(((((b++[44,32]))++b_1))++[41])).length≤4611686018427387904)) (zb (decide ((40::40::(((((b++[44,32]))++b_1))++[41])).length+[41].length≤4611686018427387904)) (some (Out.ret (V.d (D.str (40::40::(((((((b++[44,32]))++b_1))++[41]))++[41])))),[]))) else some (Out.ret (V.d (D.str (40::(((((b++[44,32]))++b_1))++[41])))),[]))))))):=by kernel_rfl
theorem yc2(n m:Nat)(nm:List UInt8)(kids:List T)(nms:List (List UInt8))(pl a:Int):zl cx (K79 m) n 134 [.d (.agg [.int .i64 9,.str nm,.sl 5 (T.ds kids),.sl 1 (nms.map .str),.int .i64 pl]),.d (.int .i64 a)] []=zb (decide ((0:Int)<(↑(T.ds kids).length:Int))) (za (T.ds kids) (0:Int).toNat λ y=>za y.cells 0 λ c=>za y.cells 1 λ c_1=>za y.cells 2 λ c_2=>za y.cells 3 λ c_3=>za y.cells 4 λ c_4=>zc (zc (zg m (D.agg [c,c_1,c_2,c_3,c_4])) λ t=>zb (Sp.right t&&z7 t) (some (Sp.text t (0:Int)))) λ b=>zb (decide ([40].length+b.length≤4611686018427387904)) (zb (decide ((40::b).length+[32,58,32].length≤4611686018427387904)) (zb (decide ((1:Int)<(↑(T.ds kids).length:Int))) (za (T.ds kids) (1:Int).toNat λ y=>za y.cells 0 λ c=>za y.cells 1 λ c_5=>za y.cells 2 λ c_6=>za y.cells 3 λ c_7=>za y.cells 4 λ c_8=>zc (zc (zg m (D.agg [c,c_5,c_6,c_7,c_8])) λ t=>zb (Sp.right t&&z7 t) (some (Sp.text t (0:Int)))) λ b_1=>zb (decide ((40::(b++[32,58,32])).length+b_1.length≤4611686018427387904)) (zb (decide ((40::(((b++[32,58,32]))++b_1)).length+[41].length≤4611686018427387904)) (bif decide ((2:Int)<a) then zb (decide ([40].length+(40::(((((b++[32,58,32]))++b_1))++[41])).length≤4611686018427387904)) (zb (decide ((40::40::(((((b++[32,58,32]))++b_1))++[41])).length+[41].length≤4611686018427387904)) (some (Out.ret (V.d (D.str (40::40::(((((((b++[32,58,32]))++b_1))++[41]))++[41])))),[]))) else some (Out.ret (V.d (D.str (40::(((((b++[32,58,32]))++b_1))++[41])))),[]))))))):=by kernel_rfl
theorem z96(n m:Nat)(nm:List UInt8)(kids:List T)(nms:List (List UInt8))(pl a:Int):zl cx (K79 m) n 134 [.d (.agg [.int .i64 10,.str nm,.sl 5 (T.ds kids),.sl 1 (nms.map .str),.int .i64 pl]),.d (.int .i64 a)] []=zc (zc (zg (m+1) (D.agg [D.int .i64 (10:Int),D.str nm,D.sl 5 (T.ds kids),D.sl 1 (List.map D.str nms),D.int .i64 pl])) λ t=>zb (zbx t&&z7 t) (some (zdc t))) λ b=>bif decide ((2:Int)<a) then zb (decide ([40].length+b.length≤4611686018427387904)) (zb (decide ((40::b).length+[41].length≤4611686018427387904)) (some (Out.ret (V.d (D.str (40::(b++[41])))),[]))) else some (Out.ret (V.d (D.str b)),[]):=by kernel_rfl
theorem zj0:∀ (l:List T) (b:Bool),zaw b l=qo [44,32] b (l.map qi)
 | [],b=>rfl
 | t::l,b=>by rw [zaw,zj0 l false]; rfl
theorem zz0:∀ (l:List T),∀ x∈l.map qi,x.length≤12 * Sp.bulks l
 | [],x,h=>by simp at h
 | t::l,x,h=>by
  simp only [List.map_cons,List.mem_cons] at h;simp only [Sp.bulks];rcases h with rfl | h
  ·have:=zty t; omega
  ·have:=zz0 l x h; omega
theorem zy9{m n:Nat}{k:Int}{nm:List UInt8}{kids:List T}{nms:List (List UInt8)}{pl:Int}(hn:4294967296<n)(hl:kids.length<4294967296)(ho:T.oks kids=true)(hd0:T.depths kids≤m)(he:∀ t∈kids,Sp.elem t=true)(hb:Sp.bulks kids≤16777216) :
  ∀ (rest:List T) (j r:Nat),kids.drop j=rest→j≤kids.length→rest.length<r →
   O79 m n r k nm kids nms pl ((kids.take j).map qi) j=some (.ret (mkS ([91]++zu (kids.map qi) [44,32]++[93])),[])
 | [],j,r,hd,hj,hk'=>by
  obtain ⟨r,rfl⟩:∃ i,r=i+1:=⟨r - 1,by omega⟩
  have:kids.length≤j:=by simpa using hd
  obtain rfl:j=kids.length:=by omega
  rw [List.take_length];simp only [O79];rw [l79,zo,yj,cond_false];have hjl:(zu (kids.map qi) [44,32]).length≤12 * Sp.bulks kids:=by
   rw [←zgw,←zj0]; exact zpy kids true
  have h3:yd (kids.map qi)=true:=pa (by rw [pf]; exact hl)
  have h4:(kids.map qi).all yd=true:=List.all_eq_true.2 λ x hx=>pa (by have:=zz0 kids x hx; omega)
  have e:zcq (D.sl 1 ((kids.map qi).map D.str),[44,32])=some (kids.map qi,[44,32]):=by
   unfold zcq;simp only [zu4 h3 h4];rw [pa (by unfold zu at hjl; omega)]
   rfl
  rw [e];simp only [zc,zb];simp (disch:=((try simp only [pe,List.length_cons,List.length_nil]); omega)) only [dle,cond_true]
  simp [mkS]
 | t::rest,j,r,hd,hj,hk'=>by
  obtain ⟨r,rfl⟩:∃ i,r=i+1:=⟨r - 1,by omega⟩
  obtain ⟨h1,h2,h3⟩:=zbu hd;have htm:=po h2;obtain ⟨qs,plf,r',pl',rfl,hq,hr'⟩:=zv7 (he t htm);obtain ⟨_,o2,_,_,o5⟩:=wu (wn ho htm);have hbt:=zdn htm;have hdx:T.depths (.mk 12 [] qs [] plf::r')≤m:=by
   have:=zf8 htm;simp only [T.depth] at this; omega
  have hql:qs.length<4294967296:=by
   obtain ⟨_,q2,_,_,_⟩:=wu (wn o5 (pn ..));exact yh q2
  have hrr:r'=[]∨∃ u,r'=[u]∧zg m u.d=some u∧Sp.right u=true∧z7 u=true:=by
   rcases hr' with rfl | ⟨u,rfl,hu⟩
   ·exact .inl rfl
   ·refine .inr ⟨u,rfl,zad hdx o5 (by simp),hu,pa ?_⟩
    simp only [yt,Sp.bulks] at hbt;omega
  have hln:=zty (.mk 11 [] (.mk 12 [] qs [] plf::r') [] pl');have ee:qi (.mk 11 [] (.mk 12 [] qs [] plf::r') [] pl')=(bif decide ((qs.map qh).flatten=[]) then [49] else (qs.map qh).flatten)++qb (.mk 12 [] qs [] plf::r'):=by
   rw [zxx,zey,zac];rcases qs with _ | ⟨q,qs⟩
   ·rfl
   ·simp [qh]
  have hj2:((kids.take j).map qi).length+1≤4294967296:=by rw [pf,List.length_take]; omega
  have h_in:=zzt (n:=n) (r:=r) (k:=k) (nm:=nm) (kids:=kids) (nms:=nms) (pl:=pl) (i:=(j:Int)) (k':=11) (pl':=pl') (k2:=12) (pl2:=plf) (ls:=(kids.take j).map qi) (nm':=[]) (nm2:=[]) (nms':=[]) (nms2:=[]) hq hql hj2 hrr qs 0 n [] rfl (Nat.zero_le _) (by omega) (.inl ⟨rfl,rfl⟩)
   (by
    rw [zxx,zey,zac] at hln;simp only [pe] at hln;simp only [List.length_nil];omega)
  have h_out:=zy9 (k:=k) (nm:=nm) (nms:=nms) (pl:=pl) hn hl ho hd0 he hb rest (j+1) r h3 h1 (by simp at hk'; omega)
  have etk:(kids.take (j+1)).map qi=(kids.take j).map qi++[qi (.mk 11 [] (.mk 12 [] qs [] plf::r') [] pl')]:=by
   rw [List.take_add_one,h2]; simp
  rw [etk,ee] at h_out;simp only [List.nil_append] at h_in;rw [xq h1 hl] at h_in;rw [←h_out,←h_in];simp only [O79];rw [l79,zo,z6 h1,yy,zz,pm,h2];simp only [cond_true,zb,zc,Bool.and_self,zam,xo,wz,vc,vb,va];rfl
theorem ybk{m:Nat}(hK:knows cx (K43 m).S (zh cx)){t:T}(hd:t.depth≤m+1)(ho:t.ok=true)(hi:zbx t=true)(hl:z7 t=true):zh cx 169 [.d t.d] []=some (.ret (mkS (zdc t)),[]):=by
 obtain ⟨k,nm,kids,nms,pl⟩:=t;obtain ⟨h1,h2,h3,h4,h5⟩:=wu ho;have hkd:=vo hd;simp only [zbx,ph] at hi;have hk:k=10:=pc hi.2;subst hk;have hb:Sp.bulks kids≤16777216:=by
  have:=pc hl;simp only [yt] at this;omega
 refine zk hK (N:=4294967297) ?_;refine (g79 _ m 10 nm kids nms pl).trans ?_;have h:=zy9 (m:=m) (n:=4294967297) (k:=10) (nm:=nm) (kids:=kids) (nms:=nms) (pl:=pl) (by omega) (yh h2) h5 hkd (zrb hi.1) hb kids 0 4294967297 rfl (Nat.zero_le _) (by have:=yh h2; omega)
 rw [zdc,zj0,zgw];exact h
theorem zz4{q:Bool}{s:List UInt8}(h:s.length+2≤4611686018427387904) :
  (bif q then zb (decide ([(40:UInt8)].length+s.length≤4611686018427387904)) (zb (decide ((40::s).length+[(41:UInt8)].length≤4611686018427387904)) (some (Out.ret (V.d (D.str (40::(s++[41])))),([]:St)))) else some (Out.ret (V.d (D.str s)),[]))=some (Out.ret (mkS (zw q s)),[]):=by
 cases q
 ·rfl
 ·rw [pa (by simp only [List.length_cons,List.length_nil]; omega),pa (by simp only [List.length_cons,List.length_nil]; omega)]
  rfl
theorem z7t:∀ (m:Nat) (t:T) (a:Int),t.depth≤m→t.ok=true→Sp.right t=true→z7 t=true→zh cx 134 [.d t.d,.d (.int .i64 a)] []=some (.ret (mkS (Sp.text t a)),[])
 | 0,.mk ..,_,h,_,_,_=>by simp [T.depth] at h
 | m+1,.mk k nm kids nms pl,x,hd,ho,hi,hl=>by
  have hK:knows cx (K43 m).S (zh cx):=zj zqg λ a q s _ ha hs=>by
   obtain ⟨y,n⟩:=q;obtain rfl:=zaf ha;obtain ⟨t,ht,hs⟩:=zd hs;obtain ⟨hf,hs⟩:=ze hs;cases hs;obtain ⟨rfl,h1,h2⟩:=y5 ht;rw [ph] at hf;exact z7t m t n h1 h2 hf.1 hf.2
  have h78:=zj (f:=168) (dec:=zcv) (sp:=z7f) (mk:=mkS) hK λ a q s _ ha hs=>by
   obtain ⟨y,n⟩:=q;obtain rfl:=zaf ha;obtain ⟨t,ht,hs⟩:=zd hs;obtain ⟨hf,hs⟩:=ze hs;cases hs;obtain ⟨rfl,h2⟩:=xz ht;rw [ph] at hf;exact z7q t.depth t n (Nat.le_refl _) h2 hf.1 hf.2
  have h79:knows cx (K79 m).S (zh cx):=zj h78 λ a y s _ ha hs=>by
   obtain rfl:=xy ha;obtain ⟨t,ht,hs⟩:=zd hs;obtain ⟨hf,hs⟩:=ze hs;cases hs;obtain ⟨rfl,h1,h2⟩:=y5 ht;rw [ph] at hf;exact ybk hK h1 h2 hf.1 hf.2
  have hTt:=zdu hd ho;obtain ⟨h1,h2,h3,h4,h5⟩:=wu ho;have hkd:=vo hd;have hT:∀ t∈kids,zg m t.d=some t:=λ t h=>zad hkd h5 h;have hL:=zrx hl;have hlen:(Sp.bare (.mk k nm kids nms pl)).length+2≤201326592:=by
   have:=zwn (.mk k nm kids nms pl);have:=pc hl;omega
  simp only [T.d] at hTt;refine zk h79 (N:=0) ?_;have etx:Sp.text (.mk k nm kids nms pl) x=zw (decide (yp k<x)) (Sp.bare (.mk k nm kids nms pl)):=rfl;rw [etx];rcases zy5 hi with rfl | ⟨hk,a,rfl,ha⟩ | hk | ⟨rfl,a,b,rfl,ha,hb⟩ | ⟨rfl,a,b,rfl,ha,hb⟩ | hk | rfl
  ·refine (yda 0 m nm kids nms pl x).trans ?_;have e:Sp.bare (.mk 1 nm kids nms pl)=nm:=by simp [Sp.bare]
   rw [e] at hlen ⊢;exact zz4 (by omega)
  ·have e0:decide ((0:Int)<((T.ds [a]).length:Int))=true:=by rw [zo]; rfl
   have n0:[a][(0:Int).toNat]?=some a:=rfl;rcases hk with rfl | rfl
   ·have e:Sp.bare (.mk 2 nm [a] nms pl)=[92]++zu nms [32]++[46,32]++Sp.text a 0:=by simp [Sp.bare,←yv [a] 0 0 a rfl]
    rw [e] at hlen ⊢;simp only [pe,List.length_cons,List.length_nil] at hlen;refine (yc9 0 m nm [a] nms pl x).trans ?_;simp only [zte h3 h4 (sep:=[32]) (by omega),e0,zz,n0,yb,xo,wz,vc,vb,va,wj,hT a (by simp),zc,zb,cond_true,ha,hL a (by simp),Bool.and_self]
    simp (disch:=((try simp only [pe,List.length_cons,List.length_nil]); omega)) only [dle,cond_true]
    show (bif decide (yp 2<x) then _ else _)=some (Out.ret (mkS (zw (decide (yp 2<x)) _)),[]);generalize decide (yp 2<x)=q;cases q <;> simp [zw,mkS]
   ·have e:Sp.bare (.mk 3 nm [a] nms pl)=[60]++zu nms [32]++[62,32]++Sp.text a 0:=by simp [Sp.bare,←yv [a] 0 0 a rfl]
    rw [e] at hlen ⊢;simp only [pe,List.length_cons,List.length_nil] at hlen;refine (yc8 0 m nm [a] nms pl x).trans ?_;simp only [zte h3 h4 (sep:=[32]) (by omega),e0,zz,n0,yb,xo,wz,vc,vb,va,wj,hT a (by simp),zc,zb,cond_true,ha,hL a (by simp),Bool.and_self]
    simp (disch:=((try simp only [pe,List.length_cons,List.length_nil]); omega)) only [dle,cond_true]
    show (bif decide (yp 3<x) then _ else _)=some (Out.ret (mkS (zw (decide (yp 3<x)) _)),[]);generalize decide (yp 3<x)=q;cases q <;> simp [zw,mkS]
  ·obtain ⟨a,b,rfl,ha,hb⟩:=zcx hi (by omega)
   have e0:decide ((0:Int)<((T.ds [a,b]).length:Int))=true:=by rw [zo]; rfl
   have e1:decide ((1:Int)<((T.ds [a,b]).length:Int))=true:=by rw [zo]; rfl
   have n0:[a,b][(0:Int).toNat]?=some a:=rfl;have n1:[a,b][(1:Int).toNat]?=some b:=rfl;rcases hk with rfl | rfl
   ·have e:Sp.bare (.mk 4 nm [a,b] nms pl)=(bif decide (nms.length=1) then [40]++Sp.at nms 0++[32,58,32]++Sp.text a 0++[41] else zw (w7 [a,b]) (Sp.text a 1))++[32,45,62,32]++Sp.text b 0:=by
     simp [Sp.bare,←yv [a,b] 0 0 a rfl,←yv [a,b] 1 0 a rfl,←yv [a,b] 0 1 b rfl]
    rw [e] at hlen ⊢;refine (yc7 0 m nm [a,b] nms pl x).trans ?_;rcases zlr hi (by omega) with rfl | ⟨y,rfl⟩
    ·have hl0:decide ((([]:List (List UInt8)).map D.str).length=(1:Int))=false:=rfl;simp only [List.length_nil,Nat.zero_ne_one,decide_false,cond_false,pe,zhf] at hlen ⊢;by_cases h9:a.k=9
     ·obtain ⟨k',nm',kids',nms',pl'⟩:=a;simp only [zl8] at h9;subst h9;obtain ⟨c,d,rfl,_,_⟩:=zcx ha (by omega)
      have e2:decide ((0:Int)<((T.ds [c,d]).length:Int))=true:=by rw [zo]; rfl
      have n2:[c,d][(0:Int).toNat]?=some c:=rfl;have ea:w7 [.mk 9 nm' [c,d] nms' pl',b]=decide (c.k=1):=by
       obtain ⟨k3,_,_,_,_⟩:=c;simp only [w7,decide_true,Bool.true_and]; rfl
      simp only [hl0,e0,e1,e2,zz,n0,n1,n2,↓zam,yb,xo,wz,vc,vb,va,zih,zh3,hT _ (pn ..),hT b (by simp),zc,zb,cond_true,cond_false,ha,hb,hL _ (pn ..),hL b (by simp),Bool.and_self,decide_true,zfv,Bool.true_or]
      rw [ea] at hlen ⊢;generalize decide (c.k=1)=z at hlen ⊢;cases z
      ·simp only [cond_false,List.length_cons,List.length_nil] at hlen ⊢;simp (disch:=((try simp only [pe,List.length_cons,List.length_nil]); omega)) only [dle,cond_true]
       show (bif decide (yp 4<x) then _ else _)=some (Out.ret (mkS (zw (decide (yp 4<x)) _)),[]);generalize decide (yp 4<x)=q;cases q <;> simp [zw,mkS]
      ·simp only [cond_true,List.length_cons,List.length_nil] at hlen ⊢;simp (disch:=((try simp only [pe,List.length_cons,List.length_nil]); omega)) only [dle,cond_true]
       show (bif decide (yp 4<x) then _ else _)=some (Out.ret (mkS (zw (decide (yp 4<x)) _)),[]);generalize decide (yp 4<x)=q;cases q <;> simp [zw,mkS]
     ·have ea:w7 [a,b]=false:=by
       obtain ⟨k',nm',kids',nms',pl'⟩:=a;simp only [zl8] at h9;rcases kids' with _ | ⟨⟨_,_,_,_,_⟩,_⟩ <;> simp [w7,h9]
      simp only [hl0,e0,e1,zz,n0,n1,yb,xo,wz,vc,vb,va,wj,hT a (by simp),hT b (by simp),zc,zb,cond_true,cond_false,ha,hb,hL a (by simp),hL b (by simp),Bool.and_self,decide_true]
      rw [ea] at hlen ⊢;rw [pb h9];simp only [cond_false,List.length_cons,List.length_nil] at hlen ⊢;simp (disch:=((try simp only [pe,List.length_cons,List.length_nil]); omega)) only [dle,cond_true]
      show (bif decide (yp 4<x) then _ else _)=some (Out.ret (mkS (zw (decide (yp 4<x)) _)),[]);generalize decide (yp 4<x)=q;cases q <;> simp [zw,mkS]
    ·simp only [List.length_cons,List.length_nil,Nat.zero_add,decide_true,cond_true,pe] at hlen ⊢;have nx:[y][(0:Int).toNat]?=some y:=rfl;have ex:Sp.at [y] 0=y:=rfl;rw [ex] at hlen ⊢;simp only [e0,e1,zz,n0,n1,yb,xo,wz,vc,vb,va,wj,hT a (by simp),hT b (by simp),zc,zb,cond_true,ha,hb,hL a (by simp),hL b (by simp),Bool.and_self,pf,zl4,zkz,xx,nx,List.length_cons,List.length_nil,Nat.lt_add_one,decide_true,zca]
     simp (disch:=((try simp only [pe,List.length_cons,List.length_nil]); omega)) only [dle,cond_true]
     show (bif decide (yp 4<x) then _ else _)=some (Out.ret (mkS (zw (decide (yp 4<x)) _)),[]);generalize decide (yp 4<x)=q;cases q <;> simp [zw,mkS]
   ·have e:Sp.bare (.mk 5 nm [a,b] nms pl)=(bif decide (nms.length=1) then [40]++Sp.at nms 0++[32,58,32]++Sp.text a 0++[41] else zw (w7 [a,b]) (Sp.text a 1))++[32,42,32]++Sp.text b 0:=by
     simp [Sp.bare,←yv [a,b] 0 0 a rfl,←yv [a,b] 1 0 a rfl,←yv [a,b] 0 1 b rfl]
    rw [e] at hlen ⊢;refine (yc6 0 m nm [a,b] nms pl x).trans ?_;rcases zlr hi (by omega) with rfl | ⟨y,rfl⟩
    ·have hl0:decide ((([]:List (List UInt8)).map D.str).length=(1:Int))=false:=rfl;simp only [List.length_nil,Nat.zero_ne_one,decide_false,cond_false,pe,zhf] at hlen ⊢;by_cases h9:a.k=9
     ·obtain ⟨k',nm',kids',nms',pl'⟩:=a;simp only [zl8] at h9;subst h9;obtain ⟨c,d,rfl,_,_⟩:=zcx ha (by omega)
      have e2:decide ((0:Int)<((T.ds [c,d]).length:Int))=true:=by rw [zo]; rfl
      have n2:[c,d][(0:Int).toNat]?=some c:=rfl;have ea:w7 [.mk 9 nm' [c,d] nms' pl',b]=decide (c.k=1):=by
       obtain ⟨k3,_,_,_,_⟩:=c;simp only [w7,decide_true,Bool.true_and]; rfl
      simp only [hl0,e0,e1,e2,zz,n0,n1,n2,↓zam,yb,xo,wz,vc,vb,va,zih,zh3,hT _ (pn ..),hT b (by simp),zc,zb,cond_true,cond_false,ha,hb,hL _ (pn ..),hL b (by simp),Bool.and_self,decide_true,zfv,Bool.true_or]
      rw [ea] at hlen ⊢;generalize decide (c.k=1)=z at hlen ⊢;cases z
      ·simp only [cond_false,List.length_cons,List.length_nil] at hlen ⊢;simp (disch:=((try simp only [pe,List.length_cons,List.length_nil]); omega)) only [dle,cond_true]
       show (bif decide (yp 5<x) then _ else _)=some (Out.ret (mkS (zw (decide (yp 5<x)) _)),[]);generalize decide (yp 5<x)=q;cases q <;> simp [zw,mkS]
      ·simp only [cond_true,List.length_cons,List.length_nil] at hlen ⊢;simp (disch:=((try simp only [pe,List.length_cons,List.length_nil]); omega)) only [dle,cond_true]
       show (bif decide (yp 5<x) then _ else _)=some (Out.ret (mkS (zw (decide (yp 5<x)) _)),[]);generalize decide (yp 5<x)=q;cases q <;> simp [zw,mkS]
     ·have ea:w7 [a,b]=false:=by
       obtain ⟨k',nm',kids',nms',pl'⟩:=a;simp only [zl8] at h9;rcases kids' with _ | ⟨⟨_,_,_,_,_⟩,_⟩ <;> simp [w7,h9]
      simp only [hl0,e0,e1,zz,n0,n1,yb,xo,wz,vc,vb,va,wj,hT a (by simp),hT b (by simp),zc,zb,cond_true,cond_false,ha,hb,hL a (by simp),hL b (by simp),Bool.and_self,decide_true]
      rw [ea] at hlen ⊢;rw [pb h9];simp only [cond_false,List.length_cons,List.length_nil] at hlen ⊢;simp (disch:=((try simp only [pe,List.length_cons,List.length_nil]); omega)) only [dle,cond_true]
      show (bif decide (yp 5<x) then _ else _)=some (Out.ret (mkS (zw (decide (yp 5<x)) _)),[]);generalize decide (yp 5<x)=q;cases q <;> simp [zw,mkS]
    ·simp only [List.length_cons,List.length_nil,Nat.zero_add,decide_true,cond_true,pe] at hlen ⊢;have nx:[y][(0:Int).toNat]?=some y:=rfl;have ex:Sp.at [y] 0=y:=rfl;rw [ex] at hlen ⊢;simp only [e0,e1,zz,n0,n1,yb,xo,wz,vc,vb,va,wj,hT a (by simp),hT b (by simp),zc,zb,cond_true,ha,hb,hL a (by simp),hL b (by simp),Bool.and_self,pf,zl4,zkz,xx,nx,List.length_cons,List.length_nil,Nat.lt_add_one,decide_true,zca]
     simp (disch:=((try simp only [pe,List.length_cons,List.length_nil]); omega)) only [dle,cond_true]
     show (bif decide (yp 5<x) then _ else _)=some (Out.ret (mkS (zw (decide (yp 5<x)) _)),[]);generalize decide (yp 5<x)=q;cases q <;> simp [zw,mkS]
  ·have e0:decide ((0:Int)<((T.ds [a,b]).length:Int))=true:=by rw [zo]; rfl
   have e1:decide ((1:Int)<((T.ds [a,b]).length:Int))=true:=by rw [zo]; rfl
   have n0:[a,b][(0:Int).toNat]?=some a:=rfl;have n1:[a,b][(1:Int).toNat]?=some b:=rfl;have e:Sp.bare (.mk 6 nm [a,b] nms pl)=Sp.text a 1++[32]++Sp.text b 2:=by simp [Sp.bare,←yv [a,b] 1 0 a rfl,←yv [a,b] 2 1 b rfl]
   rw [e] at hlen ⊢;simp only [pe,List.length_cons,List.length_nil] at hlen;refine (yc5 0 m nm [a,b] nms pl x).trans ?_;simp only [e0,e1,zz,n0,n1,yb,xo,wz,vc,vb,va,wj,hT a (by simp),hT b (by simp),zc,zb,cond_true,ha,hb,hL a (by simp),hL b (by simp),Bool.and_self]
   simp (disch:=((try simp only [pe,List.length_cons,List.length_nil]); omega)) only [dle,cond_true]
   show (bif decide (yp 6<x) then _ else _)=some (Out.ret (mkS (zw (decide (yp 6<x)) _)),[]);generalize decide (yp 6<x)=q;cases q <;> simp [zw,mkS]
  ·have e0:decide ((0:Int)<((T.ds [a,b]).length:Int))=true:=by rw [zo]; rfl
   have e1:decide ((1:Int)<((T.ds [a,b]).length:Int))=true:=by rw [zo]; rfl
   have n0:[a,b][(0:Int).toNat]?=some a:=rfl;have n1:[a,b][(1:Int).toNat]?=some b:=rfl;have e:Sp.bare (.mk 7 nm [a,b] nms pl)=Sp.text a 1++[32,64,32]++wx b 2:=by simp [Sp.bare,←yv [a,b] 1 0 a rfl]
   rw [e] at hlen ⊢;simp only [pe,List.length_cons,List.length_nil] at hlen;refine (yc4 0 m nm [a,b] nms pl x).trans ?_;simp only [e0,e1,zz,n0,n1,yb,xo,wz,vc,vb,va,wj,hT a (by simp),zdf h5 (t:=b) (by simp),zc,zb,cond_true,ha,hb,hL a (by simp),hL b (by simp),Bool.and_self]
   simp (disch:=((try simp only [pe,List.length_cons,List.length_nil]); omega)) only [dle,cond_true]
   show (bif decide (yp 7<x) then _ else _)=some (Out.ret (mkS (zw (decide (yp 7<x)) _)),[]);generalize decide (yp 7<x)=q;cases q <;> simp [zw,mkS]
  ·obtain ⟨a,b,rfl,ha,hb⟩:=zcx hi (by omega)
   have e0:decide ((0:Int)<((T.ds [a,b]).length:Int))=true:=by rw [zo]; rfl
   have e1:decide ((1:Int)<((T.ds [a,b]).length:Int))=true:=by rw [zo]; rfl
   have n0:[a,b][(0:Int).toNat]?=some a:=rfl;have n1:[a,b][(1:Int).toNat]?=some b:=rfl;rcases hk with rfl | rfl
   ·have e:Sp.bare (.mk 8 nm [a,b] nms pl)=[40]++Sp.text a 0++[44,32]++Sp.text b 0++[41]:=by simp [Sp.bare,←yv [a,b] 0 0 a rfl,←yv [a,b] 0 1 b rfl]
    rw [e] at hlen ⊢;simp only [pe,List.length_cons,List.length_nil] at hlen;refine (yc3 0 m nm [a,b] nms pl x).trans ?_;simp only [e0,e1,zz,n0,n1,yb,xo,wz,vc,vb,va,wj,hT a (by simp),hT b (by simp),zc,zb,cond_true,ha,hb,hL a (by simp),hL b (by simp),Bool.and_self]
    simp (disch:=((try simp only [pe,List.length_cons,List.length_nil]); omega)) only [dle,cond_true]
    show (bif decide (yp 8<x) then _ else _)=some (Out.ret (mkS (zw (decide (yp 8<x)) _)),[]);generalize decide (yp 8<x)=q;cases q <;> simp [zw,mkS]
   ·have e:Sp.bare (.mk 9 nm [a,b] nms pl)=[40]++Sp.text a 0++[32,58,32]++Sp.text b 0++[41]:=by simp [Sp.bare,←yv [a,b] 0 0 a rfl,←yv [a,b] 0 1 b rfl]
    rw [e] at hlen ⊢;simp only [pe,List.length_cons,List.length_nil] at hlen;refine (yc2 0 m nm [a,b] nms pl x).trans ?_;simp only [e0,e1,zz,n0,n1,yb,xo,wz,vc,vb,va,wj,hT a (by simp),hT b (by simp),zc,zb,cond_true,ha,hb,hL a (by simp),hL b (by simp),Bool.and_self]
    simp (disch:=((try simp only [pe,List.length_cons,List.length_nil]); omega)) only [dle,cond_true]
    show (bif decide (yp 9<x) then _ else _)=some (Out.ret (mkS (zw (decide (yp 9<x)) _)),[]);generalize decide (yp 9<x)=q;cases q <;> simp [zw,mkS]
  ·have hB:zbx (.mk 10 nm kids nms pl)=true:=by unfold zbx; rw [hi]; rfl
   have e:Sp.bare (.mk 10 nm kids nms pl)=zdc (.mk 10 nm kids nms pl):=by simp [Sp.bare,zdc]
   rw [e] at hlen ⊢;refine (z96 0 m nm kids nms pl x).trans ?_;simp only [hTt,hB,hl,zc,zb,cond_true,Bool.and_self];exact zz4 (by omega)
def Sp.bytes(L:List D):Option (List UInt8):=zet L
theorem zsp(s:List UInt8):Sp.bytes (Sp.app [] s)=some s:=by
 show zet ([]++s.map λ b=>D.int .u8 b.toNat)=some s;rw [List.nil_append];exact zyh s
theorem ybo(u:Bool)(L:List D)(s:List UInt8)(h:Sp.bytes L=some s)(hl:L.length≤65536):zh cx 164 [.ptr 0 0] (psS u L)=some (.ret (.d (.str s)),qn (psS u L) 1 (.tok (L.length+1))):=by
 refine zh4 (n:=1) ?_;have e0:cx.nat 164 [.ptr 0 0] (psS u L)=zlz [.ptr 0 0] (psS u L):=by kernel_rfl
 have e:zlz [.ptr 0 0] (psS u L)=some (.ret (.d (.str s)),qn (psS u L) 1 (.tok (L.length+1))):=by
  have e1:zet L=some s:=h;have e2:zlz [.ptr 0 0] (psS u L)=zb (Nat.beq 6291457 6291457&&decide (L.length=L.length)&&decide (L.length≤4294967296)) (zc (zet L) λ s=>some (.ret (.d (.str s)),qn (psS u L) 1 (.tok (L.length+1)))):=rfl;rw [e2,e1,pa rfl,pa (by omega)]
  rfl
 show zbh cx (vg cx 0) 0 164 _ _=_;unfold zbh;rw [e0,e]
def K72:CK R1:=more 164 (λ a σ=>match zx3 a,psD σ with | some _,some p=>some (p,σ) | _,_=>none)
  (λ K q=>match q with | ((L,n),σ)=>zc (Sp.bytes L) λ s=>zb (Sp.fit n L) (zb (decide (n≤65536)) (K (.ret (.d (.str s))) (qn σ 1 (.tok (n+1))))))
  (λ K q=>by
   obtain ⟨⟨L,n⟩,σ⟩:=q;simp only [zb];rw [vx];congr 1;funext s;simp only [wt];rfl) (CK.plain zn)
theorem z13:knows cx K72.S (zh cx):=we zm λ a σ q r hd h=>by
 obtain ⟨⟨L,n⟩,τ⟩:=q;simp only at hd h;split at hd
 ·rename_i p ha hp;cases hd;obtain ⟨s,hs,h⟩:=zd h;obtain ⟨h1,h⟩:=ze h;obtain ⟨h2,h⟩:=ze h;cases h;obtain rfl:=zi0 ha;obtain ⟨u,rfl⟩:=zdj hp h1;have hn:n=L.length:=pc h1;have:=pc h2;rw [hn];exact ybo u L s hs (by omega)
 ·cases hd
theorem g40(n:Nat)(L:List D):zl cx K72 n 129 [.ptr 0 0] (psS true L)=zc (Sp.bytes L) λ s=>zb (Sp.fit L.length L) (zb (decide (L.length≤65536)) (some (Out.ret (V.tup [V.d (D.str s),V.d (D.int .i64 (0:Int))]),[(0,Ob.val 187695107 (V.agg [V.ptr 0 0,V.sl 6291457 L 1,V.d (D.bool false)])),(1,Ob.tok (L.length+1))]))):=by kernel_rfl
theorem yfk(n:Nat)(L:List D):zl cx K72 n 129 [.ptr 0 0] (psS false L)=zc (Sp.bytes L) λ s=>zb (Sp.fit L.length L) (zb (decide (L.length≤65536)) (some (Out.ret (V.tup [V.d (D.str s),V.d (D.int .i64 (0:Int))]),[(0,Ob.val 187695107 (V.agg [V.d D.nilptr,V.sl 6291457 L 1,V.d (D.bool false)])),(1,Ob.tok (L.length+1))]))):=by kernel_rfl
theorem g44(n:Nat)(s:List UInt8):zl cx (CK.plain zn) n 135 [.d (.str s)] []=bif decide ((65536:Int)<(↑s.length:Int)) then some (Out.ret (V.tup [V.d (D.str []),V.d (D.int .i64 (3:Int))]),[]) else some (Out.ret (V.tup [V.d (D.str s),V.d (D.int .i64 (0:Int))]),[]):=by kernel_rfl
theorem ybw(u:Bool)(L:List D)(s:List UInt8)(h:Sp.bytes L=some s)(hl:L.length≤65536):zh cx 129 [.ptr 0 0] (psS u L)=some (.ret (.tup [.d (.str s),.d (.int .i64 0)]),qn (psS u L) 1 (.tok (L.length+1))):=by
 refine zk z13 (N:=0) ?_;cases u
 ·rw [yfk,h];simp only [zc,zb,ye,cond_true];rw [pa hl];rfl
 ·rw [g40,h];simp only [zc,zb,ye,cond_true];rw [pa hl];rfl
def mkE(p:List UInt8×Int):V:=.tup [.d (.str p.1),.d (.int .i64 p.2)]
def Sp.done(s:List UInt8):List UInt8×Int:=bif decide (65536<s.length) then ([],3) else (s,0)
theorem ybv(s:List UInt8):zh cx 135 [.d (.str s)] []=some (.ret (mkE (Sp.done s)),[]):=by
 refine zk zm (N:=0) ?_;rw [g44];unfold Sp.done;by_cases h:65536<s.length
 ·rw [pa h,pa (p:=(65536:Int)<(s.length:Int)) (by omega)]; rfl
 ·rw [pb h,pb (p:=(65536:Int)<(s.length:Int)) (by omega)]; rfl
def z7h:D×Int→Option (List UInt8) | (x,a)=>zc (Sp.toC x) λ t=>zb (Sp.right t) (some (Sp.text t a))
def z7g:D×Int→Option (List UInt8) | (x,a)=>zc (Sp.toC x) λ t=>zb (Sp.right t&&z7 t) (some (Sp.text t a))
def K18:CK R1:=more 129 (λ a σ=>match zx3 a,psD σ with | some _,some p=>some (p,σ) | _,_=>none)
  (λ K q=>match q with | ((L,n),σ)=>zc (Sp.bytes L) λ s=>zb (Sp.fit n L) (zb (decide (n≤65536)) (K (.ret (.tup [.d (.str s),.d (.int .i64 0)])) (qn σ 1 (.tok (n+1))))))
  (λ K q=>by
   obtain ⟨⟨L,n⟩,σ⟩:=q;simp only [zb];rw [vx];congr 1;funext s;simp only [wt];rfl) (prK 128 zm9 z7h (prK 127 zpj z1g (zt 94 vp Sp.toC (λ t=>mkB (Sp.right t)) (zt 126 za5 some (λ s=>mkB (Sp.named s)) (CK.plain zn)))))
theorem z2d:knows cx K18.S (zh cx):=by
 have h36:=zj (f:=126) (dec:=za5) (sp:=some) (mk:=λ s=>mkB (Sp.named s)) zm λ a q b hd h hb=>by
  cases hb; obtain rfl:=vm h; exact z3t q (pc hd)
 have h37:=zj (f:=94) (dec:=vp) (sp:=Sp.toC) (mk:=λ t=>mkB (Sp.right t)) h36 λ a q b hd h hb=>by
  obtain rfl:=xy h;obtain ⟨rfl,h1⟩:=xz hb;exact z7y b.depth b (Nat.le_refl _) h1
 have h38:=zaq (f:=127) (dec:=zpj) (sp:=z1g) h37 λ a q s u L h hs hr=>by
  obtain ⟨rfl,h1,h2⟩:=zna h;obtain ⟨m,rfl,rfl⟩:=zmh hs;exact z7x u L m (by simpa using h2) (by intro e; rw [e] at h1; exact h1 rfl) hr
 have h39:=zaq (f:=128) (dec:=zm9) (sp:=z7h) h38 λ a q s u L ha hs hr=>by
  obtain ⟨x,n⟩:=q;obtain rfl:=zg4 ha;obtain ⟨t,ht,hs⟩:=zd hs;obtain ⟨hf,hs⟩:=ze hs;cases hs;obtain ⟨rfl,h2⟩:=xz ht;exact z7w t.depth u L t n (Nat.le_refl _) h2 hf hr
 exact we h39 λ a σ q r hd h=>by
  obtain ⟨⟨L,n⟩,τ⟩:=q;simp only at hd h;split at hd
  ·rename_i p ha hp;cases hd;obtain ⟨s,hs,h⟩:=zd h;obtain ⟨h1,h⟩:=ze h;obtain ⟨h2,h⟩:=ze h;cases h;obtain rfl:=zi0 ha;obtain ⟨u,rfl⟩:=zdj hp h1;have hn:n=L.length:=pc h1;have:=pc h2;rw [hn];exact ybw u L s hs (by omega)
  ·cases hd
def K19:CK R1:=zt 135 za5 some (λ s=>mkE (Sp.done s)) (zt 134 zcv z7g mkS (zt 59 vp Sp.toC (λ t=>mkB (Sp.right t)) (zt 133 za5 some (λ s=>mkB (Sp.named s)) (CK.plain zn))))
theorem z2c:knows cx K19.S (zh cx):=by
 have h41:=zj (f:=133) (dec:=za5) (sp:=some) (mk:=λ s=>mkB (Sp.named s)) zm λ a q b hd h hb=>by
  cases hb; obtain rfl:=vm h; exact z7v q (pc hd)
 have h42:=zj (f:=59) (dec:=vp) (sp:=Sp.toC) (mk:=λ t=>mkB (Sp.right t)) h41 λ a q b hd h hb=>by
  obtain rfl:=xy h;obtain ⟨rfl,h1⟩:=xz hb;exact z7u b.depth b (Nat.le_refl _) h1
 have h43:=zj (f:=134) (dec:=zcv) (sp:=z7g) (mk:=mkS) h42 λ a q s _ ha hs=>by
  obtain ⟨y,n⟩:=q;obtain rfl:=zaf ha;obtain ⟨t,ht,hs⟩:=zd hs;obtain ⟨hf,hs⟩:=ze hs;cases hs;obtain ⟨rfl,h2⟩:=xz ht;rw [ph] at hf;exact z7t t.depth t n (Nat.le_refl _) h2 hf.1 hf.2
 exact zj h43 λ a q b hd h hb=>by
  cases hb; obtain rfl:=vm h; exact ybv q
def zbe(a:Int):List (List UInt8)→Int→Option Int
 | [],b=>some b
 | x::l,b=>bif decide (b≤a) then (bif decide (a<(x.length:Int)) then none else zbe a l (b+1+x.length)) else some b
mutual
def Sp.blk:T→Int→Int
 | .mk _ nm kids nms _,a=>bif decide (a<(nm.length:Int))||decide (a<(nms.length:Int)) then a+1 else match zbe a nms (1+nm.length) with | some b=>zbw kids a b | none=>a+1
def zbw:List T→Int→Int→Int
 | [],_,b=>b
 | t::l,a,b=>bif decide (b≤a) then zbw l a (b+Sp.blk t (a - b)) else b
end
def spB(m:Nat):D×Int→Option (T×Int) | (x,a)=>zc (zg m x) λ t=>zb (decide (0≤a)&&decide (a≤1048576)) (some (t,a))
def KB(m:Nat):CK R1:=zt 28 zcv (spB m) (λ q=>mkI (Sp.blk q.1 q.2)) (CK.plain zn)
theorem zrn{a:Int}:∀ {l:List (List UInt8)} {b c:Int},zbe a l b=some c→0≤b→b≤2 * a+1→0≤a→b≤c∧c≤2 * a+1∧(c≤a→c=b+Sp.lens l)
 | [],b,c,h,h0,h1,ha=>by cases h; exact ⟨Int.le_refl _,h1,λ _=>by simp [Sp.lens]⟩
 | x::l,b,c,h,h0,h1,ha=>by
  unfold zbe at h;by_cases hb:b≤a
  ·rw [pa hb,cond_true] at h;by_cases hx:a<(x.length:Int)
   ·rw [pa hx] at h; cases h
   ·rw [pb hx,cond_false] at h;obtain ⟨h2,h3,h4⟩:=zrn h (by omega) (by omega) ha
    refine ⟨by omega,h3,λ hc=>?_⟩
    have:=h4 hc;simp only [Sp.lens];omega
  ·rw [pb hb,cond_false] at h;cases h;exact ⟨Int.le_refl _,h1,λ hc=>by omega⟩
mutual
theorem zp1:∀ (t:T) (a:Int),0≤a→0≤Sp.blk t a∧Sp.blk t a≤2 * a+2∧(Sp.blk t a≤a→Sp.blk t a=yt t)
 | .mk k nm kids nms pl,a,ha=>by
  unfold Sp.blk;cases hc:(decide (a<(nm.length:Int))||decide (a<(nms.length:Int)))
  ·simp only [Bool.or_eq_false_iff,decide_eq_false_iff_not] at hc;rw [cond_false];cases hn:zbe a nms (1+nm.length) with
   | none=>simp only; exact ⟨by omega,by omega,λ h=>by omega⟩
   | some b=>
    obtain ⟨h2,h3,h4⟩:=zrn hn (by omega) (by omega) ha
    obtain ⟨g1,g2,g3⟩:=zr0 kids a b ha (by omega) (by omega)
    simp only;refine ⟨by omega,g2,λ h=>?_⟩
    have:=h4 (by omega)
    have:=g3 h;simp only [yt];omega
  ·rw [cond_true];exact ⟨by omega,by omega,λ h=>by omega⟩
theorem zr0:∀ (l:List T) (a b:Int),0≤a→1≤b→b≤2 * a+2→b≤zbw l a b∧zbw l a b≤2 * a+2∧(zbw l a b≤a→zbw l a b=b+Sp.bulks l)
 | [],a,b,ha,hb,hb2=>by unfold zbw; exact ⟨Int.le_refl _,hb2,λ _=>by simp [Sp.bulks]⟩
 | t::l,a,b,ha,hb,hb2=>by
  unfold zbw;by_cases h:b≤a
  ·rw [pa h,cond_true];obtain ⟨h1,h2,h3⟩:=zp1 t (a - b) (by omega)
   obtain ⟨g1,g2,g3⟩:=zr0 l a (b+Sp.blk t (a - b)) ha (by omega) (by omega)
   refine ⟨by omega,g2,λ hc=>?_⟩
   have:=g3 hc;have:=h3 (by omega)
   simp only [Sp.bulks];omega
  ·rw [pb h,cond_false];exact ⟨Int.le_refl _,hb2,λ hc=>by omega⟩
end
theorem g33(n m:Nat)(k:Int)(nm:List UInt8)(kids:List T)(nms:List (List UInt8))(pl a:Int):zl cx (KB m) n 28 [.d (.agg [.int .i64 k,.str nm,.sl 5 (T.ds kids),.sl 1 (nms.map .str),.int .i64 pl]),.d (.int .i64 a)] []=bif decide (a<(↑nm.length:Int)) then some (Out.ret (V.d (D.int .i64 (IntKind.i64.wrap (a+(1:Int))))),[]) else bif decide (a<(↑(List.map D.str nms).length:Int)) then some (Out.ret (V.d (D.int .i64 (IntKind.i64.wrap (a+(1:Int))))),[]) else LP cx (KB m) n 28 0 5 n [(1,V.d (D.int .i64 a)),(2,V.ptr 2 0),(5,V.d (D.int .i64 (IntKind.i64.wrap ((1:Int)+(↑nm.length:Int))))),(6,V.d (D.int .i64 (0:Int)))] [(2,Ob.val 5 (V.d (D.agg [D.int .i64 k,D.str nm,D.sl 5 (T.ds kids),D.sl 1 (List.map D.str nms),D.int .i64 pl])))] (AK cx (KB m) n 28 0 5 (EK cx 28 0)):=by kernel_rfl
theorem yce(n m r:Nat)(k:Int)(nm:List UInt8)(kids:List T)(nms:List (List UInt8))(pl a b i:Int):LP cx (KB m) n 28 0 5 (r+1) [(1,V.d (D.int .i64 a)),(2,V.ptr 2 0),(5,V.d (D.int .i64 b)),(6,V.d (D.int .i64 i))] [(2,Ob.val 5 (V.d (D.agg [D.int .i64 k,D.str nm,D.sl 5 (T.ds kids),D.sl 1 (List.map D.str nms),D.int .i64 pl])))] (AK cx (KB m) n 28 0 5 (EK cx 28 0))=bif decide (i<(↑(List.map D.str nms).length:Int)) then bif decide (b≤a) then zb (decide (0≤i)&&decide (i<(↑(List.map D.str nms).length:Int))) (za (List.map D.str nms) i.toNat λ y=>za y.cells 0 λ c=>match c with
 | D.str s=>bif decide (a<(↑s.length:Int)) then some (Out.ret (V.d (D.int .i64 (IntKind.i64.wrap (a+(1:Int))))),[]) else zb (decide (0≤i)&&decide (i<(↑(List.map D.str nms).length:Int))) (za (List.map D.str nms) i.toNat λ y=>za y.cells 0 λ c=>match c with
  | D.str s=>LP cx (KB m) n 28 0 5 r [(1,V.d (D.int .i64 a)),(2,V.ptr 2 0),(5,V.d (D.int .i64 (IntKind.i64.wrap (IntKind.i64.wrap (b+(1:Int))+(↑s.length:Int))))),(6,V.d (D.int .i64 (IntKind.i64.wrap (i+(1:Int)))))] [(2,Ob.val 5 (V.d (D.agg [D.int .i64 k,D.str nm,D.sl 5 (T.ds kids),D.sl 1 (List.map D.str nms),D.int .i64 pl])))] (AK cx (KB m) n 28 0 5 (EK cx 28 0))
  | x=>none)
 | x=>none) else LP cx (KB m) n 28 0 11 n [(1,V.d (D.int .i64 a)),(2,V.ptr 2 0),(5,V.d (D.int .i64 b)),(7,V.d (D.int .i64 (0:Int)))] [(2,Ob.val 5 (V.d (D.agg [D.int .i64 k,D.str nm,D.sl 5 (T.ds kids),D.sl 1 (List.map D.str nms),D.int .i64 pl])))] (AK cx (KB m) n 28 0 11 (EK cx 28 0)) else LP cx (KB m) n 28 0 11 n [(1,V.d (D.int .i64 a)),(2,V.ptr 2 0),(5,V.d (D.int .i64 b)),(7,V.d (D.int .i64 (0:Int)))] [(2,Ob.val 5 (V.d (D.agg [D.int .i64 k,D.str nm,D.sl 5 (T.ds kids),D.sl 1 (List.map D.str nms),D.int .i64 pl])))] (AK cx (KB m) n 28 0 11 (EK cx 28 0)):=by kernel_rfl
theorem ycd(n m r:Nat)(k:Int)(nm:List UInt8)(kids:List T)(nms:List (List UInt8))(pl a b i:Int):LP cx (KB m) n 28 0 11 (r+1) [(1,V.d (D.int .i64 a)),(2,V.ptr 2 0),(5,V.d (D.int .i64 b)),(7,V.d (D.int .i64 i))] [(2,Ob.val 5 (V.d (D.agg [D.int .i64 k,D.str nm,D.sl 5 (T.ds kids),D.sl 1 (List.map D.str nms),D.int .i64 pl])))] (AK cx (KB m) n 28 0 11 (EK cx 28 0))=bif decide (i<(↑(T.ds kids).length:Int)) then bif decide (b≤a) then zb (decide (0≤i)&&decide (i<(↑(T.ds kids).length:Int))) (za (T.ds kids) i.toNat λ y=>za y.cells 0 λ c=>za y.cells 1 λ c_1=>za y.cells 2 λ c_2=>za y.cells 3 λ c_3=>za y.cells 4 λ c_4=>zc (zc (zg m (D.agg [c,c_1,c_2,c_3,c_4])) λ t=>zb (decide (0≤IntKind.i64.wrap (a - b))&&decide (IntKind.i64.wrap (a - b)≤1048576)) (some (t,IntKind.i64.wrap (a - b)))) λ b_1=>LP cx (KB m) n 28 0 11 r [(1,V.d (D.int .i64 a)),(2,V.ptr 2 0),(5,V.d (D.int .i64 (IntKind.i64.wrap (b+Sp.blk b_1.fst b_1.snd)))),(7,V.d (D.int .i64 (IntKind.i64.wrap (i+(1:Int)))))] [(2,Ob.val 5 (V.d (D.agg [D.int .i64 k,D.str nm,D.sl 5 (T.ds kids),D.sl 1 (List.map D.str nms),D.int .i64 pl])))] (AK cx (KB m) n 28 0 11 (EK cx 28 0))) else some (Out.ret (V.d (D.int .i64 b)),[]) else some (Out.ret (V.d (D.int .i64 b)),[]):=by kernel_rfl
theorem v6{α β:Type}{x:α}{K:α→Option β}:zc (some x) K=K x:=by unfold zc; simp
theorem zmn{x:Int}(h0 : -4294967296≤x)(h1:x≤17179869184):IntKind.i64.wrap x=x:=IntWalk.i64_in _ (by omega)
section
variable {n m:Nat} {k:Int} {nm:List UInt8} {kids:List T} {nms:List (List UInt8)} {pl a:Int}
theorem ztj(ha:0≤a)(ha2:a≤1048576)(hl:kids.length<4294967296)(hT:∀ t∈kids,zg m t.d=some t):∀ (rest:List T) (j r:Nat) (b:Int),kids.drop j=rest→j≤kids.length→rest.length<r→1≤b→b≤2 * a+2 →
  LP cx (KB m) n 28 0 11 r [(1,V.d (D.int .i64 a)),(2,V.ptr 2 0),(5,V.d (D.int .i64 b)),(7,V.d (D.int .i64 j))] [(2,Ob.val 5 (V.d (D.agg [D.int .i64 k,D.str nm,D.sl 5 (T.ds kids),D.sl 1 (List.map D.str nms),D.int .i64 pl])))] (AK cx (KB m) n 28 0 11 (EK cx 28 0))=some (.ret (mkI (zbw rest a b)),[])
 | [],j,r,b,hd,hj,hk',hb,hb2=>by
  obtain ⟨r,rfl⟩:∃ i,r=i+1:=⟨r - 1,by omega⟩
  have:kids.length≤j:=by simpa using hd
  obtain rfl:j=kids.length:=by omega
  rw [ycd,zo,yj];simp [zbw,mkI]
 | t::rest,j,r,b,hd,hj,hk',hb,hb2=>by
  obtain ⟨r,rfl⟩:∃ i,r=i+1:=⟨r - 1,by omega⟩
  obtain ⟨h1,h2,h3⟩:=zbu hd;rw [ycd,zo,z6 h1];unfold zbw;by_cases h:b≤a
  ·obtain ⟨q1,q2,_⟩:=zp1 t (a - b) (by omega)
   have ih:=ztj ha ha2 hl hT rest (j+1) r (b+Sp.blk t (a - b)) h3 h1 (by simp at hk'; omega) (by omega) (by omega)
   rw [pa h,yy,zz,pm,h2,xq h1 hl,zmn (x:=a - b) (by omega) (by omega)]
   simp only [cond_true,zb,zc,Bool.and_self,yb,xo,wz,vc,vb,va,wj,hT t (po h2)];rw [pa (p:=0≤a - b) (by omega),pa (p:=a - b≤1048576) (by omega)]
   simp only [Bool.and_self,cond_true];rw [zmn (x:=b+Sp.blk t (a - b)) (by omega) (by omega)]
   exact ih
  ·rw [pb h];rfl
theorem zze(ha:0≤a)(ha2:a≤1048576)(hn:4294967296<n)(hl:kids.length<4294967296)(hl2:nms.length<4294967296)(hT:∀ t∈kids,zg m t.d=some t):∀ (rest:List (List UInt8)) (j r:Nat) (b:Int),nms.drop j=rest→j≤nms.length→rest.length<r→1≤b→b≤2 * a+1 →
  LP cx (KB m) n 28 0 5 r [(1,V.d (D.int .i64 a)),(2,V.ptr 2 0),(5,V.d (D.int .i64 b)),(6,V.d (D.int .i64 j))] [(2,Ob.val 5 (V.d (D.agg [D.int .i64 k,D.str nm,D.sl 5 (T.ds kids),D.sl 1 (List.map D.str nms),D.int .i64 pl])))] (AK cx (KB m) n 28 0 5 (EK cx 28 0))=some (.ret (mkI (match zbe a rest b with | some c=>zbw kids a c | none=>a+1)),[])
 | [],j,r,b,hd,hj,hk',hb,hb2=>by
  obtain ⟨r,rfl⟩:∃ i,r=i+1:=⟨r - 1,by omega⟩
  have:nms.length≤j:=by simpa using hd
  obtain rfl:j=nms.length:=by omega
  have hB:=ztj (n:=n) (k:=k) (nm:=nm) (nms:=nms) (pl:=pl) ha ha2 hl hT kids 0 n b rfl (Nat.zero_le _) (by omega) hb (by omega)
  rw [yce,pf,yj,cond_false];exact hB
 | x::rest,j,r,b,hd,hj,hk',hb,hb2=>by
  obtain ⟨r,rfl⟩:∃ i,r=i+1:=⟨r - 1,by omega⟩
  obtain ⟨h1,h2,h3⟩:=zbu hd;have hB:=ztj (n:=n) (k:=k) (nm:=nm) (nms:=nms) (pl:=pl) ha ha2 hl hT kids 0 n b rfl (Nat.zero_le _) (by omega) hb (by omega)
  rw [yce,pf,z6 h1];by_cases h:b≤a
  ·rw [pa h,yy,xq h1 hl2];simp only [cond_true,zb,Bool.and_self,xx,pm,h2,zca,xo];rw [v6];by_cases hx:a<(x.length:Int)
   ·have e:zbe a (x::rest) b=none:=by unfold zbe; rw [pa h,pa hx]; rfl
    rw [pa hx,zmn (x:=a+1) (by omega) (by omega),e,cond_true]
    rfl
   ·have ih:=zze ha ha2 hn hl hl2 hT rest (j+1) r (b+1+x.length) h3 h1 (by simp at hk'; omega) (by omega) (by omega)
    have e:zbe a (x::rest) b=zbe a rest (b+1+x.length):=by 
     rw [zbe,pa h,pb hx]; rfl
    rw [pb hx,cond_false,v6,e,zmn (x:=b+1) (by omega) (by omega),zmn (x:=b+1+x.length) (by omega) (by omega)]
    exact ih
  ·have e:zbe a (x::rest) b=some b:=by unfold zbe; rw [pb h]; rfl
   rw [e,pb h,cond_true,cond_false];exact hB
end
theorem z7z:∀ (m:Nat) (t:T) (a:Int),t.depth≤m→t.ok=true→0≤a→a≤1048576→zh cx 28 [.d t.d,.d (.int .i64 a)] []=some (.ret (mkI (Sp.blk t a)),[])
 | 0,.mk ..,_,h,_,_,_=>by simp [T.depth] at h
 | m+1,.mk k nm kids nms pl,a,hd,ho,ha,ha2=>by
  have hK:knows cx (KB m).S (zh cx):=zj zm λ ar q s _ har hs=>by
   obtain ⟨y,n⟩:=q;obtain rfl:=zaf har;obtain ⟨t,ht,hs⟩:=zd hs;obtain ⟨hf,hs⟩:=ze hs;cases hs;obtain ⟨rfl,h1,h2⟩:=y5 ht;simp only [ph,decide_eq_true_eq] at hf;exact z7z m t n h1 h2 hf.1 hf.2
  obtain ⟨h1,h2,h3,h4,h5⟩:=wu ho;have hkd:=vo hd;have hT:∀ t∈kids,zg m t.d=some t:=λ t h=>zad hkd h5 h;refine zk hK (N:=4294967297) ?_;refine (g33 4294967297 m k nm kids nms pl a).trans ?_;rw [pf];unfold Sp.blk;by_cases q1:a<(nm.length:Int)
  ·rw [pa q1,cond_true,Bool.true_or,cond_true,zmn (x:=a+1) (by omega) (by omega)]
   rfl
  ·rw [pb q1,cond_false,Bool.false_or];by_cases q2:a<(nms.length:Int)
   ·rw [pa q2,cond_true,cond_true,zmn (x:=a+1) (by omega) (by omega)]
    rfl
   ·rw [pb q2,cond_false,cond_false,zmn (x:=1+nm.length) (by omega) (by omega)]
    exact zze ha ha2 (by omega) (yh h2) (yh h3) hT nms 0 4294967297 (1+nm.length) rfl (Nat.zero_le _) (by have:=yh h3; omega) (by omega) (by omega)
theorem g18(n:Nat)(l:List T):zl cx K18 n 87 [.d (.sl 5 (T.ds l))] []=LP cx K18 n 87 0 2 n [(0,V.d (D.sl 5 (T.ds l))),(9,V.d (D.sl 5 (T.ds l))),(10,V.d (D.int .i64 (↑(T.ds l).length:Int))),(11,V.d (D.int .i64 (0:Int)))] [] (AK cx K18 n 87 0 2 (EK cx 87 0)):=by kernel_rfl
theorem g19(n:Nat)(l:List T):zl cx K19 n 92 [.d (.sl 5 (T.ds l))] []=LP cx K19 n 92 0 3 n [(0,V.d (D.sl 5 (T.ds l))),(4,V.d (D.str [])),(5,V.d (D.int .i64 (0:Int)))] [] (AK cx K19 n 92 0 3 (EK cx 92 0)):=by kernel_rfl
theorem ych(n r:Nat)(l:List T)(i:Int):LP cx K18 n 87 0 2 (r+1) [(0,V.d (D.sl 5 (T.ds l))),(9,V.d (D.sl 5 (T.ds l))),(10,V.d (D.int .i64 (l.length:Int))),(11,V.d (D.int .i64 i))] [] (AK cx K18 n 87 0 2 (EK cx 87 0))=bif decide (i<(↑l.length:Int)) then zb (decide (0≤i)&&decide (i<(↑(T.ds l).length:Int))) (za (T.ds l) i.toNat λ y=>za y.cells 0 λ c=>za y.cells 1 λ c_1=>za y.cells 2 λ c_2=>za y.cells 3 λ c_3=>za y.cells 4 λ c_4=>match c with
 | D.int k' n_1=>bif decide (k'=IntKind.i64) then bif !decide (n_1=(18:Int)) then some (Out.ret (V.tup [V.d (D.str []),V.d (D.int .i64 (61:Int))]),[]) else match c_1 with
  | D.str s=>zb (decide (s.length≤big)) (bif !Sp.named s then some (Out.ret (V.tup [V.d (D.str []),V.d (D.int .i64 (61:Int))]),[]) else match c_3 with
   | D.sl s l_1=>bif s.beq (cx.P.cellsOf 9)||l_1.isEmpty then bif decide ((0:Int)<(↑l_1.length:Int)) then some (Out.ret (V.tup [V.d (D.str []),V.d (D.int .i64 (61:Int))]),[]) else match c_2 with
    | D.sl s l_2=>bif s.beq (cx.P.cellsOf 26)||l_2.isEmpty then bif !decide ((↑l_2.length:Int)=(2:Int)) then some (Out.ret (V.tup [V.d (D.str []),V.d (D.int .i64 (61:Int))]),[]) else match c_2 with
     | D.sl s l_3=>bif s.beq (cx.P.cellsOf 26)||l_3.isEmpty then zb (decide ((0:Int)<(↑l_3.length:Int))) (za l_3 (0:Int).toNat λ y=>za y.cells 0 λ c=>za y.cells 1 λ c_5=>za y.cells 2 λ c_6=>za y.cells 3 λ c_7=>za y.cells 4 λ c_8=>zc (Sp.toC (D.agg [c,c_5,c_6,c_7,c_8])) λ b=>bif !Sp.right b then some (Out.ret (V.tup [V.d (D.str []),V.d (D.int .i64 (61:Int))]),[]) else match c_2 with
      | D.sl s l_4=>bif s.beq (cx.P.cellsOf 26)||l_4.isEmpty then zb (decide ((1:Int)<(↑l_4.length:Int))) (za l_4 (1:Int).toNat λ y=>za y.cells 0 λ c=>za y.cells 1 λ c_9=>za y.cells 2 λ c_10=>za y.cells 3 λ c_11=>za y.cells 4 λ c_12=>zc (Sp.toC (D.agg [c,c_9,c_10,c_11,c_12])) λ b=>bif !Sp.right b then some (Out.ret (V.tup [V.d (D.str []),V.d (D.int .i64 (61:Int))]),[]) else LP cx K18 n 87 0 2 r [(0,V.d (D.sl 5 (T.ds l))),(9,V.d (D.sl 5 (T.ds l))),(10,V.d (D.int .i64 (↑l.length:Int))),(11,V.d (D.int .i64 (IntKind.i64.wrap (i+(1:Int)))))] [] (AK cx K18 n 87 0 2 (EK cx 87 0))) else none
      | x=>none) else none
     | x=>none else none
    | x=>none else none
   | x=>none)
  | x=>none else none
 | x=>none) else LP cx K18 n 87 0 9 n [(6,V.ptr 54 0),(55,V.d (D.sl 5 (T.ds l))),(56,V.d (D.int .i64 (↑(T.ds l).length:Int))),(57,V.d (D.int .i64 (0:Int)))] [(54,Ob.val 187695107 (V.agg [V.d D.nilptr,V.sl 6291457 [] 142,V.d (D.bool false)])),(142,Ob.tok 0)] (AK cx K18 n 87 0 9 (EK cx 87 0)):=by kernel_rfl
theorem ycf(n r:Nat)(l:List T)(s:List UInt8)(i:Int):LP cx K19 n 92 0 3 (r+1) [(0,V.d (D.sl 5 (T.ds l))),(4,V.d (D.str s)),(5,V.d (D.int .i64 i))] [] (AK cx K19 n 92 0 3 (EK cx 92 0))=bif decide (i<(↑(T.ds l).length:Int)) then zb (decide (0≤i)&&decide (i<(↑(T.ds l).length:Int))) (za (T.ds l) i.toNat λ y=>za y.cells 0 λ c=>za y.cells 1 λ c_1=>za y.cells 2 λ c_2=>za y.cells 3 λ c_3=>za y.cells 4 λ c_4=>match c with
 | D.int k' n_1=>bif decide (k'=IntKind.i64) then bif !decide (n_1=(18:Int)) then some (Out.ret (V.tup [V.d (D.str []),V.d (D.int .i64 (61:Int))]),[]) else match c_1 with
  | D.str s_1=>zb (decide (s_1.length≤big)) (bif !Sp.named s_1 then some (Out.ret (V.tup [V.d (D.str []),V.d (D.int .i64 (61:Int))]),[]) else match c_3 with
   | D.sl s_2 l_1=>bif s_2.beq (cx.P.cellsOf 9)||l_1.isEmpty then bif decide ((0:Int)<(↑l_1.length:Int)) then some (Out.ret (V.tup [V.d (D.str []),V.d (D.int .i64 (61:Int))]),[]) else match c_2 with
    | D.sl s_3 l_2=>bif s_3.beq (cx.P.cellsOf 26)||l_2.isEmpty then bif !decide ((↑l_2.length:Int)=(2:Int)) then some (Out.ret (V.tup [V.d (D.str []),V.d (D.int .i64 (61:Int))]),[]) else match c_2 with
     | D.sl s_4 l_3=>bif s_4.beq (cx.P.cellsOf 26)||l_3.isEmpty then zb (decide ((0:Int)<(↑l_3.length:Int))) (za l_3 (0:Int).toNat λ y=>za y.cells 0 λ c=>za y.cells 1 λ c_5=>za y.cells 2 λ c_6=>za y.cells 3 λ c_7=>za y.cells 4 λ c_8=>zc (Sp.toC (D.agg [c,c_5,c_6,c_7,c_8])) λ b=>bif !Sp.right b then some (Out.ret (V.tup [V.d (D.str []),V.d (D.int .i64 (61:Int))]),[]) else match c_2 with
      | D.sl s_5 l_4=>bif s_5.beq (cx.P.cellsOf 26)||l_4.isEmpty then zb (decide ((1:Int)<(↑l_4.length:Int))) (za l_4 (1:Int).toNat λ y=>za y.cells 0 λ c=>za y.cells 1 λ c_9=>za y.cells 2 λ c_10=>za y.cells 3 λ c_11=>za y.cells 4 λ c_12=>zc (Sp.toC (D.agg [c,c_9,c_10,c_11,c_12])) λ b=>bif !Sp.right b then some (Out.ret (V.tup [V.d (D.str []),V.d (D.int .i64 (61:Int))]),[]) else match c_1 with
       | D.str s_6=>zb (decide (s.length+s_6.length≤4611686018427387904)) (zb (decide ((s++s_6).length+[32,58,32].length≤4611686018427387904)) (match c_2 with
        | D.sl s_7 l_5=>bif s_7.beq (cx.P.cellsOf 26)||l_5.isEmpty then zb (decide ((0:Int)<(↑l_5.length:Int))) (za l_5 (0:Int).toNat λ y=>za y.cells 0 λ c=>za y.cells 1 λ c_13=>za y.cells 2 λ c_14=>za y.cells 3 λ c_15=>za y.cells 4 λ c_16=>zc (zc (Sp.toC (D.agg [c,c_13,c_14,c_15,c_16])) λ t=>zb (Sp.right t&&z7 t) (some (Sp.text t (0:Int)))) λ b=>zb (decide ((s++s_6++[32,58,32]).length+b.length≤4611686018427387904)) (zb (decide ((s++s_6++[32,58,32]++b).length+[32,61,32].length≤4611686018427387904)) (match c_2 with | D.sl s_8 l_6=>bif s_8.beq (cx.P.cellsOf 26)||l_6.isEmpty then zb (decide ((1:Int)<(↑l_6.length:Int))) (za l_6 (1:Int).toNat λ y=>za y.cells 0 λ c=>za y.cells 1 λ c_17=>za y.cells 2 λ c_18=>za y.cells 3 λ c_19=>za y.cells 4 λ c_20=>zc (zc (Sp.toC (D.agg [c,c_17,c_18,c_19,c_20])) λ t=>zb (Sp.right t&&z7 t) (some (Sp.text t (0:Int)))) λ b_1=>zb (decide ((s++s_6++[32,58,32]++b++[32,61,32]).length+b_1.length≤4611686018427387904)) (zb (decide ((s++s_6++[32,58,32]++b++[32,61,32]++b_1).length+[59,10].length≤4611686018427387904)) (LP cx K19 n 92 0 3 r [(0,V.d (D.sl 5 (T.ds l))),(4,V.d (D.str (s++s_6++[32,58,32]++b++[32,61,32]++b_1++[59,10]))),(5,V.d (D.int .i64 (IntKind.i64.wrap (i+(1:Int)))))] [] (AK cx K19 n 92 0 3 (EK cx 92 0))))) else none | x=>none))) else none
        | x=>none))
       | x=>none) else none
      | x=>none) else none
     | x=>none else none
    | x=>none else none
   | x=>none)
  | x=>none else none
 | x=>none) else zb (decide (s.length≤big)) (some (Out.ret (V.tup [V.d (D.str (Sp.done s).1),V.d (D.int .i64 (Sp.done s).snd)]),[])):=by kernel_rfl
theorem ycg(n r:Nat)(l:List T)(L:List D)(i:Int):LP cx K18 n 87 0 9 (r+1) [(6,V.ptr 54 0),(55,V.d (D.sl 5 (T.ds l))),(56,V.d (D.int .i64 (l.length:Int))),(57,V.d (D.int .i64 i))] [(54,Ob.val 187695107 (V.agg [V.ptr 54 0,V.sl 6291457 L 142,V.d (D.bool false)])),(142,Ob.tok L.length)] (AK cx K18 n 87 0 9 (EK cx 87 0))=bif decide (i<(↑l.length:Int)) then zb (decide (0≤i)&&decide (i<(↑(T.ds l).length:Int))) (za (T.ds l) i.toNat λ y=>za y.cells 0 λ c=>za y.cells 1 λ c=>za y.cells 2 λ c_1=>za y.cells 3 λ c_2=>za y.cells 4 λ c_3=>match c with
 | D.str s=>zb (Sp.fit L.length L) (zb (Sp.room L (s++([32,58,32]++[]))) (match c_1 with
  | D.sl s_1 l_1=>bif s_1.beq (cx.P.cellsOf 26)||l_1.isEmpty then zb (decide ((0:Int)<(↑l_1.length:Int))) (za l_1 (0:Int).toNat λ y=>za y.cells 0 λ c=>za y.cells 1 λ c_4=>za y.cells 2 λ c_5=>za y.cells 3 λ c_6=>za y.cells 4 λ c_7=>zc (zc (Sp.toC (D.agg [c,c_4,c_5,c_6,c_7])) λ t=>zb (Sp.right t) (some (Sp.text t (0:Int)))) λ s_2=>zb (Sp.fit (Sp.app L (s++([32,58,32]++[]))).length (Sp.app L (s++([32,58,32]++[])))) (zb (Sp.room (Sp.app L (s++([32,58,32]++[]))) s_2) (zb (Sp.fit (Sp.app (Sp.app L (s++([32,58,32]++[]))) s_2).length (Sp.app (Sp.app L (s++([32,58,32]++[]))) s_2)) (zb (Sp.room (Sp.app (Sp.app L (s++([32,58,32]++[]))) s_2) [32,61,32]) (match c_1 with
   | D.sl s_3 l_2=>bif s_3.beq (cx.P.cellsOf 26)||l_2.isEmpty then zb (decide ((1:Int)<(↑l_2.length:Int))) (za l_2 (1:Int).toNat λ y=>za y.cells 0 λ c=>za y.cells 1 λ c_8=>za y.cells 2 λ c_9=>za y.cells 3 λ c_10=>za y.cells 4 λ c_11=>zc (zc (Sp.toC (D.agg [c,c_8,c_9,c_10,c_11])) λ t=>zb (Sp.right t) (some (Sp.text t (0:Int)))) λ s_4=>zb (Sp.fit (Sp.app (Sp.app (Sp.app L (s++([32,58,32]++[]))) s_2) [32,61,32]).length (Sp.app (Sp.app (Sp.app L (s++([32,58,32]++[]))) s_2) [32,61,32])) (zb (Sp.room (Sp.app (Sp.app (Sp.app L (s++([32,58,32]++[]))) s_2) [32,61,32]) s_4) (zb (Sp.fit (Sp.app (Sp.app (Sp.app (Sp.app L (s++([32,58,32]++[]))) s_2) [32,61,32]) s_4).length (Sp.app (Sp.app (Sp.app (Sp.app L (s++([32,58,32]++[]))) s_2) [32,61,32]) s_4)) (zb (Sp.room (Sp.app (Sp.app (Sp.app (Sp.app L (s++([32,58,32]++[]))) s_2) [32,61,32]) s_4) [59,10]) (LP cx K18 n 87 0 9 r [(6,V.ptr 54 0),(55,V.d (D.sl 5 (T.ds l))),(56,V.d (D.int .i64 (↑l.length:Int))),(57,V.d (D.int .i64 (IntKind.i64.wrap (i+(1:Int)))))] [(54,Ob.val 187695107 (V.agg [V.ptr 54 0,V.sl 6291457 (Sp.app (Sp.app (Sp.app (Sp.app (Sp.app L (s++([32,58,32]++[]))) s_2) [32,61,32]) s_4) [59,10]) 142,V.d (D.bool false)])),(142,Ob.tok (Sp.app (Sp.app (Sp.app (Sp.app (Sp.app L (s++([32,58,32]++[]))) s_2) [32,61,32]) s_4) [59,10]).length)] (AK cx K18 n 87 0 9 (EK cx 87 0))))))) else none
   | x=>none))))) else none
  | x=>none))
 | x=>none) else zc (Sp.bytes L) λ s=>zb (Sp.fit L.length L) (zb (decide (L.length≤65536)) (some (Out.ret (V.tup [V.d (D.str s),V.d (D.int .i64 (0:Int))]),[]))):=by kernel_rfl
theorem z71(n r:Nat)(l:List T)(L:List D)(i:Int):LP cx K18 n 87 0 9 (r+1) [(6,V.ptr 54 0),(55,V.d (D.sl 5 (T.ds l))),(56,V.d (D.int .i64 (l.length:Int))),(57,V.d (D.int .i64 i))] [(54,Ob.val 187695107 (V.agg [V.d D.nilptr,V.sl 6291457 L 142,V.d (D.bool false)])),(142,Ob.tok L.length)] (AK cx K18 n 87 0 9 (EK cx 87 0))=bif decide (i<(↑l.length:Int)) then zb (decide (0≤i)&&decide (i<(↑(T.ds l).length:Int))) (za (T.ds l) i.toNat λ y=>za y.cells 0 λ c=>za y.cells 1 λ c=>za y.cells 2 λ c_1=>za y.cells 3 λ c_2=>za y.cells 4 λ c_3=>match c with
 | D.str s=>zb (Sp.fit L.length L) (zb (Sp.room L (s++([32,58,32]++[]))) (match c_1 with
  | D.sl s_1 l_1=>bif s_1.beq (cx.P.cellsOf 26)||l_1.isEmpty then zb (decide ((0:Int)<(↑l_1.length:Int))) (za l_1 (0:Int).toNat λ y=>za y.cells 0 λ c=>za y.cells 1 λ c_4=>za y.cells 2 λ c_5=>za y.cells 3 λ c_6=>za y.cells 4 λ c_7=>zc (zc (Sp.toC (D.agg [c,c_4,c_5,c_6,c_7])) λ t=>zb (Sp.right t) (some (Sp.text t (0:Int)))) λ s_2=>zb (Sp.fit (Sp.app L (s++([32,58,32]++[]))).length (Sp.app L (s++([32,58,32]++[])))) (zb (Sp.room (Sp.app L (s++([32,58,32]++[]))) s_2) (zb (Sp.fit (Sp.app (Sp.app L (s++([32,58,32]++[]))) s_2).length (Sp.app (Sp.app L (s++([32,58,32]++[]))) s_2)) (zb (Sp.room (Sp.app (Sp.app L (s++([32,58,32]++[]))) s_2) [32,61,32]) (match c_1 with
   | D.sl s_3 l_2=>bif s_3.beq (cx.P.cellsOf 26)||l_2.isEmpty then zb (decide ((1:Int)<(↑l_2.length:Int))) (za l_2 (1:Int).toNat λ y=>za y.cells 0 λ c=>za y.cells 1 λ c_8=>za y.cells 2 λ c_9=>za y.cells 3 λ c_10=>za y.cells 4 λ c_11=>zc (zc (Sp.toC (D.agg [c,c_8,c_9,c_10,c_11])) λ t=>zb (Sp.right t) (some (Sp.text t (0:Int)))) λ s_4=>zb (Sp.fit (Sp.app (Sp.app (Sp.app L (s++([32,58,32]++[]))) s_2) [32,61,32]).length (Sp.app (Sp.app (Sp.app L (s++([32,58,32]++[]))) s_2) [32,61,32])) (zb (Sp.room (Sp.app (Sp.app (Sp.app L (s++([32,58,32]++[]))) s_2) [32,61,32]) s_4) (zb (Sp.fit (Sp.app (Sp.app (Sp.app (Sp.app L (s++([32,58,32]++[]))) s_2) [32,61,32]) s_4).length (Sp.app (Sp.app (Sp.app (Sp.app L (s++([32,58,32]++[]))) s_2) [32,61,32]) s_4)) (zb (Sp.room (Sp.app (Sp.app (Sp.app (Sp.app L (s++([32,58,32]++[]))) s_2) [32,61,32]) s_4) [59,10]) (LP cx K18 n 87 0 9 r [(6,V.ptr 54 0),(55,V.d (D.sl 5 (T.ds l))),(56,V.d (D.int .i64 (↑l.length:Int))),(57,V.d (D.int .i64 (IntKind.i64.wrap (i+(1:Int)))))] [(54,Ob.val 187695107 (V.agg [V.ptr 54 0,V.sl 6291457 (Sp.app (Sp.app (Sp.app (Sp.app (Sp.app L (s++([32,58,32]++[]))) s_2) [32,61,32]) s_4) [59,10]) 142,V.d (D.bool false)])),(142,Ob.tok (Sp.app (Sp.app (Sp.app (Sp.app (Sp.app L (s++([32,58,32]++[]))) s_2) [32,61,32]) s_4) [59,10]).length)] (AK cx K18 n 87 0 9 (EK cx 87 0))))))) else none
   | x=>none))))) else none
  | x=>none))
 | x=>none) else zc (Sp.bytes L) λ s=>zb (Sp.fit L.length L) (zb (decide (L.length≤65536)) (some (Out.ret (V.tup [V.d (D.str s),V.d (D.int .i64 (0:Int))]),[]))):=by kernel_rfl
def yn:T→Bool | .mk k nm [a,b] [] _=>decide (k=18)&&Sp.named nm&&Sp.right a&&Sp.right b | _=>false
def qe:T→List UInt8 | .mk _ nm [a,b] _ _=>nm++[32,58,32]++Sp.text a 0++[32,61,32]++Sp.text b 0++[59,10] | _=>[]
def x8(l:List T):List UInt8:=(l.map qe).flatten
def zby(l:List T):List UInt8×Int:=bif l.all yn then (x8 l,0) else ([],61)
theorem zsk(t:T):(qe t).length≤12 * yt t:=by
 obtain ⟨k,nm,kids,nms,pl⟩:=t;rcases kids with _ | ⟨a,_ | ⟨b,_ | ⟨c,l⟩⟩⟩
 ·simp [qe]
 ·simp [qe]
 ·have:=zj8 a 0;have:=zj8 b 0;simp only [qe,yt,Sp.bulks,pe,List.length_cons,List.length_nil];omega
 ·simp [qe]
theorem zpf:∀ l:List T,(x8 l).length≤12 * Sp.bulks l
 | []=>by simp [x8]
 | t::l=>by
  have:=zsk t;have:=zpf l;simp only [x8,List.map_cons,List.flatten_cons,pe,Sp.bulks] at this ⊢;omega
theorem zpg{t:T}(h:yn t=true):∃ nm a b pl,t=.mk 18 nm [a,b] [] pl∧Sp.named nm=true∧Sp.right a=true∧Sp.right b=true:=by
 obtain ⟨k,nm,kids,nms,pl⟩:=t;rcases kids with _ | ⟨a,_ | ⟨b,_ | ⟨c,l⟩⟩⟩ <;> rcases nms with _ | ⟨x,r⟩ <;> simp [yn] at h
 obtain ⟨⟨⟨rfl,h1⟩,h2⟩,h3⟩:=h;exact ⟨nm,a,b,pl,rfl,h1,h2,h3⟩
def prV(u:Bool):V:=match u with | true=>.ptr 54 0 | false=>.d .nilptr
abbrev L18 (n r:Nat) (l:List T) (u:Bool) (L:List D) (i:Int):Option R1:=
 LP cx K18 n 87 0 9 r [(6,V.ptr 54 0),(55,V.d (D.sl 5 (T.ds l))),(56,V.d (D.int .i64 (l.length:Int))),(57,V.d (D.int .i64 i))] [(54,Ob.val 187695107 (V.agg [prV u,V.sl 6291457 L 142,V.d (D.bool false)])),(142,Ob.tok L.length)] (AK cx K18 n 87 0 9 (EK cx 87 0))
theorem zzm(n:Nat){l:List T}(hl:l.length<4294967296)(ho:T.oks l=true)(hd0:∀ t∈l,yn t=true):∀ (rest:List T) (j r:Nat) (u:Bool) (s:List UInt8),l.drop j=rest→j≤l.length→rest.length<r→s.length+(x8 rest).length≤65536 →
  L18 n r l u (Sp.app [] s) j=some (.ret (mkE (s++x8 rest,0)),[])
 | [],j,r,u,s,hd,hj,hk',hb=>by
  obtain ⟨r,rfl⟩:∃ i,r=i+1:=⟨r - 1,by omega⟩
  have:l.length≤j:=by simpa using hd
  obtain rfl:j=l.length:=by omega
  have e:(Sp.app [] s).length≤65536:=by rw [x9]; simp; omega
  simp only [L18,x8,List.map_nil,List.flatten_nil,List.append_nil];cases u
  ·refine (z71 n r l (Sp.app [] s) l.length).trans ?_;rw [yj,cond_false,zsp];simp only [zb,ye,cond_true,v6];rw [pa e];rfl
  ·refine (ycg n r l (Sp.app [] s) l.length).trans ?_;rw [yj,cond_false,zsp];simp only [zb,ye,cond_true,v6];rw [pa e];rfl
 | t::rest,j,r,u,s,hd,hj,hk',hb=>by
  obtain ⟨r,rfl⟩:∃ i,r=i+1:=⟨r - 1,by omega⟩
  obtain ⟨h1,h2,h3⟩:=zbu hd;have htm:=po h2;obtain ⟨nm,a,b,pl,rfl,hn,ha,hbb⟩:=zpg (hd0 t htm);obtain ⟨_,_,_,_,o5⟩:=wu (wn ho htm);have ih:=zzm n hl ho hd0 rest (j+1) r true (s++qe (.mk 18 nm [a,b] [] pl)) h3 h1 (by simp at hk'; omega) (by simp only [x8,List.map_cons,List.flatten_cons,pe] at hb ⊢; omega)
  have e:s++x8 (.mk 18 nm [a,b] [] pl::rest)=s++qe (.mk 18 nm [a,b] [] pl)++x8 rest:=by simp [x8]
  rw [e,←ih];have hlen:s.length+(nm.length+3+(Sp.text a 0).length+3+(Sp.text b 0).length+2)≤65536:=by
   simp only [x8,List.map_cons,List.flatten_cons,pe,qe,List.length_cons,List.length_nil] at hb;omega
  have e0:decide ((0:Int)<((T.ds [a,b]).length:Int))=true:=by rw [zo]; rfl
  have e1:decide ((1:Int)<((T.ds [a,b]).length:Int))=true:=by rw [zo]; rfl
  have n0:[a,b][(0:Int).toNat]?=some a:=rfl;have n1:[a,b][(1:Int).toNat]?=some b:=rfl;have hCa:Sp.toC a.d=some a:=zdf o5 (by simp)
  have hCb:Sp.toC b.d=some b:=zdf o5 (by simp)
  have hal:(Sp.app [] s).length=s.length:=by rw [x9]; simp
  simp only [L18];cases u
  ·refine (z71 n r l (Sp.app [] s) j).trans ?_;rw [z6 h1,zo,z6 h1,yy,zz,pm,h2,xq h1 hl,v6];simp only [cond_true,zb,Bool.and_self,↓zam,xo,wz,vc,vb,va,ye,zfv,Bool.true_or,e0,e1,zz,n0,n1,yb,zih,zh3,hCa,hCb,v6,ha,hbb];simp (disch:=((try simp only [x9,hal,pe,List.length_cons,List.length_nil]); omega)) only [wm,cond_true]
   simp [xp,prV,qe]
  ·refine (ycg n r l (Sp.app [] s) j).trans ?_;rw [z6 h1,zo,z6 h1,yy,zz,pm,h2,xq h1 hl,v6];simp only [cond_true,zb,Bool.and_self,↓zam,xo,wz,vc,vb,va,ye,zfv,Bool.true_or,e0,e1,zz,n0,n1,yb,zih,zh3,hCa,hCb,v6,ha,hbb];simp (disch:=((try simp only [x9,hal,pe,List.length_cons,List.length_nil]); omega)) only [wm,cond_true]
   simp [xp,prV,qe]
theorem z6i(l:List T)(hl:yd l=true)(ho:T.oks l=true)(hb:12 * Sp.bulks l≤65536):zh cx 87 [.d (.sl 5 (T.ds l))] []=some (.ret (mkE (zby l)),[]):=by
 refine zk z2d (N:=l.length+1) ?_;rw [g18]
 have h:=vr (λ r i=>LP cx K18 (l.length+1) 87 0 2 r [(0,V.d (D.sl 5 (T.ds l))),(9,V.d (D.sl 5 (T.ds l))),(10,V.d (D.int .i64 (l.length:Int))),(11,V.d (D.int .i64 i))] [] (AK cx K18 (l.length+1) 87 0 2 (EK cx 87 0)))
  l (λ t=>!yn t) (λ j=>some (Out.ret (mkE ([],61)),[])) (L18 (l.length+1) (l.length+1) l false [] 0) (yh hl)
  (λ r j x hj hx=>by
   rw [ych,zo,z6 hj,yy,zz,pm,hx,v6];obtain ⟨q1,q2,q3,q4,q5⟩:yd x.nm=true∧yd x.kids=true∧yd x.nms=true∧x.nms.all yd=true∧T.oks x.kids=true:=by
    have:=wn ho (po hx);cases x; exact wu this
   have hC:∀ t∈x.kids,Sp.toC t.d=some t:=λ t h=>zdf q5 h;generalize LP cx K18 (l.length+1) 87 0 2 r _ _ _=Z;obtain ⟨k',nm',kids',nms',pl'⟩:=x;simp only [zkr,zac,zgs] at q1 q2 q3 q4 q5 hC;simp only [cond_true,zb,v6,Bool.and_self,↓zam,xo,wz,vc,vb,va,decide_true,zw0,zfv,Bool.true_or,zo,pf,zkz,zmz,zl4,ztl,zot,zz,yb,zih,zh3,ql q1];have hk:k'=18∨k' ≠ 18:=by omega
   rcases hk with rfl | hk <;> rcases kids' with _ | ⟨b,_ | ⟨c,_ | ⟨d,l⟩⟩⟩ <;> rcases nms' with _ | ⟨y,nms'⟩ <;> simp [yn,hC,v6,mkE, *]
   cases Sp.named nm' <;> cases Sp.right b <;> cases Sp.right c <;> rfl)
  (λ r=>by rw [ych,yj,cond_false,zo]; rfl) (k:=l.length+1) (by omega)
 rw [zo];refine h.trans ?_;unfold zby;have e:l.all yn = !(l.any λ s=>!yn s):=by rw [List.not_any_eq_all_not]; simp
 cases hf:ym (λ t=>!yn t) l 0 with
 | some j=>
  have:l.any (λ s=>!yn s)=true:=by rw [←zbc l 0,hf]; rfl
  rw [e,this];rfl
 | none=>
  have h0:l.any (λ s=>!yn s)=false:=by rw [←zbc l 0,hf]; rfl
  have hall:∀ t∈l,yn t=true:=by
   have:l.all yn=true:=by rw [e,h0]; rfl
   exact List.all_eq_true.1 this
  have:=zpf l;have hL:=zzm (l.length+1) (yh hl) ho hall l 0 (l.length+1) false [] rfl (Nat.zero_le _) (by omega) (by simp; omega)
  rw [e,h0];exact hL
abbrev L19 (n r:Nat) (l:List T) (s:List UInt8) (i:Int):Option R1:=
 LP cx K19 n 92 0 3 r [(0,V.d (D.sl 5 (T.ds l))),(4,V.d (D.str s)),(5,V.d (D.int .i64 i))] [] (AK cx K19 n 92 0 3 (EK cx 92 0))
theorem z3p(n:Nat){l:List T}(hl:l.length<4294967296)(ho:T.oks l=true)(hb0:Sp.bulks l≤16777216):∀ (rest:List T) (j r:Nat) (s:List UInt8),l.drop j=rest→j≤l.length→rest.length<r→s.length+12 * Sp.bulks rest≤65536 →
  L19 n r l s j=some (.ret (mkE (bif rest.all yn then (s++x8 rest,0) else ([],61))),[])
 | [],j,r,s,hd,hj,hk',hb=>by
  obtain ⟨r,rfl⟩:∃ i,r=i+1:=⟨r - 1,by omega⟩
  have:l.length≤j:=by simpa using hd
  obtain rfl:j=l.length:=by omega
  have e:Sp.done s=(s,0):=by unfold Sp.done; rw [pb (by omega)]; rfl
  simp only [L19];rw [ycf,zo,yj,cond_false,e,pa (by unfold big; omega)]
  simp [zb,x8,mkE]
 | t::rest,j,r,s,hd,hj,hk',hb=>by
  obtain ⟨r,rfl⟩:∃ i,r=i+1:=⟨r - 1,by omega⟩
  obtain ⟨h1,h2,h3⟩:=zbu hd;have htm:=po h2;have hbt:=zdn htm;have hdl:=zsk t;simp only [Sp.bulks] at hb;have ih:=z3p n hl ho hb0 rest (j+1) r (s++qe t) h3 h1 (by simp at hk'; omega) (by simp only [pe]; omega)
  simp only [L19] at ih ⊢;rw [ycf,zo,z6 h1,yy,zz,pm,h2,xq h1 hl,v6];obtain ⟨q1,q2,q3,q4,q5⟩:yd t.nm=true∧yd t.kids=true∧yd t.nms=true∧t.nms.all yd=true∧T.oks t.kids=true:=by
   have:=wn ho htm;cases t; exact wu this
  have hC:∀ u∈t.kids,Sp.toC u.d=some u:=λ t h=>zdf q5 h;have hLt:∀ u∈t.kids,z7 u=true:=λ u hu=>by
   have:=zdn hu;refine pa ?_;obtain ⟨k',nm',kids',nms',pl'⟩:=t;simp only [yt] at hbt;simp only [zac] at this;omega
  obtain ⟨k',nm',kids',nms',pl'⟩:=t;simp only [zkr,zac,zgs] at q1 q2 q3 q4 q5 hC hLt;by_cases hok:yn (.mk k' nm' kids' nms' pl')=true
  ·obtain ⟨nm,a,b,pl,he,hn,ha,hbb⟩:=zpg hok;cases he;have e:s++x8 (.mk 18 nm' [a,b] [] pl'::rest)=s++qe (.mk 18 nm' [a,b] [] pl')++x8 rest:=by simp [x8]
   refine Eq.trans ?_ (ih.trans (by rw [List.all_cons,hok,Bool.true_and,e]))
   have e0:decide ((0:Int)<((T.ds [a,b]).length:Int))=true:=by rw [zo]; rfl
   have e1:decide ((1:Int)<((T.ds [a,b]).length:Int))=true:=by rw [zo]; rfl
   have e2:decide (((T.ds [a,b]).length:Int)=2)=true:=by rw [zo]; rfl
   have n0:[a,b][(0:Int).toNat]?=some a:=rfl;have n1:[a,b][(1:Int).toNat]?=some b:=rfl;have ez:decide ((0:Int)<((([]:List (List UInt8)).map D.str).length:Int))=false:=rfl;have hta:=zj8 a 0;have htb:=zj8 b 0;simp only [yt,Sp.bulks] at hb;simp only [cond_true,cond_false,zb,v6,Bool.and_self,↓zam,xo,wz,vc,vb,va,decide_true,Bool.not_true,zw0,zfv,Bool.true_or,e0,e1,e2,ez,n0,n1,zz,yb,zih,zh3,ql q1,hn,hC a (by simp),hC b (by simp),hLt a (by simp),hLt b (by simp),ha,hbb]
   simp (disch:=((try simp only [pe,List.length_cons,List.length_nil]); omega)) only [dle,cond_true]
   simp [qe]
  ·have hno:yn (.mk k' nm' kids' nms' pl')=false:=by simpa using hok
   rw [List.all_cons,hno,Bool.false_and,cond_false];clear ih;simp only [cond_true,zb,Bool.and_self,↓zam,xo,wz,vc,vb,va,decide_true,zw0,zfv,Bool.true_or,zo,pf,zkz,zmz,zl4,ztl,zot,zz,yb,zih,zh3,ql q1];have hk:k'=18∨k' ≠ 18:=by omega
   rcases hk with rfl | hk
   ·cases hn:Sp.named nm'
    ·simp [mkE]
    ·rcases nms' with _ | ⟨y,nms'⟩
     ·by_cases h2:kids'.length=2
      ·obtain ⟨b,c,rfl⟩:∃ b c,kids'=[b,c]:=by
        rcases kids' with _ | ⟨b,_ | ⟨c,_ | ⟨d,l⟩⟩⟩ <;> simp at h2
        exact ⟨b,c,rfl⟩
       have n0:[b,c][(0:Int).toNat]?=some b:=rfl;have n1:[b,c][(1:Int).toNat]?=some c:=rfl;have hs:(Sp.right b&&Sp.right c)=false:=by simpa [yn,hn] using hno
       simp only [n0,n1,v6,hC b (by simp),hC c (by simp)]
       cases hb1:Sp.right b
       ·simp [mkE]
       ·have hb2:Sp.right c=false:=by rw [hb1] at hs; simpa using hs
        rw [hb2];simp [mkE]
      ·rw [pb h2];simp [mkE]
     ·simp [mkE]
   ·rw [pb hk];simp [mkE]
theorem z89(l:List T)(hl:yd l=true)(ho:T.oks l=true)(hb:12 * Sp.bulks l≤65536):zh cx 92 [.d (.sl 5 (T.ds l))] []=some (.ret (mkE (zby l)),[]):=by
 refine zk z2c (N:=l.length+1) ?_;rw [g19];have h:=z3p (l.length+1) (yh hl) ho (by omega) l 0 (l.length+1) [] rfl (Nat.zero_le _) (by omega) (by simp; omega)
 exact h
end Go.Vai
end
section
namespace Go.Proofs
open Go.Shelf
def Tryz.growS_ren:Go.Shelf.Ren:=⟨λ | 4=>165 | n=>n,λ | 22=>23 | 25=>9 | 3=>3 | 4=>4 | 9=>9 | 20=>20 | 0=>0 | n=>n,λ | n=>n⟩
theorem Tryz.growS:Go.Proofs.Lays8.n4 Tryz.prog Tryz.growS_ren:={
 mixed:=by kernel_rfl
 f4:=⟨Tryz.f165.name,by decide,Tryz.func165.trans (congrArg some (by kernel_rfl))⟩
 t0:=Tryz.underlying0
 a0:=Tryz.isAgg0
 z0:=Tryz.sizeOf0
 v0:=Tryz.zeroValue0
 t3:=Tryz.underlying3
 a3:=Tryz.isAgg3
 z3:=Tryz.sizeOf3
 v3:=Tryz.zeroValue3
 t4:=Tryz.underlying4
 a4:=Tryz.isAgg4
 z4:=Tryz.sizeOf4
 v4:=Tryz.zeroValue4
 t9:=Tryz.underlying9
 a9:=Tryz.isAgg9
 z9:=Tryz.sizeOf9
 v9:=Tryz.zeroValue9
 t20:=Tryz.underlying20
 a20:=Tryz.isAgg20
 z20:=Tryz.sizeOf20
 v20:=Tryz.zeroValue20
 t22:=Tryz.underlying23
 a22:=Tryz.isAgg23
 z22:=Tryz.sizeOf23
 v22:=Tryz.zeroValue23 }
def Tryz.lays169_ren:Go.Shelf.Ren:=⟨λ | 169=>164 | n=>n,λ | 70=>173 | 9=>9 | 0=>0 | 72=>176 | 37=>174 | 127=>232 | 3=>3 | 5=>5 | n=>n,λ | n=>n⟩
theorem Tryz.lays169:Go.Proofs.Lays.n169 Tryz.prog Tryz.lays169_ren:={
 mixed:=by kernel_rfl
 f169:=Tryz.func164.trans (congrArg some (by kernel_rfl))
 t0:=Tryz.underlying0
 a0:=Tryz.isAgg0
 z0:=Tryz.sizeOf0
 v0:=Tryz.zeroValue0
 t3:=Tryz.underlying3
 a3:=Tryz.isAgg3
 z3:=Tryz.sizeOf3
 v3:=Tryz.zeroValue3
 t9:=Tryz.underlying9
 a9:=Tryz.isAgg9
 z9:=Tryz.sizeOf9
 v9:=Tryz.zeroValue9
 t37:=Tryz.underlying174
 a37:=Tryz.isAgg174
 z37:=Tryz.sizeOf174
 v37:=Tryz.zeroValue174
 t70:=Tryz.underlying173
 a70:=Tryz.isAgg173
 z70:=Tryz.sizeOf173
 v70:=Tryz.zeroValue173
 t72:=Tryz.underlying176
 a72:=Tryz.isAgg176
 z72:=Tryz.sizeOf176
 v72:=Tryz.zeroValue176
 t127:=Tryz.underlying232
 a127:=Tryz.isAgg232
 z127:=Tryz.sizeOf232
 v127:=Tryz.zeroValue232 }
theorem Tryz.Builder_Extra_169:Builder.Extra Tryz.prog Tryz.lays169_ren:={
 sizeBuilder:=by kernel_rfl
 liesBuilder:=by kernel_rfl
 t5:=Tryz.underlying5
 a5:=Tryz.isAgg5
 z5:=Tryz.sizeOf5
 v5:=Tryz.zeroValue5
 infoByte:=by kernel_rfl
 cellsByte:=by kernel_rfl
 sizeByte:=by kernel_rfl
 neB5:=by decide }
open Go.RowKit in
def Tryz.lays156_ren:Go.Shelf.Ren:=⟨λ | 156=>192 | 165=>215 | 166=>159 | 169=>164 | 240=>191 | 241=>231 | 276=>214 | 277=>242 | n=>n,λ | 31=>23 | 9=>9 | 3=>3 | 4=>4 | 0=>0 | 20=>20 | 72=>176 | 76=>204 | 70=>173 | 37=>174 | 75=>203 | 127=>232 | 164=>237 | 5=>5 | 80=>155 | n=>n,λ | n=>n⟩
theorem Tryz.lays156:Go.Proofs.Lays.n156 Tryz.prog Tryz.lays156_ren:={
 mixed:=by kernel_rfl
 f156:=Tryz.func192.trans (congrArg some (by kernel_rfl))
 f165:=Tryz.func215.trans (congrArg some (by kernel_rfl))
 f166:=Tryz.func159.trans (congrArg some (by kernel_rfl))
 f169:=Tryz.func164.trans (congrArg some (by kernel_rfl))
 f240:=Tryz.func191.trans (congrArg some (by kernel_rfl))
 f241:=Tryz.func231.trans (congrArg some (by kernel_rfl))
 f276:=Tryz.func214.trans (congrArg some (by kernel_rfl))
 f277:=Tryz.func242.trans (congrArg some (by kernel_rfl))
 t0:=Tryz.underlying0
 a0:=Tryz.isAgg0
 z0:=Tryz.sizeOf0
 v0:=Tryz.zeroValue0
 t3:=Tryz.underlying3
 a3:=Tryz.isAgg3
 z3:=Tryz.sizeOf3
 v3:=Tryz.zeroValue3
 t4:=Tryz.underlying4
 a4:=Tryz.isAgg4
 z4:=Tryz.sizeOf4
 v4:=Tryz.zeroValue4
 t9:=Tryz.underlying9
 a9:=Tryz.isAgg9
 z9:=Tryz.sizeOf9
 v9:=Tryz.zeroValue9
 t20:=Tryz.underlying20
 a20:=Tryz.isAgg20
 z20:=Tryz.sizeOf20
 v20:=Tryz.zeroValue20
 t31:=Tryz.underlying23
 a31:=Tryz.isAgg23
 z31:=Tryz.sizeOf23
 v31:=Tryz.zeroValue23
 t37:=Tryz.underlying174
 a37:=Tryz.isAgg174
 z37:=Tryz.sizeOf174
 v37:=Tryz.zeroValue174
 t70:=Tryz.underlying173
 a70:=Tryz.isAgg173
 z70:=Tryz.sizeOf173
 v70:=Tryz.zeroValue173
 t72:=Tryz.underlying176
 a72:=Tryz.isAgg176
 z72:=Tryz.sizeOf176
 v72:=Tryz.zeroValue176
 t75:=Tryz.underlying203
 a75:=Tryz.isAgg203
 z75:=Tryz.sizeOf203
 v75:=Tryz.zeroValue203
 t76:=Tryz.underlying204
 a76:=Tryz.isAgg204
 z76:=Tryz.sizeOf204
 v76:=Tryz.zeroValue204
 t127:=Tryz.underlying232
 a127:=Tryz.isAgg232
 z127:=Tryz.sizeOf232
 v127:=Tryz.zeroValue232
 t164:=Tryz.underlying237
 a164:=Tryz.isAgg237
 z164:=Tryz.sizeOf237
 v164:=Tryz.zeroValue237 }
theorem Tryz.Builder_Extra_156:Builder.Extra Tryz.prog Tryz.lays156_ren:={
 sizeBuilder:=by kernel_rfl
 liesBuilder:=by kernel_rfl
 t5:=Tryz.underlying5
 a5:=Tryz.isAgg5
 z5:=Tryz.sizeOf5
 v5:=Tryz.zeroValue5
 infoByte:=by kernel_rfl
 cellsByte:=by kernel_rfl
 sizeByte:=by kernel_rfl
 neB5:=by decide }
open Go.RowKit in
theorem Tryz.strings_Join_none(a:Option Addr)(c:Nat)(sep:ByteArray)(w:World) :
  Calls Tryz.prog 192 #[.slice a 0 c,.string sep] w λ e w'=>e=.returned (.string ⟨#[]⟩)∧w'=w:=Any.strings_Join_none Tryz.lays156 Tryz.Builder_Extra_156 a c sep w
open Go.RowKit in
theorem Tryz.strings_Join(bk o c:Nat)(xs:List ByteArray)(sep:ByteArray)(w:World)(hcells:∀ (j:Nat) x,xs[j]?=some x→w.cell? ⟨bk,o+j,none⟩=some (.string x))(hbk:bk<w.heap.size)(hN:xs.length≤140737488355328)(hcap:xs.length≤c)(hlen:(Lib.join (xs.map (·.data.toList)) sep.data.toList).length≤140737488355328) :
  Calls Tryz.prog 192 #[.slice (some ⟨bk,o,none⟩) xs.length c,.string sep] w λ e w'=>e=.returned (.string ⟨(Lib.join (xs.map (·.data.toList)) sep.data.toList).toArray⟩)∧Below w.heap.size w w':=Any.strings_Join Tryz.lays156 Tryz.Builder_Extra_156 bk o c xs sep w hcells hbk hN hcap hlen
def Tryz.lays189_ren:Go.Shelf.Ren:=⟨λ | 189=>49 | 125=>86 | 257=>85 | 128=>124 | 129=>125 | 294=>115 | 295=>116 | 296=>117 | 297=>118 | 298=>119 | 299=>120 | 216=>121 | 300=>122 | 301=>123 | 328=>152 | 329=>153 | 330=>154 | 331=>155 | 332=>156 | 215=>157 | 343=>190 | n=>n,λ | 28=>47 | 3=>3 | 46=>140 | 0=>0 | 51=>78 | 53=>44 | 4=>4 | 183=>164 | 182=>163 | 131=>102 | 5=>5 | 9=>9 | 218=>196 | 222=>200 | 228=>229 | 229=>230 | n=>n,λ | n=>n⟩
theorem Tryz.lays189:Go.Proofs.Lays.n189 Tryz.prog Tryz.lays189_ren:={
 mixed:=by kernel_rfl
 f125:=Tryz.func86.trans (congrArg some (by kernel_rfl))
 f128:=Tryz.func124.trans (congrArg some (by kernel_rfl))
 f129:=Tryz.func125.trans (congrArg some (by kernel_rfl))
 f189:=Tryz.func49.trans (congrArg some (by kernel_rfl))
 f215:=Tryz.func157.trans (congrArg some (by kernel_rfl))
 f216:=Tryz.func121.trans (congrArg some (by kernel_rfl))
 f257:=Tryz.func85.trans (congrArg some (by kernel_rfl))
 f294:=Tryz.func115.trans (congrArg some (by kernel_rfl))
 f295:=Tryz.func116.trans (congrArg some (by kernel_rfl))
 f296:=Tryz.func117.trans (congrArg some (by kernel_rfl))
 f297:=Tryz.func118.trans (congrArg some (by kernel_rfl))
 f298:=Tryz.func119.trans (congrArg some (by kernel_rfl))
 f299:=Tryz.func120.trans (congrArg some (by kernel_rfl))
 f300:=Tryz.func122.trans (congrArg some (by kernel_rfl))
 f301:=Tryz.func123.trans (congrArg some (by kernel_rfl))
 f328:=Tryz.func152.trans (congrArg some (by kernel_rfl))
 f329:=Tryz.func153.trans (congrArg some (by kernel_rfl))
 f330:=Tryz.func154.trans (congrArg some (by kernel_rfl))
 f331:=Tryz.func155.trans (congrArg some (by kernel_rfl))
 f332:=Tryz.func156.trans (congrArg some (by kernel_rfl))
 f343:=Tryz.func190.trans (congrArg some (by kernel_rfl))
 t0:=Tryz.underlying0
 a0:=Tryz.isAgg0
 z0:=Tryz.sizeOf0
 v0:=Tryz.zeroValue0
 t3:=Tryz.underlying3
 a3:=Tryz.isAgg3
 z3:=Tryz.sizeOf3
 v3:=Tryz.zeroValue3
 t4:=Tryz.underlying4
 a4:=Tryz.isAgg4
 z4:=Tryz.sizeOf4
 v4:=Tryz.zeroValue4
 t5:=Tryz.underlying5
 a5:=Tryz.isAgg5
 z5:=Tryz.sizeOf5
 v5:=Tryz.zeroValue5
 t9:=Tryz.underlying9
 a9:=Tryz.isAgg9
 z9:=Tryz.sizeOf9
 v9:=Tryz.zeroValue9
 t28:=Tryz.underlying47
 a28:=Tryz.isAgg47
 z28:=Tryz.sizeOf47
 v28:=Tryz.zeroValue47
 t46:=Tryz.underlying140
 a46:=Tryz.isAgg140
 z46:=Tryz.sizeOf140
 v46:=Tryz.zeroValue140
 t51:=Tryz.underlying78
 a51:=Tryz.isAgg78
 z51:=Tryz.sizeOf78
 v51:=Tryz.zeroValue78
 t53:=Tryz.underlying44
 a53:=Tryz.isAgg44
 z53:=Tryz.sizeOf44
 v53:=Tryz.zeroValue44
 t131:=Tryz.underlying102
 a131:=Tryz.isAgg102
 z131:=Tryz.sizeOf102
 v131:=Tryz.zeroValue102
 t182:=Tryz.underlying163
 a182:=Tryz.isAgg163
 z182:=Tryz.sizeOf163
 v182:=Tryz.zeroValue163
 t183:=Tryz.underlying164
 a183:=Tryz.isAgg164
 z183:=Tryz.sizeOf164
 v183:=Tryz.zeroValue164
 t218:=Tryz.underlying196
 a218:=Tryz.isAgg196
 z218:=Tryz.sizeOf196
 v218:=Tryz.zeroValue196
 t222:=Tryz.underlying200
 a222:=Tryz.isAgg200
 z222:=Tryz.sizeOf200
 v222:=Tryz.zeroValue200
 t228:=Tryz.underlying229
 a228:=Tryz.isAgg229
 z228:=Tryz.sizeOf229
 v228:=Tryz.zeroValue229
 t229:=Tryz.underlying230
 a229:=Tryz.isAgg230
 z229:=Tryz.sizeOf230
 v229:=Tryz.zeroValue230 }
open Go.Sort Go.RowKit in
theorem Tryz.slices_Sort_int(blk off cap:Nat)(zs:List Int)(w:World)(hH:Holds (Value.int .i64) w blk off zs.toArray)(hblk:blk<w.heap.size)(hsz:zs.length<4611686018427387904) :
  Calls Tryz.prog 49 #[.slice (some ⟨blk,off,none⟩) zs.length cap] w λ e w'=>
   e=.returned (.tuple #[])∧∃ n os,w'=grow (putRow (Value.int .i64) (Sort.ahead w n) blk off (zs.mergeSort λ x y=>decide (x≤y)).toArray) os:=Any.slices_Sort_int Tryz.lays189 blk off cap zs w hH hblk hsz
def Tryz.laysNm216_ren:Go.Shelf.Ren:=⟨λ | 16=>99 | n=>n,λ | 24=>23 | 9=>9 | 4=>4 | n=>n,λ | n=>n⟩
theorem Tryz.laysNm216:Go.Proofs.Lays2.n16 Tryz.prog Tryz.laysNm216_ren:={
 mixed:=by kernel_rfl
 f16:=Tryz.func99.trans (congrArg some (by kernel_rfl))
 t4:=Tryz.underlying4
 a4:=Tryz.isAgg4
 z4:=Tryz.sizeOf4
 v4:=Tryz.zeroValue4
 t9:=Tryz.underlying9
 a9:=Tryz.isAgg9
 z9:=Tryz.sizeOf9
 v9:=Tryz.zeroValue9
 t24:=Tryz.underlying23
 a24:=Tryz.isAgg23
 z24:=Tryz.sizeOf23
 v24:=Tryz.zeroValue23
 i9:=by kernel_rfl }
open Go.RowKit Go.Lib in
theorem Tryz.slices_Clone_string(b off n c:Nat)(zs:List ByteArray)(w:World)(hz:n≤zs.length)(hbig:n * 16≤140737488355328)(hc:∀ j,j<zs.length→w.cell? ⟨b,off+j,none⟩=some (.string (zs.getD j ByteArray.empty))) :
  Calls Tryz.prog 99 #[.slice (some ⟨b,off,none⟩) n c] w λ e w'=>∃ v',e=.returned v'∧w'.ownsRow w.heap.size 9 1 v' n ((zs.take n).map (Value.string))∧v' ≠ .slice none 0 0∧Below w.heap.size w w':=Any.slices_Clone_string Tryz.laysNm216 b off n c zs w hz hbig hc
open Go.RowKit Go.Lib in
theorem Tryz.slices_Clone_string_nil(n c:Nat)(w:World) :
  Calls Tryz.prog 99 #[.slice none n c] w λ e w'=>e=.returned (.slice none 0 0)∧w'=w:=Any.slices_Clone_string_nil Tryz.laysNm216 n c w
open Go.RowKit Go.Lib in
theorem Tryz.slices_Clone_string_zero(a:Addr)(c:Nat)(w:World) :
  Calls Tryz.prog 99 #[.slice (some a) 0 c] w λ e w'=>∃ v',e=.returned v'∧w'.ownsRow w.heap.size 9 1 v' 0 []∧v' ≠ .slice none 0 0∧Below w.heap.size w w':=Any.slices_Clone_string_zero Tryz.laysNm216 a c w
end Go.Proofs
end

/-
  Slice: the document's names of a tree: the code does it; the names of trees. To: Slice: Free, of the program and of the document.
-/
import Derived.Test.YtmolcgfhgdhgoaaGreatDoorSliPart5
set_option linter.all false
noncomputable section
namespace Go.Vai
open Go.Proofs
theorem z7c{k:Int}(h:k=2∨k=3∨k=4∨k=5∨k=6∨k=7∨k=8∨k=9∨k=10∨k=11):H60 k:=by
 rcases h with rfl | rfl | rfl | rfl | rfl | rfl | rfl | rfl | rfl | rfl
 ·exact yer
 ·exact yeq
 ·exact yep
 ·exact yeo
 ·exact yen
 ·exact yem
 ·exact yel
 ·exact yek
 ·exact ya0
 ·exact yaz
theorem ya6{k:Int}{kids:List T}(h:Shp k kids):k=1∨(k=2∨k=3∨k=4∨k=5∨k=6∨k=7∨k=8∨k=9∨k=10∨k=11):=by
 cases h <;> omega
theorem z55{k:Int}{kids:List T}(h:Shp k kids){j:Nat}{x:T}(hx:kids[j]?=some x):((decide (k=7)&&decide (j=1))||(decide (k=11)&&decide (j=0)))=true∨(Sp.right x||Sp.elem x)=true:=by
 cases h with
 | nam h e=>subst e; simp at hx
 | lam h e ha=>
  subst e;rcases j with _ | j
  ·simp at hx; subst hx; right; rw [ha]; rfl
  ·simp at hx
 | all h ha=>exact .inr (ha x (po hx))
 | pi h e ha hb=>
  subst e;rcases j with _ | _ | j
  ·simp at hx; subst hx; right; rw [ha]; rfl
  ·simp at hx; subst hx; right; rw [hb]; rfl
  ·simp at hx
 | «at» h e ha=>
  subst e; subst h;rcases j with _ | _ | j
  ·simp at hx; subst hx; right; rw [ha]; rfl
  ·left; rfl
  ·simp at hx
 | elem h e ha=>
  subst e; subst h;rcases j with _ | j
  ·left; rfl
  ·right;exact ha x (po (i:=j) (by simpa using hx))
theorem zt1{x:T}:∀ {l:List T},x∈l→Sp.cnt x≤xg l
 | y::r,h=>by
  simp only [xg];cases h with
  | head=>omega
  | tail _ h=>have:=zt1 h; omega
theorem z5m(m n:Nat){kk:Int}(hk:kk=2∨kk=3∨kk=4∨kk=5∨kk=6∨kk=7∨kk=8∨kk=9∨kk=10∨kk=11)(nm:List UInt8)(kids:List T)(nms:List (List UInt8))(pl:Int)(b:List (List UInt8))(k:Nat)(h:List D):LQ m n kk nm kids nms pl b (k+1) kids.length h=some (.ret (.d (.sl 1 h)),[]):=by
 have lds:=zo kids;rcases hk with rfl | rfl | rfl | rfl | rfl | rfl | rfl | rfl | rfl | rfl
 ·have g:=z5l (zbl m) p93 q60 u98 n k h (b.map .str) nm kids nms pl kids.length;rw [lds,yj,cond_false] at g;exact g
 ·have g:=z5k (zbl m) p93 q60 u98 n k h (b.map .str) nm kids nms pl kids.length;rw [lds,yj,cond_false] at g;exact g
 ·have g:=z5j (zbl m) p93 q60 u98 n k h (b.map .str) nm kids nms pl kids.length;rw [lds,yj,cond_false] at g;exact g
 ·have g:=z5i (zbl m) p93 q60 u98 n k h (b.map .str) nm kids nms pl kids.length;rw [lds,yj,cond_false] at g;exact g
 ·have g:=z5h (zbl m) p93 q60 u98 n k h (b.map .str) nm kids nms pl kids.length;rw [lds,yj,cond_false] at g;exact g
 ·have g:=z5g (zbl m) p93 q60 u98 n k h (b.map .str) nm kids nms pl kids.length;rw [lds,yj,cond_false] at g;exact g
 ·have g:=z5f (zbl m) p93 q60 u98 n k h (b.map .str) nm kids nms pl kids.length;rw [lds,yj,cond_false] at g;exact g
 ·have g:=z5e (zbl m) p93 q60 u98 n k h (b.map .str) nm kids nms pl kids.length;rw [lds,yj,cond_false] at g;exact g
 ·have g:=zz6 (zbl m) p93 q60 u98 n k h (b.map .str) nm kids nms pl kids.length;rw [lds,yj,cond_false] at g;exact g
 ·have g:=zz5 (zbl m) p93 q60 u98 n k h (b.map .str) nm kids nms pl kids.length;rw [lds,yj,cond_false] at g;exact g
theorem m60:∀ m,zto m
 | 0=>λ t b l hd _ _=>by cases t; simp only [T.depth] at hd; omega
 | m+1=>λ t b l hd ho hg=>by
  obtain ⟨k,nm,kids,nms,pl⟩:=t;obtain ⟨hr,hb,hl⟩:=zbr.1 hg;have hsh:=z2x hr;have ho2:=ho;simp only [T.ok,ph] at ho2;obtain ⟨⟨⟨⟨o1,o2⟩,o3⟩,o4⟩,o5⟩:=ho2;simp only [T.depth] at hd;simp only [Sp.cnt] at hb hl;have hbs:yd b=true:=pa (by omega)
  refine zk (z17 (m60 m)) (N:=kids.length+1) ?_;refine (yfx (zbl m) p93 q60 u98 _ _ _ _ _ _ _ _).trans ?_;by_cases h1:k=1
  ·subst h1;have e1:decide ((1:Int)=1)=true:=rfl;have e2:p93 (.sl 1 (b.map .str)) nm=some (Sp.mem nm b):=by unfold p93; rw [zc0 hbs]; rfl
   have e3:u98 (.sl 1 (l.map .str)) nm=some ((Sp.put l nm).map .str):=by
    unfold u98; rw [zc0 (pa (by omega))]
    show zb (decide (l.length+1<4294967296)) _=_;rw [pa (by omega)]; rfl
   show zc (p93 (.sl 1 (b.map .str)) nm) (λ x=>bif x then some (Out.ret (V.d (.sl 1 (l.map .str))),[]) else zb (decide (nm.length≤big)) (bif decide (0≤q60 nm) then some (Out.ret (V.d (.sl 1 (l.map .str))),[]) else zc (u98 (.sl 1 (l.map .str)) nm) λ c=>some (Out.ret (V.d (.sl 1 c)),[])))=some (Out.ret (V.d (.sl 1 ((bif Sp.mem nm b||Sp.word nm then l else Sp.put l nm).map .str))),[])
   rw [e2,ql o1,z29,e3];cases Sp.mem nm b
   ·cases Sp.word nm <;> rfl
   ·rfl
  ·rw [pb h1,cond_false];have hks:=(ya6 hsh).resolve_left h1;have H:=z7c hks
   have hx:=ybc (λ k' i (s:List (List UInt8))=>LQ m (kids.length+1) k nm kids nms pl b k' i (s.map .str)) kids
    (λ i acc t=>bif (decide (k=7)&&decide (i=1))||(decide (k=11)&&decide (i=0)) then acc
      else xb t (bif decide (k=2)||(decide (i=1)&&(decide (k=4)||decide (k=5))) then b++nms else b) acc)
    (λ l i acc=>vl l k nms b i acc) (λ i s=>by simp only [vl]) (λ x r i s=>by simp only [vl])
    (λ j s=>s.length+xg (kids.drop j)<2147483648) (λ s=>some (.ret (.d (.sl 1 (s.map .str))),[])) (yh o2)
    (λ k' j x s hj hx hi=>by
     have hmem:=po hx;have hdr:kids.drop j=x::kids.drop (j+1):=by
      have:=List.drop_eq_getElem_cons hj;rw [pr hj] at hx;cases hx;exact this
     have hc:=zt1 hmem;rw [hdr] at hi;simp only [xg] at hi;have hstep:=H m (kids.length+1) nm kids nms pl b k' j (s.map .str) x (by omega) hj hx
     have hv:=z55 hsh hx;refine ⟨hstep.trans ?_,?_⟩
     ·cases hsk:(decide (k=7)&&decide (j=1))||(decide (k=11)&&decide (j=0))
      ·have hre:=hv.resolve_left (by rw [hsk]; simp)
       simp only [cond_false];generalize hbb:(bif decide (k=2)||(decide (j=1)&&(decide (k=4)||decide (k=5))) then b++nms else b)=bb
       have hbl:bb.length≤b.length+nms.length:=by
        rw [←hbb];cases decide (k=2)||(decide (j=1)&&(decide (k=4)||decide (k=5)))
        ·simp
        ·simp
       unfold FQ;rw [zs3 (by have:=zer hmem; omega) (wn o5 hmem) (zbr.2 ⟨hre,by omega,by omega⟩)]
       rfl
      ·rfl
     ·cases (decide (k=7)&&decide (j=1))||(decide (k=11)&&decide (j=0))
      ·simp only [cond_false];have:=zff x (bif decide (k=2)||(decide (j=1)&&(decide (k=4)||decide (k=5))) then b++nms else b) s
       omega
      ·simp only [cond_true]; omega)
    (λ k' s=>z5m m _ hks nm kids nms pl b k' _) (s:=l) (by rw [List.drop_zero]; omega) (k:=kids.length+1) (Nat.lt_succ_self _)
   have eg:xb (.mk k nm kids nms pl) b l=vl kids k nms b 0 l:=by
    unfold xb;rw [pb h1]; rfl
   rw [eg];exact hx
theorem m52(l:List T)(hs:yd l=true)(ho:T.oks l=true)(hr:∀ t∈l,(Sp.right t||Sp.elem t)=true)(hc:xg l<2147483648):zh cx 52 [.d (.sl 5 (T.ds l))] []=some (.ret (.d (.sl 1 ((xk [] [] l).map .str))),[]):=by
 have hk:knows cx (zqz (zat (T.depths l))).S (zh cx):=zn0 (m88 _) zm;refine zk hk (N:=l.length+1) ?_;rw [yf0,zo]
 have h:=zf3 (λ k i (s:List (List UInt8))=>LP cx (zqz (zat (T.depths l))) (l.length+1) 52 0 3 k [(3,V.ptr 3 0),(6,V.d (D.sl 5 (T.ds l))),(7,V.d (D.int .i64 (l.length:Int))),(8,V.d (D.int .i64 i))] [(3,Ob.val 1 (V.sl 1 (s.map .str) 20)),(20,Ob.tok (s.map D.str).length)] (AK cx (zqz (zat (T.depths l))) (l.length+1) 52 0 3 (EK cx 52 0)))
  l (λ a t=>xb t [] a) (λ j s=>s.length+xg (l.drop j)<2147483648) (λ s=>some (.ret (.d (.sl 1 (s.map .str))),[])) (yh hs)
  (λ k j x s hj hx hi=>by
   have hmem:=po hx;have hdr:l.drop j=x::l.drop (j+1):=by
    have:=List.drop_eq_getElem_cons hj;rw [pr hj] at hx;cases hx;exact this
   have hcm:=zt1 hmem;rw [hdr] at hi;simp only [xg] at hi;have hg:=zff x [] s;refine ⟨?_,by omega⟩
   refine (ydo (zat (T.depths l)) (l.length+1) k l (s.map .str) j).trans ?_;rw [z6 hj,zo,z6 hj,yy,zz,pm,hx];show za x.d.cells 0 _=_;rw [yb];simp only [xo,wz,vc,vb,va,wj];have hsp:=zin (m:=T.depths l) (b:=[]) (l:=s) (zer hmem) (wn ho hmem) (zbr.2 ⟨hr x hmem,by simp only [List.length_nil]; omega,by omega⟩)
   show zc (zat (T.depths l) x.d (.sl 1 (([]:List (List UInt8)).map .str)) (s.map .str)) _=_;rw [hsp];show zb _ _=_;rw [Nat.beq_refl];rfl)
  (λ k s=>by
   refine (ydo (zat (T.depths l)) (l.length+1) k l (s.map .str) l.length).trans ?_;rw [yj,cond_false]) (s:=[]) (by rw [List.drop_zero]; simp only [List.length_nil]; omega) (k:=l.length+1) (Nat.lt_succ_self _)
 exact h
def za6:List V→Option D | [.d x]=>some x | _=>none
def zij(f:D→Option (List UInt8×Int)):CK R1:=zt 87 za6 f mkE (CK.plain zn)
def zct(f:D→Option (List UInt8×Int)):CK R1:=zt 92 za6 f mkE (CK.plain zn)
def z4r(a:List V)(σ:St):Option (List D×Nat):=match a,σ with | [.slo 0 1 n],[(0,.row l)]=>some (l,n) | _,_=>none
def yax(s:List D→Option (List D))(S:CK R1):CK R1:=more 49 z4r (λ K q=>zc (s q.1) λ l=>zb (Nat.beq q.2 q.1.length) (K (.ret (.tup [])) [(0,.row l)]))
  (λ K q=>by
   simp only;rw [vx];congr 1;funext s;simp only [zb,wt];rfl) S
def mkM(q:List D×List D):V:=.tup [.d (.map q.1 q.2),.d (.int .i64 0)]
def z6b(e:Int):V:=.tup [.d .nilmap,.d (.int .i64 e)]
def z7b(pl:D→Option Int):CK R1:=zt 51 za6 pl z6b (CK.plain zn)
def zao(pl:D→Option (List D×List D))(al:D→Option (List D))(s:List D→Option (List D)):CK R1:=
 zt 51 za6 pl mkM (zt 52 za6 al (λ x=>.d (.sl 1 x)) (yax s (CK.plain zn)))
def zx0:List V→Option (D×(Int×Int)) | [.d x,.d (.int .i64 i),.d (.int .i64 k)]=>some (x,(i,k)) | _=>none
def yec(sp:D→D→D→Option (List D))(p:D→List UInt8→Option Bool):CK R1:=zt 60 zwf (λ x=>sp x.1 x.2.1 x.2.2) (λ x=>.d (.sl 1 x)) (zt 93 zdw (λ q=>p q.1 q.2) mkB (CK.plain zn))
def zbq(w:D→Option Int)(u:D→Int→Int→Option Bool):CK R1:=zt 56 za6 w mkI (zt 57 zx0 (λ q=>u q.1 q.2.1 q.2.2) mkB (CK.plain zn))
theorem yf1(f:D→Option (List UInt8×Int))(n:Nat)(l:List T):zl cx (zij f) n 51 [.d (.sl 5 (T.ds l))] []=zc (f (D.sl 5 (T.ds l))) λ b=>bif decide (b.snd=(61:Int)) then some (Out.ret (V.tup [V.d D.nilmap,V.d (D.int .i64 b.snd)]),[]) else LP cx (zij f) n 51 0 6 n [(6,V.map 19),(20,V.d (D.sl 5 (T.ds l))),(21,V.d (D.int .i64 (↑(T.ds l).length:Int))),(22,V.d (D.int .i64 (0:Int)))] [(19,Ob.map [] [])] (AK cx (zij f) n 51 0 6 (EK cx 51 0)):=by kernel_rfl
theorem yfz(f:D→Option (List UInt8×Int))(n:Nat)(l:List T):zl cx (zct f) n 56 [.d (.sl 5 (T.ds l))] []=zc (f (D.sl 5 (T.ds l))) λ b=>bif decide (b.snd=(61:Int)) then some (Out.ret (V.d (D.int .i64 (61:Int))),[]) else LP cx (zct f) n 56 0 5 n [(0,V.d (D.sl 5 (T.ds l))),(5,V.d (D.int .i64 (0:Int)))] [] (AK cx (zct f) n 56 0 5 (EK cx 56 0)):=by kernel_rfl
theorem yd6(pl:D→Option Int)(n:Nat)(l:List T):zl cx (z7b pl) n 24 [.d (.sl 5 (T.ds l))] []=zc (pl (D.sl 5 (T.ds l))) λ b=>bif !decide (b=(0:Int)) then some (Out.ret (V.tup [V.d (D.sl 1 []),V.d (D.int .i64 b)]),[]) else LP cx (z7b pl) n 24 0 6 n [(4,V.d D.nilmap),(6,V.sl 1 [] 6),(22,V.d (D.sl 5 (T.ds l))),(23,V.d (D.int .i64 (↑(T.ds l).length:Int))),(24,V.d (D.int .i64 (0:Int)))] [(6,Ob.tok 0)] (AK cx (z7b pl) n 24 0 6 (EK cx 24 0)):=by kernel_rfl
theorem yf9(pl:D→Option (List D×List D))(al:D→Option (List D))(s:List D→Option (List D))(n:Nat)(l:List T):zl cx (zao pl al s) n 24 [.d (.sl 5 (T.ds l))] []=zc (pl (D.sl 5 (T.ds l))) λ b=>LP cx (zao pl al s) n 24 0 6 n [(4,V.d (D.map b.1 b.2)),(6,V.sl 1 [] 6),(22,V.d (D.sl 5 (T.ds l))),(23,V.d (D.int .i64 (↑(T.ds l).length:Int))),(24,V.d (D.int .i64 (0:Int)))] [(6,Ob.tok 0)] (AK cx (zao pl al s) n 24 0 6 (EK cx 24 0)):=by kernel_rfl
theorem yfy(sp:D→D→D→Option (List D))(p:D→List UInt8→Option Bool)(n:Nat)(l:List T)(i k:Int):zl cx (yec sp p) n 57 [.d (.sl 5 (T.ds l)),.d (.int .i64 i),.d (.int .i64 k)] []=zb (decide (0≤i)&&decide (i<(↑(T.ds l).length:Int))) (za (T.ds l) i.toNat λ y=>za y.cells 2 λ c=>match c with
 | D.sl s l_1=>bif s.beq (cx.P.cellsOf 26)||l_1.isEmpty then zb (decide ((0:Int)<(↑l_1.length:Int))) (za l_1 (0:Int).toNat λ y=>za y.cells 0 λ c=>za y.cells 1 λ c_1=>za y.cells 2 λ c_2=>za y.cells 3 λ c_3=>za y.cells 4 λ c_4=>zc (sp (D.sl 1 [],D.agg [c,c_1,c_2,c_3,c_4],D.sl 1 []).fst (D.sl 1 [],D.agg [c,c_1,c_2,c_3,c_4],D.sl 1 []).snd.fst (D.sl 1 [],D.agg [c,c_1,c_2,c_3,c_4],D.sl 1 []).snd.snd) λ b=>zb (decide (0≤i)&&decide (i<(↑(T.ds l).length:Int))) (za (T.ds l) i.toNat λ y=>za y.cells 2 λ c=>match c with
  | D.sl s l_2=>bif s.beq (cx.P.cellsOf 26)||l_2.isEmpty then zb (decide ((1:Int)<(↑l_2.length:Int))) (za l_2 (1:Int).toNat λ y=>za y.cells 0 λ c=>za y.cells 1 λ c_5=>za y.cells 2 λ c_6=>za y.cells 3 λ c_7=>za y.cells 4 λ c_8=>zc (sp (D.sl 1 b,D.agg [c,c_5,c_6,c_7,c_8],D.sl 1 []).fst (D.sl 1 b,D.agg [c,c_5,c_6,c_7,c_8],D.sl 1 []).snd.fst (D.sl 1 b,D.agg [c,c_5,c_6,c_7,c_8],D.sl 1 []).snd.snd) λ b=>zb (decide (0≤k)&&decide (k<(↑(T.ds l).length:Int))) (za (T.ds l) k.toNat λ y=>za y.cells 1 λ c=>match c with
   | D.str s=>zc (p (D.sl 1 b,s).fst (D.sl 1 b,s).snd) λ b=>some (Out.ret (V.d (D.bool b)),[])
   | x=>none)) else none
  | x=>none)) else none
 | x=>none):=by kernel_rfl
theorem yf8(w:D→Option Int)(u:D→Int→Int→Option Bool)(n:Nat)(l:List T):zl cx (zbq w u) n 29 [.d (.sl 5 (T.ds l))] []=zc (w (D.sl 5 (T.ds l))) λ b=>bif !decide (b=(0:Int)) then some (Out.ret (V.tup [V.d (D.sl 1 []),V.d (D.int .i64 b)]),[]) else LP cx (zbq w u) n 29 0 6 n [(0,V.d (D.sl 5 (T.ds l))),(5,V.sl 1 [] 5),(6,V.d (D.int .i64 (0:Int)))] [(5,Ob.tok 0)] (AK cx (zbq w u) n 29 0 6 (EK cx 29 0)):=by kernel_rfl
theorem ydp(f:D→Option (List UInt8×Int))(n k:Nat)(l:List T)(ks vs:List D)(i:Int):LP cx (zij f) n 51 0 6 (k+1) [(6,V.map 19),(20,V.d (D.sl 5 (T.ds l))),(21,V.d (D.int .i64 (l.length:Int))),(22,V.d (D.int .i64 i))] [(19,Ob.map ks vs)] (AK cx (zij f) n 51 0 6 (EK cx 51 0))=bif decide (i<(↑l.length:Int)) then zb (decide (0≤i)&&decide (i<(↑(T.ds l).length:Int))) (za (T.ds l) i.toNat λ y=>za y.cells 0 λ c=>za y.cells 1 λ c=>za y.cells 2 λ c_1=>za y.cells 3 λ c_2=>za y.cells 4 λ c_3=>match c with
 | D.str s=>zc (qx (D.str s) ks 0) λ o=>zjj o (λ i=>za vs i λ y=>match y with
  | D.int k' n=>bif decide (k'=IntKind.i64) then some (Out.ret (V.tup [V.d D.nilmap,V.d (D.int .i64 (270:Int))]),[]) else none
  | x=>none) (match c with
  | D.str s=>zc (qx (D.str s) ks 0) λ o=>zjj o (λ i_1=>LP cx (zij f) n 51 0 6 k [(6,V.map 19),(20,V.d (D.sl 5 (T.ds l))),(21,V.d (D.int .i64 (↑l.length:Int))),(22,V.d (D.int .i64 (IntKind.i64.wrap (i+(1:Int)))))] [(19,Ob.map ks (vs.set i_1 (D.int .i64 i)))] (AK cx (zij f) n 51 0 6 (EK cx 51 0))) (LP cx (zij f) n 51 0 6 k [(6,V.map 19),(20,V.d (D.sl 5 (T.ds l))),(21,V.d (D.int .i64 (↑l.length:Int))),(22,V.d (D.int .i64 (IntKind.i64.wrap (i+(1:Int)))))] [(19,Ob.map (ks++[D.str s]) (vs++[D.int .i64 i]))] (AK cx (zij f) n 51 0 6 (EK cx 51 0)))
  | x=>none)
 | x=>none) else some (Out.ret (V.tup [V.d (D.map ks vs),V.d (D.int .i64 (0:Int))]),[]):=by kernel_rfl
theorem z79(f:D→Option (List UInt8×Int))(n k:Nat)(l:List T)(i:Int):LP cx (zct f) n 56 0 5 (k+1) [(0,V.d (D.sl 5 (T.ds l))),(5,V.d (D.int .i64 i))] [] (AK cx (zct f) n 56 0 5 (EK cx 56 0))=bif decide (i<(↑(T.ds l).length:Int)) then LP cx (zct f) n 56 0 8 n [(0,V.d (D.sl 5 (T.ds l))),(5,V.d (D.int .i64 i)),(6,V.d (D.int .i64 (0:Int)))] [] (AL cx (zct f) n 56 0 5 8 (inK cx (zct f) n 56 0 5 k (AK cx (zct f) n 56 0 5 (EK cx 56 0)))) else some (Out.ret (V.d (D.int .i64 (0:Int))),[]):=by kernel_rfl
theorem ydt(pl:D→Option (List D×List D))(al:D→Option (List D))(s:List D→Option (List D))(n k:Nat)(l:List T)(ks vs L:List D)(i:Int):LP cx (zao pl al s) n 24 0 6 (k+1) [(4,V.d (D.map ks vs)),(6,V.sl 1 L 6),(22,V.d (D.sl 5 (T.ds l))),(23,V.d (D.int .i64 (l.length:Int))),(24,V.d (D.int .i64 i))] [(6,Ob.tok L.length)] (AK cx (zao pl al s) n 24 0 6 (EK cx 24 0))=bif decide (i<(↑l.length:Int)) then zb (decide (0≤i)&&decide (i<(↑(T.ds l).length:Int))) (za (T.ds l) i.toNat λ y=>za y.cells 0 λ c=>za y.cells 1 λ c=>za y.cells 2 λ c=>za y.cells 3 λ c_1=>za y.cells 4 λ c_2=>match c with
 | D.sl s_1 l_1=>bif s_1.beq (cx.P.cellsOf 26)||l_1.isEmpty then zc (al (D.sl 5 l_1)) λ b=>LP cx (zao pl al s) n 24 0 10 n [(4,V.d (D.map ks vs)),(6,V.sl 1 L 6),(9,V.slo 9 1 0),(22,V.d (D.sl 5 (T.ds l))),(23,V.d (D.int .i64 (↑l.length:Int))),(24,V.d (D.int .i64 i)),(30,V.d (D.sl 1 b)),(31,V.d (D.int .i64 (↑b.length:Int))),(32,V.d (D.int .i64 (0:Int)))] [(6,Ob.tok L.length),(9,Ob.row [])] (AL cx (zao pl al s) n 24 0 6 10 (inK cx (zao pl al s) n 24 0 6 k (AK cx (zao pl al s) n 24 0 6 (EK cx 24 0)))) else none
 | x=>none) else some (Out.ret (V.tup [V.d (D.sl 1 L),V.d (D.int .i64 (0:Int))]),[]):=by kernel_rfl
theorem yds(w:D→Option Int)(u:D→Int→Int→Option Bool)(n k:Nat)(l:List T)(L:List D)(i:Int):LP cx (zbq w u) n 29 0 6 (k+1) [(0,V.d (D.sl 5 (T.ds l))),(5,V.sl 1 L 5),(6,V.d (D.int .i64 i))] [(5,Ob.tok L.length)] (AK cx (zbq w u) n 29 0 6 (EK cx 29 0))=bif decide (i<(↑(T.ds l).length:Int)) then LP cx (zbq w u) n 29 0 10 n [(0,V.d (D.sl 5 (T.ds l))),(5,V.sl 1 L 5),(6,V.d (D.int .i64 i)),(7,V.sl 1 [] 7),(8,V.d (D.int .i64 (0:Int)))] [(5,Ob.tok L.length),(7,Ob.tok 0)] (AL cx (zbq w u) n 29 0 6 10 (inK cx (zbq w u) n 29 0 6 k (AK cx (zbq w u) n 29 0 6 (EK cx 29 0)))) else some (Out.ret (V.tup [V.d (D.sl 1 L),V.d (D.int .i64 (0:Int))]),[]):=by kernel_rfl
theorem z78(f:D→Option (List UInt8×Int))(n k m:Nat)(l:List T)(i j:Int):LP cx (zct f) n 56 0 8 (m+1) [(0,V.d (D.sl 5 (T.ds l))),(5,V.d (D.int .i64 i)),(6,V.d (D.int .i64 j))] [] (AL cx (zct f) n 56 0 5 8 (inK cx (zct f) n 56 0 5 k (AK cx (zct f) n 56 0 5 (EK cx 56 0))))=bif decide (j<i) then zb (decide (0≤i)&&decide (i<(↑(T.ds l).length:Int))) (za (T.ds l) i.toNat λ y=>za y.cells 1 λ c=>match c with
 | D.str s=>zb (decide (0≤j)&&decide (j<(↑(T.ds l).length:Int))) (za (T.ds l) j.toNat λ y=>za y.cells 1 λ c=>match c with
  | D.str s_1=>bif decide (s=s_1) then some (Out.ret (V.d (D.int .i64 (270:Int))),[]) else LP cx (zct f) n 56 0 8 m [(0,V.d (D.sl 5 (T.ds l))),(5,V.d (D.int .i64 i)),(6,V.d (D.int .i64 (IntKind.i64.wrap (j+(1:Int)))))] [] (AL cx (zct f) n 56 0 5 8 (inK cx (zct f) n 56 0 5 k (AK cx (zct f) n 56 0 5 (EK cx 56 0))))
  | x=>none)
 | x=>none) else LP cx (zct f) n 56 0 5 k [(0,V.d (D.sl 5 (T.ds l))),(5,V.d (D.int .i64 (IntKind.i64.wrap (i+(1:Int)))))] [] (AK cx (zct f) n 56 0 5 (EK cx 56 0)):=by kernel_rfl
theorem z8b(pl:D→Option (List D×List D))(al:D→Option (List D))(s:List D→Option (List D))(n k m:Nat)(l:List T)(ks vs L U:List D)(b:List (List UInt8))(i j:Int):LP cx (zao pl al s) n 24 0 10 (m+1) [(4,V.d (D.map ks vs)),(6,V.sl 1 L 6),(9,V.slo 9 1 U.length),(22,V.d (D.sl 5 (T.ds l))),(23,V.d (D.int .i64 (l.length:Int))),(24,V.d (D.int .i64 i)),(30,V.d (D.sl 1 (b.map .str))),(31,V.d (D.int .i64 (b.length:Int))),(32,V.d (D.int .i64 j))] [(6,Ob.tok L.length),(9,Ob.row U)] (AL cx (zao pl al s) n 24 0 6 10 (inK cx (zao pl al s) n 24 0 6 k (AK cx (zao pl al s) n 24 0 6 (EK cx 24 0))))=bif decide (j<(↑b.length:Int)) then zb (decide (0≤j)&&decide (j<(↑(List.map D.str b).length:Int))) (za (List.map D.str b) j.toNat λ y=>za y.cells 0 λ c=>match c with
 | D.str s_1=>zc (qx (D.str s_1) ks 0) λ o=>zjj o (λ i_1=>za vs i_1 λ y=>match y with
  | D.int k' n_1=>bif decide (k'=IntKind.i64) then zb (U.length.beq U.length&&decide (U.length+[D.int .i64 n_1].length≤4294967296)) (LP cx (zao pl al s) n 24 0 10 m [(4,V.d (D.map ks vs)),(6,V.sl 1 L 6),(9,V.slo 9 1 (U.length+[D.int .i64 n_1].length)),(22,V.d (D.sl 5 (T.ds l))),(23,V.d (D.int .i64 (↑l.length:Int))),(24,V.d (D.int .i64 i)),(30,V.d (D.sl 1 (List.map D.str b))),(31,V.d (D.int .i64 (↑b.length:Int))),(32,V.d (D.int .i64 (IntKind.i64.wrap (j+(1:Int)))))] [(6,Ob.tok L.length),(9,Ob.row (U++[D.int .i64 n_1]))] (AL cx (zao pl al s) n 24 0 6 10 (inK cx (zao pl al s) n 24 0 6 k (AK cx (zao pl al s) n 24 0 6 (EK cx 24 0))))) else none
  | x=>none) (LP cx (zao pl al s) n 24 0 10 m [(4,V.d (D.map ks vs)),(6,V.sl 1 L 6),(9,V.slo 9 1 U.length),(22,V.d (D.sl 5 (T.ds l))),(23,V.d (D.int .i64 (↑l.length:Int))),(24,V.d (D.int .i64 i)),(30,V.d (D.sl 1 (List.map D.str b))),(31,V.d (D.int .i64 (↑b.length:Int))),(32,V.d (D.int .i64 (IntKind.i64.wrap (j+(1:Int)))))] [(6,Ob.tok L.length),(9,Ob.row U)] (AL cx (zao pl al s) n 24 0 6 10 (inK cx (zao pl al s) n 24 0 6 k (AK cx (zao pl al s) n 24 0 6 (EK cx 24 0)))))
 | x=>none) else zc (s (U,U.length).fst) λ l_1=>zb ((U,U.length).snd.beq (U,U.length).fst.length) (zb (U.length.beq l_1.length) (zb (decide (L.length=L.length)&&decide (L.length+[D.sl 1 l_1].length≤4294967296)) (LP cx (zao pl al s) n 24 0 6 k [(4,V.d (D.map ks vs)),(6,V.sl 1 (L++[D.sl 1 l_1]) 6),(22,V.d (D.sl 5 (T.ds l))),(23,V.d (D.int .i64 (↑l.length:Int))),(24,V.d (D.int .i64 (IntKind.i64.wrap (i+(1:Int)))))] [(6,Ob.tok (L.length+[D.sl 1 l_1].length))] (AK cx (zao pl al s) n 24 0 6 (EK cx 24 0))))):=by kernel_rfl
theorem z8a(w:D→Option Int)(u:D→Int→Int→Option Bool)(n k m:Nat)(l:List T)(L U:List D)(i j:Int):LP cx (zbq w u) n 29 0 10 (m+1) [(0,V.d (D.sl 5 (T.ds l))),(5,V.sl 1 L 5),(6,V.d (D.int .i64 i)),(7,V.sl 1 U 7),(8,V.d (D.int .i64 j))] [(5,Ob.tok L.length),(7,Ob.tok U.length)] (AL cx (zbq w u) n 29 0 6 10 (inK cx (zbq w u) n 29 0 6 k (AK cx (zbq w u) n 29 0 6 (EK cx 29 0))))=bif decide (j<(↑(T.ds l).length:Int)) then zc (u (D.sl 5 (T.ds l),i,j).fst (D.sl 5 (T.ds l),i,j).snd.fst (D.sl 5 (T.ds l),i,j).snd.snd) λ b=>bif b then zb (decide (U.length=U.length)&&decide (U.length+[D.int .i64 j].length≤4294967296)) (LP cx (zbq w u) n 29 0 10 m [(0,V.d (D.sl 5 (T.ds l))),(5,V.sl 1 L 5),(6,V.d (D.int .i64 i)),(7,V.sl 1 (U++[D.int .i64 j]) 7),(8,V.d (D.int .i64 (IntKind.i64.wrap (j+(1:Int)))))] [(5,Ob.tok L.length),(7,Ob.tok (U.length+[D.int .i64 j].length))] (AL cx (zbq w u) n 29 0 6 10 (inK cx (zbq w u) n 29 0 6 k (AK cx (zbq w u) n 29 0 6 (EK cx 29 0))))) else LP cx (zbq w u) n 29 0 10 m [(0,V.d (D.sl 5 (T.ds l))),(5,V.sl 1 L 5),(6,V.d (D.int .i64 i)),(7,V.sl 1 U 7),(8,V.d (D.int .i64 (IntKind.i64.wrap (j+(1:Int)))))] [(5,Ob.tok L.length),(7,Ob.tok U.length)] (AL cx (zbq w u) n 29 0 6 10 (inK cx (zbq w u) n 29 0 6 k (AK cx (zbq w u) n 29 0 6 (EK cx 29 0)))) else zb (decide (L.length=L.length)&&decide (L.length+[D.sl 1 U].length≤4294967296)) (LP cx (zbq w u) n 29 0 6 k [(0,V.d (D.sl 5 (T.ds l))),(5,V.sl 1 (L++[D.sl 1 U]) 5),(6,V.d (D.int .i64 (IntKind.i64.wrap (i+(1:Int)))))] [(5,Ob.tok (L.length+[D.sl 1 U].length))] (AK cx (zbq w u) n 29 0 6 (EK cx 29 0))):=by kernel_rfl
def zbg(l:List T):Bool:=yd l&&T.oks l&&decide (12 * Sp.bulks l≤65536)
def zht(x:D):Option (List T):=zc (qa Sp.toC x) λ l=>zb (zbg l) (some l)
theorem wv{l:List T}:zbg l=true↔yd l=true∧T.oks l=true∧12 * Sp.bulks l≤65536:=by
 unfold zbg;rw [ph,ph,decide_eq_true_eq,and_assoc]
theorem zdd{x:D}{l:List T}(h:zht x=some l):x=.sl 5 (T.ds l)∧zbg l=true:=by
 obtain ⟨m,hm,h⟩:=zd h;obtain ⟨h1,h⟩:=ze h;cases h;obtain ⟨d,rfl,h2,_⟩:=ze4 hm;exact ⟨by rw [(zgd (λ x t h=>(xz h).1) h2).1],h1⟩
theorem zj7{l:List T}(h:zbg l=true):zht (.sl 5 (T.ds l))=some l:=by
 obtain ⟨h1,h2,h3⟩:=wv.1 h;unfold zht;rw [znx (λ t ht=>zhl (wn h2 ht)) h1];show zb (zbg l) _=_;rw [h]; rfl
theorem zry:∀ l:List (List UInt8),l.length≤Sp.lens l
 | []=>Nat.le_refl _
 | x::l=>by have:=zry l; simp only [Sp.lens,List.length_cons]; omega
mutual
theorem zlc:∀ t:T,Sp.cnt t≤yt t
 | .mk _ nm kids nms _=>by
  have:=zso kids;have:=zry nms;simp only [Sp.cnt,yt]; omega
theorem zso:∀ l:List T,xg l≤Sp.bulks l
 | []=>Nat.le_refl _
 | t::l=>by
  have:=zlc t;have:=zso l;simp only [xg,Sp.bulks]; omega
end
theorem z43(t:T):1≤yt t:=by cases t; simp only [yt]; omega
theorem zit:∀ l:List T,l.length≤Sp.bulks l
 | []=>Nat.le_refl _
 | t::l=>by have:=zit l; have:=z43 t; simp only [Sp.bulks,List.length_cons]; omega
def nmL(l:List T):List (List UInt8):=l.map T.nm
theorem ztf{l:List T}{j:Nat}{x:T}(hx:l[j]?=some x):(nmL l)[j]?=some x.nm:=by unfold nmL; rw [List.getElem?_map,hx]; rfl
def zbf:List (List UInt8)→List (List UInt8)→Bool
 | _,[]=>false
 | seen,s::r=>Sp.mem s seen||zbf (seen++[s]) r
def Sp.wr(l:List T):Int:=bif l.all yn then (bif zbf [] (nmL l) then 270 else 0) else 61
theorem z6l(s:List UInt8)(l:List (List UInt8)):vh (l.map .str) s=Sp.mem s l:=by
 unfold vh Sp.mem;rw [List.any_map];congr 1;funext x;show decide (s=x)=_;by_cases h:s=x
 ·subst h; rfl
 ·rw [pb h,pb (λ e=>h e.symm)]
theorem z2q(l:List (List UInt8)):(l.map D.str).all zow=true:=by
 rw [List.all_map,List.all_eq_true]; intro x _; rfl
theorem cellT(t:T){R:Type}(F:D→D→D→D→D→Option R):(za t.d.cells 0 λ a=>za t.d.cells 1 λ b=>za t.d.cells 2 λ c=>za t.d.cells 3 λ d=>za t.d.cells 4 λ e=>F a b c d e)=F (.int .i64 t.k) (.str t.nm) (.sl 5 (T.ds t.kids)) (.sl 1 (t.nms.map .str)) (.int .i64 t.pl):=by
 rw [yb]; rfl
def f87(x:D):Option (List UInt8×Int):=zc (zht x) λ l=>some (zby l)
theorem zvy(l:List T):(zby l).2=bif l.all yn then 0 else 61:=by
 unfold zby; cases l.all yn <;> rfl
theorem z8z(n:Nat)(l:List T)(hs:yd l=true):∀ (d j k:Nat),j+d=l.length→d<k →
  LP cx (zij f87) n 51 0 6 k [(6,V.map 19),(20,V.d (D.sl 5 (T.ds l))),(21,V.d (D.int .i64 (l.length:Int))),(22,V.d (D.int .i64 (j:Int)))] [(19,Ob.map (((nmL l).take j).map .str) (nI (List.range j)))] (AK cx (zij f87) n 51 0 6 (EK cx 51 0)) =
   bif zbf ((nmL l).take j) ((nmL l).drop j) then some (.ret (z6b 270),[]) else some (.ret (mkM ((nmL l).map .str,nI (List.range l.length))),[]):=by
 intro d
 induction d with
 | zero=>
  intro j k hj hk;obtain ⟨k,rfl⟩:∃ k',k=k'+1:=⟨k - 1,by omega⟩
  obtain rfl:j=l.length:=by omega
  have hl:(nmL l).length=l.length:=pf _;rw [ydp,yj,cond_false,List.drop_eq_nil_of_le (by omega),List.take_of_length_le (by omega)]
  rfl
 | succ d ih=>
  intro j k hj hk;obtain ⟨k,rfl⟩:∃ k',k=k'+1:=⟨k - 1,by omega⟩
  have hlt:j<l.length:=by omega
  have hx:=pr hlt;generalize l[j]=x at hx;have hn:=ztf hx;have hlt2:j<(nmL l).length:=by unfold nmL; rw [pf]; exact hlt
  have hdr:(nmL l).drop j=x.nm::(nmL l).drop (j+1):=by
   rw [List.drop_eq_getElem_cons hlt2];rw [pr hlt2] at hn;injection hn with hn; rw [hn]
  have htk:(nmL l).take (j+1)=(nmL l).take j++[x.nm]:=by
   rw [List.take_succ,hn]; rfl
  have hih:=ih (j+1) k (by omega) (by omega)
  rw [ydp,z6 hlt,zo,z6 hlt,yy,zz,pm,hx];obtain ⟨o,ho,hi,hb⟩:=zl3 x.nm (((nmL l).take j).map .str) 0 (z2q _);rw [z6l] at hi;rw [hdr];show (za x.d.cells 0 _)=bif (Sp.mem x.nm ((nmL l).take j)||zbf ((nmL l).take j++[x.nm]) ((nmL l).drop (j+1))) then _ else _
  refine (cellT x (λ _ c _ _ _=>match c with
   | D.str s=>zc (qx (D.str s) (((nmL l).take j).map .str) 0) λ o=>zjj o (λ i=>za (nI (List.range j)) i λ y=>match y with
     | D.int k' n=>bif decide (k'=IntKind.i64) then some (Out.ret (z6b 270),[]) else none
     | _=>none)
    (match c with
     | D.str s=>zc (qx (D.str s) (((nmL l).take j).map .str) 0) λ o=>zjj o
      (λ i_1=>LP cx (zij f87) n 51 0 6 k [(6,V.map 19),(20,V.d (D.sl 5 (T.ds l))),(21,V.d (D.int .i64 (l.length:Int))),(22,V.d (D.int .i64 (IntKind.i64.wrap ((j:Int)+1))))] [(19,Ob.map (((nmL l).take j).map .str) ((nI (List.range j)).set i_1 (D.int .i64 (j:Int))))] (AK cx (zij f87) n 51 0 6 (EK cx 51 0)))
      (LP cx (zij f87) n 51 0 6 k [(6,V.map 19),(20,V.d (D.sl 5 (T.ds l))),(21,V.d (D.int .i64 (l.length:Int))),(22,V.d (D.int .i64 (IntKind.i64.wrap ((j:Int)+1))))] [(19,Ob.map (((nmL l).take j).map .str++[D.str s]) (nI (List.range j)++[D.int .i64 (j:Int)]))] (AK cx (zij f87) n 51 0 6 (EK cx 51 0)))
     | _=>none)
   | _=>none)).trans ?_
  show (zc (qx (D.str x.nm) (((nmL l).take j).map .str) 0) λ o=>zjj o _ (zc (qx (D.str x.nm) (((nmL l).take j).map .str) 0) λ o=>zjj o _ _))=_;rw [ho,←hi];cases o with
  | some i=>
   have:=hb i rfl;simp only [pf,List.length_take] at this;show (za (nI (List.range j)) i λ y=>_)=_;rw [zd0,List.getElem?_range (by omega)]
   rfl
  | none=>
   have e:((j:Int)+1)=((j+1:Nat):Int):=by omega
   have h1:((nmL l).take j).map D.str++[D.str x.nm]=((nmL l).take (j+1)).map D.str:=by rw [htk,List.map_append]; rfl
   have h2:nI (List.range j)++[D.int .i64 (j:Int)]=nI (List.range (j+1)):=by unfold nI; rw [List.range_succ,List.map_append]; rfl
   show LP cx (zij f87) n 51 0 6 k _ [(19,Ob.map (((nmL l).take j).map D.str++[D.str x.nm]) (nI (List.range j)++[D.int .i64 (j:Int)]))] _=_;rw [IntWalk.i64_in _ (by have:=yh hs; omega),e,h1,h2,hih,htk]
   rfl
theorem wh{a:List V}{x:D}(h:za6 a=some x):a=[.d x]:=by
 unfold za6 at h; split at h <;> cases h; rfl
theorem m51(l:List T)(hg:zbg l=true):zh cx 51 [.d (.sl 5 (T.ds l))] []=some (.ret (bif decide (Sp.wr l=0) then mkM ((nmL l).map .str,nI (List.range l.length)) else z6b (Sp.wr l)),[]):=by
 have hk:knows cx (zij f87).S (zh cx):=zj zm λ a q b hd h hb=>by
  obtain ⟨m,hm,hb⟩:=zd hb;cases hb;obtain ⟨h0,hg⟩:=zdd hm;obtain ⟨h1,h2,h3⟩:=wv.1 hg;rw [wh h,h0];exact z6i m h1 h2 h3
 refine zk hk (N:=l.length+1) ?_;have e:f87 (.sl 5 (T.ds l))=some (zby l):=by unfold f87; rw [zj7 hg]; rfl
 rw [yf1,e];show (bif decide ((zby l).2=61) then some (Out.ret (V.tup [V.d D.nilmap,V.d (D.int .i64 (zby l).2)]),[]) else _)=_;rw [zvy];unfold Sp.wr;cases l.all yn
 ·rfl
 ·rw [zo];have e1:decide ((bif true then (0:Int) else 61)=61)=false:=rfl;rw [e1,cond_false];refine (z8z (l.length+1) l (wv.1 hg).1 l.length 0 (l.length+1) (by omega) (Nat.lt_succ_self _)).trans ?_
  show (bif zbf [] (nmL l) then _ else _)=_;cases zbf [] (nmL l) <;> rfl
def f92(x:D):Option (List UInt8×Int):=zc (zht x) λ l=>some (zby l)
theorem z3j{s:List UInt8}{L:List (List UInt8)}{j:Nat}{y:List UInt8}(hy:L[j]?=some y):Sp.mem s (L.drop j)=(decide (s=y)||Sp.mem s (L.drop (j+1))):=by
 have hlt:=(pj.1 hy).1;rw [List.drop_eq_getElem_cons hlt];have:L[j]=y:=(pj.1 hy).2;rw [this];show (decide (y=s)||_)=_
 by_cases h:y=s
 ·subst h; rfl
 ·rw [pb h,pb (λ e=>h e.symm)]; rfl
theorem z6e(n k:Nat)(l:List T)(hs:yd l=true)(i:Nat)(x:T)(hx:l[i]?=some x):∀ (d j m:Nat),j+d=i→d<m →
  LP cx (zct f92) n 56 0 8 m [(0,V.d (D.sl 5 (T.ds l))),(5,V.d (D.int .i64 (i:Int))),(6,V.d (D.int .i64 (j:Int)))] [] (AL cx (zct f92) n 56 0 5 8 (inK cx (zct f92) n 56 0 5 k (AK cx (zct f92) n 56 0 5 (EK cx 56 0)))) =
   bif Sp.mem x.nm (((nmL l).take i).drop j) then some (.ret (mkI 270),[]) else LP cx (zct f92) n 56 0 5 k [(0,V.d (D.sl 5 (T.ds l))),(5,V.d (D.int .i64 ((i+1:Nat):Int)))] [] (AK cx (zct f92) n 56 0 5 (EK cx 56 0)):=by
 have hlt:i<l.length:=(pj.1 hx).1;intro d
 induction d with
 | zero=>
  intro j m hj hm;obtain ⟨m,rfl⟩:∃ k',m=k'+1:=⟨m - 1,by omega⟩
  obtain rfl:j=i:=by omega
  have e:((j:Int)+1)=((j+1:Nat):Int):=by omega
  rw [z78,yj,cond_false,IntWalk.i64_in _ (by have:=yh hs; omega),e,List.drop_eq_nil_of_le (by simp only [List.length_take]; omega)]
  rfl
 | succ d ih=>
  intro j m hj hm;obtain ⟨m,rfl⟩:∃ k',m=k'+1:=⟨m - 1,by omega⟩
  have hjl:j<l.length:=by omega
  have hy:=pr hjl;generalize l[j]=y at hy;have hih:=ih (j+1) m (by omega) (by omega)
  have hn:((nmL l).take i)[j]?=some y.nm:=by
   rw [List.getElem?_take_of_lt (by omega)]; exact ztf hy
  have e:((j:Int)+1)=((j+1:Nat):Int):=by omega
  rw [z78,z6 (show j<i by omega),zo,z6 hlt,yy,z6 hjl,yy,zz,pm,hx,z3j hn]
  show (za x.d.cells 1 _)=_;rw [yb];show (zb (true&&true) (za (T.ds l) (j:Int).toNat _))=_;rw [zz,pm,hy];show (za y.d.cells 1 _)=_;rw [yb];show (bif decide (x.nm=y.nm) then _ else _)=_;rw [IntWalk.i64_in _ (by have:=yh hs; omega),e,hih]
  cases decide (x.nm=y.nm) <;> rfl
theorem z6f(n:Nat)(l:List T)(hs:yd l=true)(hn:l.length<n):∀ (d j k:Nat),j+d=l.length→d<k →
  LP cx (zct f92) n 56 0 5 k [(0,V.d (D.sl 5 (T.ds l))),(5,V.d (D.int .i64 (j:Int)))] [] (AK cx (zct f92) n 56 0 5 (EK cx 56 0)) =
   bif zbf ((nmL l).take j) ((nmL l).drop j) then some (.ret (mkI 270),[]) else some (.ret (mkI 0),[]):=by
 intro d
 induction d with
 | zero=>
  intro j k hj hk;obtain ⟨k,rfl⟩:∃ k',k=k'+1:=⟨k - 1,by omega⟩
  obtain rfl:j=l.length:=by omega
  have hl:(nmL l).length=l.length:=pf _;rw [z79,zo,yj,cond_false,List.drop_eq_nil_of_le (by omega)]
  rfl
 | succ d ih=>
  intro j k hj hk;obtain ⟨k,rfl⟩:∃ k',k=k'+1:=⟨k - 1,by omega⟩
  have hlt:j<l.length:=by omega
  have hx:=pr hlt;generalize l[j]=x at hx;have hnm:=ztf hx;have hlt2:j<(nmL l).length:=by unfold nmL; rw [pf]; exact hlt
  have hdr:(nmL l).drop j=x.nm::(nmL l).drop (j+1):=by
   rw [List.drop_eq_getElem_cons hlt2];rw [pr hlt2] at hnm;injection hnm with hnm; rw [hnm]
  have htk:(nmL l).take (j+1)=(nmL l).take j++[x.nm]:=by
   rw [List.take_succ,hnm]; rfl
  have hih:=ih (j+1) k (by omega) (by omega)
  have hin:=z6e n k l hs j x hx j 0 n (by omega) (by omega)
  rw [List.drop_zero] at hin;rw [z79,zo,z6 hlt,cond_true];refine hin.trans ?_;rw [hih,hdr,htk];show _=bif (Sp.mem x.nm ((nmL l).take j)||zbf ((nmL l).take j++[x.nm]) ((nmL l).drop (j+1))) then _ else _
  cases Sp.mem x.nm ((nmL l).take j) <;> rfl
theorem m56(l:List T)(hg:zbg l=true):zh cx 56 [.d (.sl 5 (T.ds l))] []=some (.ret (mkI (Sp.wr l)),[]):=by
 have hk:knows cx (zct f92).S (zh cx):=zj zm λ a q b hd h hb=>by
  obtain ⟨m,hm,hb⟩:=zd hb;cases hb;obtain ⟨h0,hg⟩:=zdd hm;obtain ⟨h1,h2,h3⟩:=wv.1 hg;rw [wh h,h0];exact z89 m h1 h2 h3
 refine zk hk (N:=l.length+1) ?_;have e:f92 (.sl 5 (T.ds l))=some (zby l):=by unfold f92; rw [zj7 hg]; rfl
 rw [yfz,e];show (bif decide ((zby l).2=61) then some (Out.ret (mkI 61),[]) else _)=_;rw [zvy];unfold Sp.wr;cases l.all yn
 ·rfl
 ·have e1:decide ((bif true then (0:Int) else 61)=61)=false:=rfl;rw [e1,cond_false];refine (z6f (l.length+1) l (wv.1 hg).1 (Nat.lt_succ_self _) l.length 0 (l.length+1) (by omega) (Nat.lt_succ_self _)).trans ?_
  show (bif zbf [] (nmL l) then _ else _)=_;cases zbf [] (nmL l) <;> rfl
def zf9(names:List (List UInt8))(t:T):List Nat:=xn (λ k=>Sp.mem (names.getD k []) (xk [] [] t.kids)) names.length
def zdt(l:List T):List (List Nat):=l.map (zf9 (nmL l))
def xi(l:List (List Nat)):List D:=l.map λ u=>.sl 1 (nI u)
theorem zrd{l:List (List UInt8)}{s:List UInt8}(h:l.Nodup):(Sp.put l s).Nodup:=by
 unfold Sp.put;cases hm:Sp.mem s l
 ·simp only [cond_false];rw [List.nodup_append];refine ⟨h,by simp,λ a ha b hb=>?_⟩
  rw [List.mem_singleton] at hb;subst hb;intro e;subst e;rw [mem_iff.2 ha] at hm;cases hm
 ·exact h
mutual
theorem zr8:∀ (t:T) (b acc:List (List UInt8)),acc.Nodup→(xb t b acc).Nodup
 | .mk k nm kids nms _,b,acc,h=>by
  unfold xb;cases decide (k=1)
  ·exact zo2 kids k nms b 0 acc h
  ·simp only [cond_true];cases Sp.mem nm b||Sp.word nm
   ·exact zrd h
   ·exact h
theorem zo2:∀ (l:List T) (k:Int) (nms b:List (List UInt8)) (i:Nat) (acc:List (List UInt8)),acc.Nodup→(vl l k nms b i acc).Nodup
 | [],k,nms,b,i,acc,h=>by simpa [vl] using h
 | t::r,k,nms,b,i,acc,h=>by
  unfold vl;refine zo2 r k nms b (i+1) _ ?_;cases (decide (k=7)&&decide (i=1))||(decide (k=11)&&decide (i=0))
  ·exact zr8 t _ acc h
  ·exact h
end
theorem zo3{b:List (List UInt8)}:∀ (l:List T) {acc:List (List UInt8)},acc.Nodup→(xk b acc l).Nodup
 | [],acc,h=>h
 | t::l,acc,h=>zo3 l (zr8 t b acc h)
theorem zvr{b:List (List UInt8)}:∀ (l:List T) (acc:List (List UInt8)),(xk b acc l).length≤acc.length+xg l
 | [],acc=>by simp [xk]
 | t::l,acc=>by
  have h1:=zvr (b:=b) l (xb t b acc);have h2:=zff t b acc;simp only [xg];show (xk b (xb t b acc) l).length≤_;omega
theorem zpc:∀ (r seen:List (List UInt8)),seen.Nodup→zbf seen r=false→(seen++r).Nodup
 | [],seen,h,_=>by rwa [List.append_nil]
 | s::r,seen,h,hd=>by
  unfold zbf at hd;rw [Bool.or_eq_false_iff] at hd;have h1:(seen++[s]).Nodup:=by
   have:=zrd (s:=s) h;unfold Sp.put at this;rw [hd.1] at this;exact this
  have:=zpc r (seen++[s]) h1 hd.2
  rwa [List.append_assoc] at this
def zcr(names:List (List UInt8))(s:List UInt8):Option Nat:=ym (λ t=>decide (s=t)) names 0
theorem zjt{p:List UInt8→Bool}:∀ {l:List (List UInt8)} {i j:Nat},ym p l i=some j→∃ d x,j=i+d∧l[d]?=some x∧p x=true
 | [],i,j,h=>by cases h
 | x::r,i,j,h=>by
  unfold ym at h;cases hp:p x <;> rw [hp] at h
  ·simp only [cond_false] at h;obtain ⟨d,y,h1,h2,h3⟩:=zjt h;exact ⟨d+1,y,by omega,by simpa using h2,h3⟩
  ·simp only [cond_true] at h;cases h;exact ⟨0,x,rfl,rfl,hp⟩
theorem zvx{s:List UInt8}:∀ {l:List (List UInt8)} {i d:Nat},l.Nodup→l[d]?=some s→ym (λ t=>decide (s=t)) l i=some (i+d)
 | [],i,d,_,h=>by simp at h
 | x::r,i,d,hn,h=>by
  unfold ym;rw [List.nodup_cons] at hn;rcases d with _ | d
  ·simp at h; subst h;rw [pa rfl]; rfl
  ·simp only [List.getElem?_cons_succ] at h;have:s ≠ x:=λ e=>hn.1 (e ▸ po h);rw [pb this,cond_false,zvx hn.2 h];congr 1; omega
theorem zj2{names:List (List UInt8)}(hn:names.Nodup){s:List UInt8}{k:Nat}:zcr names s=some k↔names[k]?=some s:=by
 unfold zcr;constructor
 ·intro h;obtain ⟨d,x,h1,h2,h3⟩:=zjt h;have:=pc h3;subst this;rw [h1,Nat.zero_add]; exact h2
 ·intro h;rw [zvx hn h,Nat.zero_add]
theorem zrt(s:List UInt8):∀ (names:List (List UInt8)) (i:Nat),qx (.str s) (names.map .str) i=some (ym (λ t=>decide (s=t)) names i)
 | [],i=>rfl
 | x::r,i=>by
  show (bif decide (s=x) then some (some i) else qx (.str s) (r.map .str) (i+1))=some (bif decide (s=x) then some i else ym _ r (i+1));rw [zrt s r (i+1)];cases decide (s=x) <;> rfl
def zmm(names:List (List UInt8))(us:List Nat)(s:List UInt8):List Nat:=match zcr names s with | some i=>us++[i] | none=>us
theorem zzv(names:List (List UInt8)):∀ (N:List (List UInt8)) (us:List Nat),N.foldl (zmm names) us=us++N.filterMap (zcr names)
 | [],us=>by simp
 | s::N,us=>by
  rw [List.foldl_cons,zzv names N,List.filterMap_cons];unfold zmm;cases zcr names s <;> simp
theorem z4a{names N:List (List UInt8)}(hn:names.Nodup)(hN:N.Nodup) :
  vf ((N.foldl (zmm names) []).map λ k:Nat=>(k:Int))=(xn (λ k=>Sp.mem (names.getD k []) N) names.length).map λ k:Nat=>(k:Int):=by
 rw [zzv,List.nil_append];refine zuq ?_ λ k=>?_
 ·unfold List.Nodup;rw [List.pairwise_filterMap];refine hN.imp λ {a a'} hab b hb b' hb' e=>hab ?_;subst e;have h1:=(zj2 hn).1 hb;have h2:=(zj2 hn).1 hb';rw [h1] at h2;cases h2; rfl
 ·rw [List.mem_filterMap];constructor
  ·rintro ⟨s,hs,he⟩;have h1:=(zj2 hn).1 he;have h2:=(pj.1 h1).1;refine ⟨h2,?_⟩;rw [List.getD_eq_getElem?_getD,h1];exact mem_iff.2 hs
  ·rintro ⟨h1,h2⟩;have h3:=pr h1;rw [List.getD_eq_getElem?_getD,h3] at h2;exact ⟨names[k],mem_iff.1 h2,(zj2 hn).2 h3⟩
theorem zvl(x:Int):∀ l:List Int,(zh6 x l).length=l.length+1
 | []=>rfl
 | y::l=>by
  unfold zh6;cases decide (x≤y)
  ·simp only [cond_false,List.length_cons,zvl x l]
  ·rfl
theorem zlm:∀ l:List Int,(vf l).length=l.length
 | []=>rfl
 | x::l=>by simp only [vf,zvl,zlm l,List.length_cons]
theorem zvk:∀ us:List Nat,zk1 (nI us)=some (us.map λ k:Nat=>(k:Int))
 | []=>rfl
 | u::us=>by
  show (match zk1 (nI us) with | some l=>some ((u:Int)::l) | none=>none)=_
  rw [zvk us]; rfl
theorem m49(l:List D)(zs:List Int)(hz:zk1 l=some zs)(h:l.length≤4294967296):zh cx 49 [.slo 0 1 l.length] [(0,.row l)]=some (.ret (.tup []),[(0,.row ((vf zs).map (.int .i64)))]):=by
 cases l with
 | nil=>cases hz; exact zh4 (n:=10) (by kernel_rfl)
 | cons x r=>
  refine zh4 (n:=1) ?_;have e:zkt [.slo 0 1 (x::r).length] [(0,.row (x::r))]=some (.ret (.tup []),[(0,.row ((vf zs).map (.int .i64)))]):=by
   show zb (Nat.beq (x::r).length (x::r).length&&decide ((x::r).length≤4294967296)&&true) (zc (zk1 (x::r)) _)=_;rw [Nat.beq_refl,pa h,hz]; rfl
  have e2:cx.nat 49 [.slo 0 1 (x::r).length] [(0,.row (x::r))]=zkt [.slo 0 1 (x::r).length] [(0,.row (x::r))]:=rfl;unfold vg zbh;rw [e2,e]
def zfj(x:D):Option (List D×List D):=zc (zht x) λ l=>zb (decide (Sp.wr l=0)) (some ((nmL l).map .str,nI (List.range l.length)))
def z3b(x:D):Option Int:=zc (zht x) λ l=>zb (!decide (Sp.wr l=0)) (some (Sp.wr l))
def okA(l:List T):Bool:=yd l&&T.oks l&&(l.all λ t=>Sp.right t||Sp.elem t)&&decide (xg l<2147483648)
def ze1(x:D):Option (List D):=zc (qa Sp.toC x) λ l=>zb (okA l) (some ((xk [] [] l).map .str))
def s49(l:List D):Option (List D):=zc (zk1 l) λ zs=>zb (decide (l.length≤4294967296)) (some ((vf zs).map (.int .i64)))
theorem zw1{a:List V}{x:D}{b:List D}(h:za6 a=some x)(hb:ze1 x=some b):zh cx 52 a []=some (.ret (.d (.sl 1 b)),[]):=by
 obtain ⟨m,hm,hb⟩:=zd hb;obtain ⟨ho,hb⟩:=ze hb;cases hb;obtain ⟨d,rfl,h2,_⟩:=ze4 hm;unfold okA at ho;rw [ph,ph,ph] at ho;rw [wh h,(zgd (λ x t h=>(xz h).1) h2).1];exact m52 m ho.1.1.1 ho.1.1.2 (List.all_eq_true.1 ho.1.2) (pc ho.2)
theorem z54{l:List T}(h:okA l=true):ze1 (.sl 5 (T.ds l))=some ((xk [] [] l).map .str):=by
 have ho:=h;unfold okA at ho;rw [ph,ph,ph] at ho;unfold ze1;rw [znx (λ t ht=>zhl (wn ho.1.1.2 ht)) ho.1.1.1];show zb (okA l) _=_;rw [h]; rfl
theorem zqf{S:CK R1}(hS:knows cx S.S (zh cx)):knows cx (yax s49 S).S (zh cx):=we hS λ a σ q r hd h=>by
 obtain ⟨l,n⟩:=q;unfold z4r at hd;split at hd
 ·cases hd;obtain ⟨l',hl,h⟩:=zd h;obtain ⟨hn,h⟩:=ze h;cases h;obtain ⟨zs,hz,hl⟩:=zd hl;obtain ⟨h1,hl⟩:=ze hl;cases hl;have hn:n=l.length:=pg hn;subst hn;exact m49 l zs hz (pc h1)
 ·cases hd
theorem zyt:knows cx (zao zfj ze1 s49).S (zh cx):=
 zj (zj (zqf zm) λ a q b hd h hb=>zw1 h hb) λ a q b hd h hb=>by
  obtain ⟨l,hl,hb⟩:=zd hb;obtain ⟨h1,hb⟩:=ze hb;cases hb;obtain ⟨h0,hg⟩:=zdd hl;rw [wh h,h0,m51 l hg,h1];rfl
theorem zyu:knows cx (z7b z3b).S (zh cx):=
 zj zm λ a q b hd h hb=>by
  obtain ⟨l,hl,hb⟩:=zd hb;obtain ⟨h1,hb⟩:=ze hb;cases hb;obtain ⟨h0,hg⟩:=zdd hl;have h2:decide (Sp.wr l=0)=false:=by simpa using h1
  rw [wh h,h0,m51 l hg,h2];rfl
theorem wr0{l:List T}(h:Sp.wr l=0):l.all yn=true∧(nmL l).Nodup:=by
 unfold Sp.wr at h;cases h1:l.all yn <;> rw [h1] at h
 ·simp at h
 ·cases h2:zbf [] (nmL l) <;> rw [h2] at h
  ·exact ⟨rfl,by have:=zpc (nmL l) [] List.nodup_nil h2; rwa [List.nil_append] at this⟩
  ·simp at h
theorem zsj{t:T}(h:yn t=true):∃ a b,t.kids=[a,b]∧Sp.right a=true∧Sp.right b=true:=by
 obtain ⟨k,nm,kids,nms,pl⟩:=t;unfold yn at h;split at h
 ·rename_i he;cases he;rw [ph,ph,ph] at h;exact ⟨_,_,rfl,h.1.2,h.2⟩
 ·cases h
theorem zvg{t:T}(h:t.ok=true):T.oks t.kids=true∧yd t.kids=true:=by
 obtain ⟨k,nm,kids,nms,pl⟩:=t;simp only [T.ok,ph] at h;exact ⟨h.2,h.1.1.1.2⟩
theorem zl7(t:T):xg t.kids<Sp.cnt t:=by
 obtain ⟨k,nm,kids,nms,pl⟩:=t;simp only [Sp.cnt,T.kids]; omega
theorem z3e{l:List T}(hg:zbg l=true)(hd:l.all yn=true){t:T}(ht:t∈l):okA t.kids=true:=by
 obtain ⟨h1,h2,h3⟩:=wv.1 hg;obtain ⟨a,b,he,ha,hb⟩:=zsj (List.all_eq_true.1 hd t ht);obtain ⟨h4,h5⟩:=zvg (wn h2 ht);have h6:=zl7 t;have h7:=zlc t;have h8:=zdn ht;unfold okA;rw [h4,h5,pa (p:=xg t.kids<2147483648) (by omega),he]
 simp [ha,hb]
theorem zxo{R α S:Type}(L:Nat→Int→S→Option R)(xs:List α)(step:S→α→S)(I:Nat→S→Prop)(E:S→Option R)(hs:xs.length<4294967296)
  (H:∀ (k j:Nat) x s,j<xs.length→xs[j]?=some x→I j s→L (k+1) j s=L k (IntKind.i64.wrap ((j:Int)+1)) (step s x)∧I (j+1) (step s x)) (HE:∀ k s,I xs.length s→L (k+1) xs.length s=E s) {s:S} (h0:I 0 s) {k:Nat} (hk:xs.length<k) :
  L k 0 s=E (xs.foldl step s):=by
 have key:∀ (d j:Nat) (k:Nat) (s:S),j+d=xs.length→d<k→I j s→L k j s=E ((xs.drop j).foldl step s):=by
  intro d
  induction d with
  | zero=>
   intro j k s hj hk hi;obtain ⟨k,rfl⟩:∃ k',k=k'+1:=⟨k - 1,by omega⟩
   obtain rfl:j=xs.length:=by omega
   rw [HE _ _ hi,List.drop_length]; rfl
  | succ d ih=>
   intro j k s hj hk hi;obtain ⟨k,rfl⟩:∃ k',k=k'+1:=⟨k - 1,by omega⟩
   have hlt:j<xs.length:=by omega
   obtain ⟨h1,h2⟩:=H k j xs[j] s hlt (pr hlt) hi;rw [h1,IntWalk.i64_in _ (by omega)]
   have e:((j:Int)+1)=((j+1:Nat):Int):=by omega
   rw [e,ih (j+1) k _ (by omega) (by omega) h2,List.drop_eq_getElem_cons hlt]
   rfl
 have:=key xs.length 0 k s (by omega) hk h0
 rw [List.drop_zero] at this;exact this
theorem z21(us:List Nat)(h:us.length≤4294967296):s49 (nI us)=some ((vf (us.map λ k:Nat=>(k:Int))).map (.int .i64)):=by
 unfold s49;rw [zvk];show zb (decide ((nI us).length≤4294967296)) _=_;rw [pa (by unfold nI; rw [pf]; exact h)]
 rfl
theorem z6h(n k:Nat)(l:List T)(names:List (List UInt8))(hnl:names.length<4294967296)(L:List D)(hL:L.length<4294967295)(b:List (List UInt8))(hb:yd b=true)(hbn:b.length<n)(hn:names.Nodup)(hbd:b.Nodup)(i:Int) :
  LP cx (zao zfj ze1 s49) n 24 0 10 n [(4,V.d (D.map (names.map .str) (nI (List.range names.length)))),(6,V.sl 1 L 6),(9,V.slo 9 1 0),(22,V.d (D.sl 5 (T.ds l))),(23,V.d (D.int .i64 (l.length:Int))),(24,V.d (D.int .i64 i)),(30,V.d (D.sl 1 (b.map .str))),(31,V.d (D.int .i64 (b.length:Int))),(32,V.d (D.int .i64 0))] [(6,Ob.tok L.length),(9,Ob.row [])] (AL cx (zao zfj ze1 s49) n 24 0 6 10 (inK cx (zao zfj ze1 s49) n 24 0 6 k (AK cx (zao zfj ze1 s49) n 24 0 6 (EK cx 24 0)))) =
  LP cx (zao zfj ze1 s49) n 24 0 6 k [(4,V.d (D.map (names.map .str) (nI (List.range names.length)))),(6,V.sl 1 (L++[D.sl 1 (nI (xn (λ k=>Sp.mem (names.getD k []) b) names.length))]) 6),(22,V.d (D.sl 5 (T.ds l))),(23,V.d (D.int .i64 (l.length:Int))),(24,V.d (D.int .i64 (IntKind.i64.wrap (i+1))))] [(6,Ob.tok (L++[D.sl 1 (nI (xn (λ k=>Sp.mem (names.getD k []) b) names.length))]).length)] (AK cx (zao zfj ze1 s49) n 24 0 6 (EK cx 24 0)):=by
 have h:=zxo (λ m j (us:List Nat)=>LP cx (zao zfj ze1 s49) n 24 0 10 m [(4,V.d (D.map (names.map .str) (nI (List.range names.length)))),(6,V.sl 1 L 6),(9,V.slo 9 1 (nI us).length),(22,V.d (D.sl 5 (T.ds l))),(23,V.d (D.int .i64 (l.length:Int))),(24,V.d (D.int .i64 i)),(30,V.d (D.sl 1 (b.map .str))),(31,V.d (D.int .i64 (b.length:Int))),(32,V.d (D.int .i64 j))] [(6,Ob.tok L.length),(9,Ob.row (nI us))] (AL cx (zao zfj ze1 s49) n 24 0 6 10 (inK cx (zao zfj ze1 s49) n 24 0 6 k (AK cx (zao zfj ze1 s49) n 24 0 6 (EK cx 24 0)))))
  b (zmm names) (λ j us=>us.length≤j)
  (λ us=>LP cx (zao zfj ze1 s49) n 24 0 6 k [(4,V.d (D.map (names.map .str) (nI (List.range names.length)))),(6,V.sl 1 (L++[D.sl 1 ((vf (us.map λ k:Nat=>(k:Int))).map (.int .i64))]) 6),(22,V.d (D.sl 5 (T.ds l))),(23,V.d (D.int .i64 (l.length:Int))),(24,V.d (D.int .i64 (IntKind.i64.wrap (i+1))))] [(6,Ob.tok (L.length+[D.sl 1 ((vf (us.map λ k:Nat=>(k:Int))).map (.int .i64))].length))] (AK cx (zao zfj ze1 s49) n 24 0 6 (EK cx 24 0)))
  (yh hb)
  (λ m j s us hj hs hi=>by
   have hu:(nI us).length=us.length:=by unfold nI; rw [pf]
   have hjb:=yh hb;refine ⟨?_,?_⟩
   ·refine (z8b zfj ze1 s49 n k m l (names.map .str) (nI (List.range names.length)) L (nI us) b i j).trans ?_;rw [pf,z6 hj,yy,xx,pm,hs];show (zc (qx (D.str s) (names.map .str) 0) _)=_;rw [zrt];unfold zmm zcr;cases hf:ym (λ t=>decide (s=t)) names 0 with
    | none=>rfl
    | some d=>
     obtain ⟨e,x,h1,h2,_⟩:=zjt hf;have h3:=(pj.1 h2).1;have h4:nI (us++[d])=nI us++[D.int .i64 (d:Int)]:=by unfold nI; rw [List.map_append]; rfl
     simp only;show (za (nI (List.range names.length)) d λ y=>_)=_;rw [zd0,List.getElem?_range (by omega)]
     show zb (Nat.beq (nI us).length (nI us).length&&decide ((nI us).length+[D.int .i64 (d:Int)].length≤4294967296)) _=_;rw [Nat.beq_refl,pa (p:=(nI us).length+[D.int .i64 (d:Int)].length≤4294967296) (by rw [hu]; simp only [List.length_cons,List.length_nil]; omega),h4,pe]
     rfl
   ·unfold zmm;cases zcr names s with
    | none=>simp only; omega
    | some d=>simp only [pe,List.length_cons,List.length_nil]; omega)
  (λ m us hi=>by
   refine (z8b zfj ze1 s49 n k m l (names.map .str) (nI (List.range names.length)) L (nI us) b i b.length).trans ?_;have hjb:=yh hb;rw [yj,cond_false];show (zc (s49 (nI us)) _)=_;rw [z21 us (by omega)]
   have e5:((vf (us.map λ k:Nat=>(k:Int))).map (D.int .i64)).length=(nI us).length:=by unfold nI; rw [pf,zlm,pf,pf]
   show zb (Nat.beq (nI us).length (nI us).length) (zb (Nat.beq (nI us).length ((vf (us.map λ k:Nat=>(k:Int))).map (D.int .i64)).length) (zb (decide (L.length=L.length)&&decide (L.length+[D.sl 1 ((vf (us.map λ k:Nat=>(k:Int))).map (D.int .i64))].length≤4294967296)) _))=_;rw [e5,Nat.beq_refl,pa (p:=L.length=L.length) rfl,pa (p:=L.length+[D.sl 1 ((vf (us.map λ k:Nat=>(k:Int))).map (D.int .i64))].length≤4294967296) (by simp only [List.length_cons,List.length_nil]; omega)]
   rfl) (s:=[]) (Nat.le_refl _) (k:=n) hbn
 refine h.trans ?_;rw [z4a hn hbd];have e:((xn (λ k=>Sp.mem (names.getD k []) b) names.length).map λ k:Nat=>(k:Int)).map (D.int .i64)=nI (xn (λ k=>Sp.mem (names.getD k []) b) names.length):=by
  unfold nI; rw [List.map_map]; rfl
 rw [e,pe]
theorem zkc{α:Type}{l:List α}(h:l.length<4294967296):yd l=true:=pa h
theorem zd2(l:List T):(nmL l).length=l.length:=pf _
theorem zq1(a:List (List Nat))(u:List Nat):xi (a++[u])=xi a++[D.sl 1 (nI u)]:=by unfold xi; rw [List.map_append]; rfl
theorem zmd{α β:Type}(f:α→β):∀ (l:List α) (acc:List β),l.foldl (λ a x=>a++[f x]) acc=acc++l.map f
 | [],acc=>by simp
 | x::l,acc=>by rw [List.foldl_cons,zmd f l]; simp
def mkU(q:List (List Nat)×Int):V:=.tup [.d (.sl 1 (xi q.1)),.d (.int .i64 q.2)]
def zbd(l:List T):List (List Nat)×Int:=bif decide (Sp.wr l=0) then (zdt l,0) else ([],Sp.wr l)
theorem m24(l:List T)(hg:zbg l=true):zh cx 24 [.d (.sl 5 (T.ds l))] []=some (.ret (mkU (zbd l)),[]):=by
 unfold zbd;obtain ⟨h1,h2,h3⟩:=wv.1 hg;have hlb:=zit l;cases hw:decide (Sp.wr l=0)
 ·refine zk zyu (N:=0) ?_;have e:z3b (.sl 5 (T.ds l))=some (Sp.wr l):=by
   unfold z3b; rw [zj7 hg];show zb (!decide (Sp.wr l=0)) _=_;rw [hw]; rfl
  rw [yd6,e];show (bif !decide (Sp.wr l=0) then _ else _)=_;rw [hw];rfl
 ·have hw0:=pc hw;obtain ⟨hd,hn⟩:=wr0 hw0;obtain ⟨N,hN⟩:∃ N,N=l.length+65537:=⟨_,rfl⟩;refine zk zyt (N:=N) ?_;have e:zfj (.sl 5 (T.ds l))=some ((nmL l).map .str,nI (List.range l.length)):=by
   unfold zfj; rw [zj7 hg];show zb (decide (Sp.wr l=0)) _=_;rw [hw]; rfl
  rw [yf9,e,zo]
  have h:=zf3 (λ k j (us:List (List Nat))=>LP cx (zao zfj ze1 s49) N 24 0 6 k [(4,V.d (D.map ((nmL l).map .str) (nI (List.range (nmL l).length)))),(6,V.sl 1 (xi us) 6),(22,V.d (D.sl 5 (T.ds l))),(23,V.d (D.int .i64 (l.length:Int))),(24,V.d (D.int .i64 j))] [(6,Ob.tok (xi us).length)] (AK cx (zao zfj ze1 s49) N 24 0 6 (EK cx 24 0)))
   l (λ a t=>a++[zf9 (nmL l) t]) (λ j us=>us.length≤j) (λ us=>some (.ret (mkU (us,0)),[])) (yh h1)
   (λ k j x us hj hx hi=>by
    have hmem:=po hx;have ho:=z3e hg hd hmem;have hjb:=yh h1;have hud:(xi us).length=us.length:=by unfold xi; rw [pf]
    have hgl:=zvr (b:=[]) x.kids [];have hc1:=zl7 x;have hc2:=zlc x;have hc3:=zdn hmem;have hin:=z6h N k l (nmL l) (by rw [zd2]; omega) (xi us) (by omega) (xk [] [] x.kids) (zkc (by simp only [List.length_nil] at hgl; omega)) (by simp only [List.length_nil] at hgl; omega) hn (zo3 x.kids List.nodup_nil) j
    refine ⟨?_,by simp only [pe,List.length_cons,List.length_nil]; omega⟩
    refine (ydt zfj ze1 s49 _ k l ((nmL l).map .str) (nI (List.range (nmL l).length)) (xi us) j).trans ?_;rw [z6 hj,zo,z6 hj,yy,zz,pm,hx];rw [cond_true,v6,yb];simp only [xo,wz,vc,vb,va,qw,Bool.and_self];rw [zfv,Bool.true_or,cond_true,z54 ho];rw [v6,pf,zq1];exact hin)
   (λ k us=>by
    refine (ydt zfj ze1 s49 _ k l ((nmL l).map .str) (nI (List.range (nmL l).length)) (xi us) l.length).trans ?_;rw [yj,cond_false];rfl) (s:=[]) (Nat.le_refl _) (k:=N) (by omega)
  rw [zmd,List.nil_append,zd2] at h;exact h
theorem m57(l:List T)(hg:zbg l=true)(hd:l.all yn=true)(i k:Nat)(t u:T)(ht:l[i]?=some t)(hu:l[k]?=some u):zh cx 57 [.d (.sl 5 (T.ds l)),.d (.int .i64 i),.d (.int .i64 k)] []=some (.ret (mkB (Sp.mem u.nm (xk [] [] t.kids))),[]):=by
 have hk:knows cx (yec (zbl (T.depths l)) p93).S (zh cx):=zra (m60 _) (zj zm λ a q b hd h hb=>zlw h hb);refine zk hk (N:=0) ?_;obtain ⟨h1,h2,h3⟩:=wv.1 hg;have htm:=po ht;obtain ⟨a,b,he,ha,hb⟩:=zsj (List.all_eq_true.1 hd t htm);have hok:=(zvg (wn h2 htm)).1;have hc1:=zl7 t;have hc2:=zlc t;have hc3:=zdn htm;have hdep:=zer htm;have hdk:T.depths t.kids<t.depth:=by obtain ⟨_,_,_,_,_⟩:=t; simp only [T.depth,T.kids]; omega
 rw [he] at hok hc1 hdk;simp only [T.oks,ph] at hok;simp only [xg] at hc1;simp only [T.depths] at hdk;have hga:=zff a [] [];simp only [List.length_nil] at hga;have e1:=zs3 (m:=T.depths l) (t:=a) (b:=[]) (l:=[]) (by omega) hok.1 (zbr.2 ⟨by rw [ha]; rfl,by simp only [List.length_nil]; omega,by simp only [List.length_nil]; omega⟩)
 have e2:=zs3 (m:=T.depths l) (t:=b) (b:=[]) (l:=xb a [] []) (by omega) hok.2.1 (zbr.2 ⟨by rw [hb]; rfl,by simp only [List.length_nil]; omega,by omega⟩)
 have hgb:=zff b [] (xb a [] []);have e3:p93 (.sl 1 ((xb b [] (xb a [] [])).map .str)) u.nm=some (Sp.mem u.nm (xb b [] (xb a [] []))):=by
  unfold p93; rw [zc0 (zkc (by omega))]; rfl
 have hi:=(pj.1 ht).1;have hk2:=(pj.1 hu).1;have e4:xk [] [] t.kids=xb b [] (xb a [] []):=by rw [he]; rfl
 rw [e4];refine (yfy (zbl (T.depths l)) p93 0 l i k).trans ?_;have z0:((0:Int)<(((T.ds [a,b]).length:Nat):Int)):=by simp only [zo,List.length_cons]; omega
 have z1:((1:Int)<(((T.ds [a,b]).length:Nat):Int)):=by simp only [zo,List.length_cons,List.length_nil]; omega
 have n0:(0:Int).toNat=0:=rfl;have n1:(1:Int).toNat=1:=rfl;have g0:[a,b][0]?=some a:=rfl;have g1:[a,b][1]?=some b:=rfl;simp only [zo l,z6 hi,z6 hk2,yy,Bool.and_self,qw,zz,pm,ht,hu,v6,yb,xo,wz,vc,vb,va,zfv,Bool.true_or,cond_true,he,pa z0,pa z1,n0,n1,g0,g1,wj];have e1':zbl (T.depths l) (D.sl 1 []) a.d (D.sl 1 [])=some ((xb a [] []).map .str):=e1;have e2':zbl (T.depths l) (D.sl 1 ((xb a [] []).map .str)) b.d (D.sl 1 [])=some ((xb b [] (xb a [] [])).map .str):=e2;simp only [e1',v6,e2',e3];rfl
def w29(x:D):Option Int:=zc (zht x) λ l=>some (Sp.wr l)
def u29(x:D)(i k:Int):Option Bool:=zc (zht x) λ l=>zb (l.all yn&&decide (0≤i)&&decide (0≤k)) (zc l[i.toNat]? λ t=>zc l[k.toNat]? λ u=>some (Sp.mem u.nm (xk [] [] t.kids)))
theorem zv9{a:List V}{q}(h:zx0 a=some q):a=[.d q.1,.d (.int .i64 q.2.1),.d (.int .i64 q.2.2)]:=by
 unfold zx0 at h; split at h <;> cases h; rfl
theorem zys:knows cx (zbq w29 u29).S (zh cx):=
 zj (zj zm λ a q b hd h hb=>by
  obtain ⟨l,hl,hb⟩:=zd hb;obtain ⟨h1,hb⟩:=ze hb;obtain ⟨t,ht,hb⟩:=zd hb;obtain ⟨u,hu,hb⟩:=zd hb;cases hb;obtain ⟨h0,hg⟩:=zdd hl;rw [ph,ph] at h1;have hi:=pc h1.1.2;have hk:=pc h1.2;have:=m57 l hg h1.1.1 q.2.1.toNat q.2.2.toNat t u ht hu;rw [Int.toNat_of_nonneg hi,Int.toNat_of_nonneg hk] at this;rw [zv9 h,h0];exact this) λ a q b hd h hb=>by
  obtain ⟨l,hl,hb⟩:=zd hb;cases hb;obtain ⟨h0,hg⟩:=zdd hl;rw [wh h,h0];exact m56 l hg
theorem zkd(p:Nat→Bool)(j:Nat):xn p (j+1)=bif p j then xn p j++[j] else xn p j:=by
 unfold xn;rw [List.range_succ,List.filter_append];cases h:p j <;> simp [h]
theorem ze8(p:Nat→Bool)(j:Nat):(xn p j).length≤j:=by
 unfold xn;exact Nat.le_trans (List.length_filter_le ..) (by rw [List.length_range]; exact Nat.le_refl _)
theorem z6g(n k:Nat)(l:List T)(hg:zbg l=true)(hd:l.all yn=true)(L:List D)(hL:L.length<4294967295)(i:Nat)(t:T)(ht:l[i]?=some t):∀ (d j m:Nat),j+d=l.length→d<m →
  LP cx (zbq w29 u29) n 29 0 10 m [(0,V.d (D.sl 5 (T.ds l))),(5,V.sl 1 L 5),(6,V.d (D.int .i64 (i:Int))),(7,V.sl 1 (nI (xn (λ k=>Sp.mem ((nmL l).getD k []) (xk [] [] t.kids)) j)) 7),(8,V.d (D.int .i64 (j:Int)))] [(5,Ob.tok L.length),(7,Ob.tok (nI (xn (λ k=>Sp.mem ((nmL l).getD k []) (xk [] [] t.kids)) j)).length)] (AL cx (zbq w29 u29) n 29 0 6 10 (inK cx (zbq w29 u29) n 29 0 6 k (AK cx (zbq w29 u29) n 29 0 6 (EK cx 29 0)))) =
  LP cx (zbq w29 u29) n 29 0 6 k [(0,V.d (D.sl 5 (T.ds l))),(5,V.sl 1 (L++[D.sl 1 (nI (zf9 (nmL l) t))]) 5),(6,V.d (D.int .i64 (IntKind.i64.wrap ((i:Int)+1))))] [(5,Ob.tok (L++[D.sl 1 (nI (zf9 (nmL l) t))]).length)] (AK cx (zbq w29 u29) n 29 0 6 (EK cx 29 0)):=by
 have hs:=(wv.1 hg).1;have hsl:=yh hs;intro d
 induction d with
 | zero=>
  intro j m hj hm;obtain ⟨m,rfl⟩:∃ k',m=k'+1:=⟨m - 1,by omega⟩
  obtain rfl:j=l.length:=by omega
  rw [z8a,zo,yj,cond_false,pa (p:=L.length=L.length) rfl,pa (p:=L.length+[D.sl 1 (nI (xn (λ k=>Sp.mem ((nmL l).getD k []) (xk [] [] t.kids)) l.length))].length≤4294967296) (by simp only [List.length_cons,List.length_nil]; omega)]
  unfold zf9;rw [zd2,pe];rfl
 | succ d ih=>
  intro j m hj hm;obtain ⟨m,rfl⟩:∃ k',m=k'+1:=⟨m - 1,by omega⟩
  have hjl:j<l.length:=by omega
  have hy:=pr hjl;generalize l[j]=y at hy;have hih:=ih (j+1) m (by omega) (by omega)
  rw [zkd] at hih;have hnm:=ztf hy;have hgd:(nmL l).getD j []=y.nm:=by rw [List.getD_eq_getElem?_getD,hnm]; rfl
  have e:((j:Int)+1)=((j+1:Nat):Int):=by omega
  have eu:u29 (.sl 5 (T.ds l)) (i:Int) (j:Int)=some (Sp.mem y.nm (xk [] [] t.kids)):=by
   unfold u29;rw [zj7 hg,v6,hd,yy,yy];simp only [Bool.and_self,qw,pm,ht,hy,v6]
  have hsl2:=ze8 (λ k=>Sp.mem ((nmL l).getD k []) (xk [] [] t.kids)) j;rw [z8a,zo,z6 hjl,cond_true,eu,v6,IntWalk.i64_in _ (by omega),e]
  rw [hgd] at hih;cases hmm:Sp.mem y.nm (xk [] [] t.kids) <;> rw [hmm] at hih
  ·exact hih
  ·rw [cond_true];rw [cond_true] at hih;generalize xn (λ k=>Sp.mem ((nmL l).getD k []) (xk [] [] t.kids)) j=us at *;have h4:nI (us++[j])=nI us++[D.int .i64 (j:Int)]:=by unfold nI; rw [List.map_append]; rfl
   have hu:(nI us).length=us.length:=by unfold nI; rw [pf]
   rw [h4,pe] at hih;rw [pa (p:=(nI us).length=(nI us).length) rfl,pa (p:=(nI us).length+[D.int .i64 (j:Int)].length≤4294967296) (by rw [hu]; simp only [List.length_cons,List.length_nil]; omega)]
   exact hih
theorem m29(l:List T)(hg:zbg l=true):zh cx 29 [.d (.sl 5 (T.ds l))] []=some (.ret (mkU (zbd l)),[]):=by
 unfold zbd;obtain ⟨h1,h2,h3⟩:=wv.1 hg;have hlb:=zit l;refine zk zys (N:=l.length+1) ?_;have e:w29 (.sl 5 (T.ds l))=some (Sp.wr l):=by
  unfold w29; rw [zj7 hg]; rfl
 rw [yf8,e,v6];cases hw:decide (Sp.wr l=0)
 ·rfl
 ·have hw0:=pc hw;obtain ⟨hd,hn⟩:=wr0 hw0;obtain ⟨N,hN⟩:∃ N,N=l.length+1:=⟨_,rfl⟩;rw [←hN,Bool.not_true,cond_false]
  have h:=zf3 (λ k j (us:List (List Nat))=>LP cx (zbq w29 u29) N 29 0 6 k [(0,V.d (D.sl 5 (T.ds l))),(5,V.sl 1 (xi us) 5),(6,V.d (D.int .i64 j))] [(5,Ob.tok (xi us).length)] (AK cx (zbq w29 u29) N 29 0 6 (EK cx 29 0)))
   l (λ a t=>a++[zf9 (nmL l) t]) (λ j us=>us.length≤j) (λ us=>some (.ret (mkU (us,0)),[])) (yh h1)
   (λ k j x us hj hx hi=>by
    have hjb:=yh h1;have hud:(xi us).length=us.length:=by unfold xi; rw [pf]
    refine ⟨?_,by simp only [pe,List.length_cons,List.length_nil]; omega⟩
    refine (yds w29 u29 N k l (xi us) j).trans ?_;rw [zo,z6 hj,cond_true,zq1];exact z6g N k l hg hd (xi us) (by omega) j x hx l.length 0 N (by omega) (by omega))
   (λ k us=>by
    refine (yds w29 u29 N k l (xi us) l.length).trans ?_;rw [zo,yj,cond_false];rfl) (s:=[]) (Nat.le_refl _) (k:=N) (by omega)
  rw [zmd,List.nil_append] at h;exact h
theorem yga(n:Nat)(l:List Nat):zl cx (CK.plain zn) n 23 [.d (.sl 1 (nI l)),.d (.sl 1 (nI l))] []=bif !decide ((↑(List.map (λ k:Nat=>D.int .i64 (↑k:Int)) l).length:Int)=(↑(List.map (λ k:Nat=>D.int .i64 (↑k:Int)) l).length:Int)) then some (Out.ret (V.d (D.bool false)),[]) else LP cx (CK.plain zn) n 23 0 4 n [(0,V.d (D.sl 1 (List.map (λ k:Nat=>D.int .i64 (↑k:Int)) l))),(1,V.d (D.sl 1 (List.map (λ k:Nat=>D.int .i64 (↑k:Int)) l))),(5,V.d (D.int .i64 (0:Int)))] [] (AK cx (CK.plain zn) n 23 0 4 (EK cx 23 0)):=by kernel_rfl
theorem ydu(n k:Nat)(l:List D)(i:Int):LP cx (CK.plain zn) n 23 0 4 (k+1) [(0,V.d (D.sl 1 l)),(1,V.d (D.sl 1 l)),(5,V.d (D.int .i64 i))] [] (AK cx (CK.plain zn) n 23 0 4 (EK cx 23 0))=bif decide (i<(↑l.length:Int)) then zb (decide (0≤i)&&decide (i<(↑l.length:Int))) (za l i.toNat λ y=>za y.cells 0 λ c=>match c with
 | D.int k' n_1=>bif decide (k'=IntKind.i64) then zb (decide (0≤i)&&decide (i<(↑l.length:Int))) (za l i.toNat λ y=>za y.cells 0 λ c=>match c with
  | D.int k' n_2=>bif decide (k'=IntKind.i64) then bif !decide (n_1=n_2) then some (Out.ret (V.d (D.bool false)),[]) else LP cx (CK.plain zn) n 23 0 4 k [(0,V.d (D.sl 1 l)),(1,V.d (D.sl 1 l)),(5,V.d (D.int .i64 (IntKind.i64.wrap (i+(1:Int)))))] [] (AK cx (CK.plain zn) n 23 0 4 (EK cx 23 0)) else none
  | x=>none) else none
 | x=>none) else some (Out.ret (V.d (D.bool true)),[]):=by kernel_rfl
theorem zo5{α:Type}:∀ (l:List α) (i:Nat),ym (λ _=>false) l i=none
 | [],_=>rfl
 | _::l,i=>zo5 l (i+1)
theorem zgt(l:List Nat):(nI l).length=l.length:=by unfold nI; rw [pf]
theorem zd1{R:Type}{l:List D}{i:Nat}{x:D}{K:D→Option R}(h:l[i]?=some x):za l i K=K x:=by
 unfold za; rw [h]
theorem m23(l:List Nat)(hl:yd l=true):zh cx 23 [.d (.sl 1 (nI l)),.d (.sl 1 (nI l))] []=some (.ret (mkB true),[]):=by
 refine zk zm (N:=l.length+1) ?_;rw [yga,pa rfl,Bool.not_true,cond_false]
 have h:=vr (λ k i=>LP cx (CK.plain zn) (l.length+1) 23 0 4 k [(0,V.d (D.sl 1 (nI l))),(1,V.d (D.sl 1 (nI l))),(5,V.d (D.int .i64 i))] [] (AK cx (CK.plain zn) (l.length+1) 23 0 4 (EK cx 23 0)))
  l (λ _=>false) (λ _=>none) (some (.ret (mkB true),[])) (yh hl)
  (λ k j x hj hx=>by
   rw [ydu,zgt,z6 hj,yy,zd0,pm,hx];show zb (true&&true) (za (nI l) (j:Int).toNat _)=_;rw [zd0,pm,hx];show (bif !decide ((x:Int)=(x:Int)) then _ else _)=_;rw [pa rfl]; rfl)
  (λ k=>by rw [ydu,zgt,yj,cond_false]; rfl) (k:=l.length+1) (Nat.lt_succ_self _)
 rw [zo5] at h;exact h
theorem cells3:Nat.beq 1 (cx.P.cellsOf 3)=true:=by kernel_rfl
theorem zj5{l:List (List Nat)}{j:Nat}{x:List Nat}(hx:l[j]?=some x):(xi l)[j]?=some (.sl 1 (nI x)):=by unfold xi; rw [List.getElem?_map,hx]; rfl
def txW:List UInt8:=[97,32,58,32,85,32,61,32,83,49,59,32,98,32,58,32,85,32,61,32,85,59,32,99,32,58,32,97,32,61,32,98,97,115,101,59]
def nmT(s:List UInt8)(a:Int):T:=.mk 1 s [] [] a
def lw:List T:=[.mk 18 [97] [nmT [85] 4,nmT [83,49] 8] [] 0,.mk 18 [98] [nmT [85] 16,nmT [85] 20] [] 12,.mk 18 [99] [nmT [97] 27,nmT [98,97,115,101] 31] [] 23]
theorem w44:vg cx 100 44 [.d (.str txW)] []=some (.ret (.tup [.d (.sl 5 (T.ds lw)),.d (.int .i64 0),.d (.int .i64 0)]),[]):=by kernel_rfl
mutual
def z2z:T→T→Bool
 | .mk k nm kids nms pl,.mk k' nm' kids' nms' pl'=>decide (k=k')&&decide (nm=nm')&&zn5 kids kids'&&decide (nms=nms')&&decide (pl=pl')
def zn5:List T→List T→Bool
 | [],[]=>true
 | a::l,b::m=>z2z a b&&zn5 l m
 | _,_=>false
end
mutual
theorem z2y:∀ {a b:T},z2z a b=true→a=b
 | .mk k nm kids nms pl,.mk k' nm' kids' nms' pl',h=>by
  simp only [z2z,ph,decide_eq_true_eq] at h;obtain ⟨⟨⟨⟨rfl,rfl⟩,h3⟩,rfl⟩,rfl⟩:=h;rw [zlo h3]
theorem zlo:∀ {a b:List T},zn5 a b=true→a=b
 | [],[],_=>rfl
 | a::l,b::m,h=>by
  simp only [zn5,ph] at h;rw [z2y h.1,zlo h.2]
 | [],b::m,h=>by cases h
 | a::l,[],h=>by cases h
end
def z3z(x:D):Option Unit:=zc (qa (zg 5) x) λ l=>zb (zn5 l lw) (some ())
theorem ziu{x:D}{u:Unit}(h:z3z x=some u):x=.sl 5 (T.ds lw):=by
 obtain ⟨l,hl,h⟩:=zd h;obtain ⟨h1,_⟩:=ze h;obtain ⟨d,rfl,h2,_⟩:=ze4 hl;rw [(zgd (λ x t h=>(y5 h).1) h2).1,zlo h1]
theorem z6n:zbg lw=true:=by kernel_rfl
theorem z5y:zbd lw=([[],[],[0]],0):=by kernel_rfl
def mkL(l:List Nat):V:=.tup [.d (.sl 1 (nI l)),.d (.int .i64 0)]
def z5v:CK R1:=zt 24 za6 z3z (λ _=>mkU ([[],[],[0]],0)) (evK 40)
theorem zhk:knows cx z5v.S (zh cx):=zj (zsg 40) λ a q b hd h hb=>by
 rw [wh h,ziu hb,m24 lw z6n,z5y]
theorem w19:zl cx z5v 10 19 [.d (.sl 5 (T.ds lw)),.d (.str [99])] []=some (.ret (mkL [0,2]),[]):=by kernel_rfl
theorem w21:zl cx z5v 10 21 [.d (.sl 5 (T.ds lw))] []=some (.ret (mkL [1,2]),[]):=by kernel_rfl
theorem w26:zl cx z5v 10 26 [.d (.sl 5 (T.ds lw))] []=some (.ret (mkL [0,1,2]),[]):=by kernel_rfl
def yde:List V→Option Unit | [.d (.str s)]=>zb (decide (s=txW)) (some ()) | _=>none
def z4w:List V→Option D | [.d x,.d (.str s)]=>zb (decide (s=[99])) (some x) | _=>none
def yef:CK R1:=zt 44 yde some (λ _=>.tup [.d (.sl 5 (T.ds lw)),.d (.int .i64 0),.d (.int .i64 0)]) (zt 19 z4w z3z (λ _=>mkL [0,2]) (zt 21 za6 z3z (λ _=>mkL [1,2]) (zt 26 za6 z3z (λ _=>mkL [0,1,2]) z5v)))
theorem zyv:knows cx yef.S (zh cx):=
 zj (zj (zj (zj zhk λ a q b hd h hb=>by
   rw [wh h,ziu hb];exact zk zhk (N:=10) w26) λ a q b hd h hb=>by
   rw [wh h,ziu hb];exact zk zhk (N:=10) w21) λ a q b hd h hb=>by
   unfold z4w at h;split at h
   ·obtain ⟨h1,h⟩:=ze h;cases h;rw [ziu hb,pc h1];exact zk zhk (N:=10) w19
   ·cases h) λ a q b hd h hb=>by
   unfold yde at h;split at h
   ·obtain ⟨h1,h⟩:=ze h;rw [pc h1];exact zh4 w44
   ·cases h
theorem w18:zl cx yef 10 18 [] []=some (.ret (mkB true),[]):=by kernel_rfl
theorem m18:zh cx 18 [] []=some (.ret (mkB true),[]):=zk zyv (N:=10) w18
def mk2(q:List D×Int):V:=.tup [.d (.sl 1 q.1),.d (.int .i64 q.2)]
def z6x:List V→Option (D×D) | [.d x,.d y]=>some (x,y) | _=>none
def z4y:List V→Option Unit | []=>some () | _=>none
def yee(b:D→Int→Option Int):CK R1:=zt 28 zcv (λ q=>b q.1 q.2) mkI (CK.plain zn)
def yeg(g:D→Option Bool):CK R1:=zt 43 za6 g mkB (CK.plain zn)
def K6n(g:D→Option Bool)(u v:D→List UInt8→Option (List D×Int))(c d:D→Option (List D×Int))(p:D→D→Option Bool)(w:Option Bool):CK R1:=
 zt 17 za6 g mkB (zt 19 zdw (λ q=>u q.1 q.2) mk2 (zt 20 zdw (λ q=>v q.1 q.2) mk2 (zt 21 za6 c mk2 (zt 22 za6 d mk2 (zt 23 z6x (λ x=>p x.1 x.2) mkB (zt 18 z4y (λ _=>w) mkB (CK.plain zn)))))))
theorem yf6(b:D→Int→Option Int)(n:Nat)(l:List T):zl cx (yee b) n 43 [.d (.sl 5 (T.ds l))] []=zc (b (D.agg [D.int .i64 (0:Int),D.str [],D.sl 5 (T.ds l),D.sl 1 [],D.int .i64 (0:Int)],(400:Int)).fst (D.agg [D.int .i64 (0:Int),D.str [],D.sl 5 (T.ds l),D.sl 1 [],D.int .i64 (0:Int)],(400:Int)).snd) λ b=>some (Out.ret (V.d (D.bool (decide ((400:Int)<b)))),[]):=by kernel_rfl
theorem ygf(g:D→Option Bool)(n:Nat)(l:List T):zl cx (yeg g) n 17 [.d (.sl 5 (T.ds l))] []=bif decide ((40:Int)<(↑(T.ds l).length:Int)) then some (Out.ret (V.d (D.bool true)),[]) else zc (g (D.sl 5 (T.ds l))) λ b=>some (Out.ret (V.d (D.bool b)),[]):=by kernel_rfl
def zsu(x:D):Option (List T):=zc (qa Sp.toC x) λ l=>zb (T.oks l) (some l)
theorem zsz{x:D}{l:List T}(h:zsu x=some l):x=.sl 5 (T.ds l)∧yd l=true∧T.oks l=true:=by
 obtain ⟨m,hm,h⟩:=zd h;obtain ⟨h1,h⟩:=ze h;cases h;obtain ⟨d,rfl,h2,h3⟩:=ze4 hm;exact ⟨by rw [(zgd (λ x t h=>(xz h).1) h2).1],h3,h1⟩
theorem z2m{l:List T}(h1:yd l=true)(h2:T.oks l=true):zsu (.sl 5 (T.ds l))=some l:=by
 unfold zsu;rw [znx (λ t ht=>zhl (wn h2 ht)) h1];show zb (T.oks l) _=_;rw [h2]; rfl
def zwm(l:List T):T:=.mk 0 [] l [] 0
theorem z63{l:List T}(h1:yd l=true)(h2:T.oks l=true):(zwm l).ok=true:=by
 unfold zwm; simp only [T.ok,h1,h2]; rfl
def zex(l:List T):Bool:=decide ((40:Int)<(l.length:Int))||decide ((400:Int)<Sp.blk (zwm l) 400)
def b28(x:D)(a:Int):Option Int:=zc (Sp.toC x) λ t=>zb (decide (0≤a)&&decide (a≤1048576)) (some (Sp.blk t a))
theorem z4q{a:List V}{q}(h:zcv a=some q):a=[.d q.1,.d (.int .i64 q.2)]:=zaf h
theorem z1q{a:List V}{q:D×Int}{b:Int}(h:zcv a=some q)(hb:b28 q.1 q.2=some b):zh cx 28 a []=some (.ret (mkI b),[]):=by
 obtain ⟨t,ht,hb⟩:=zd hb;obtain ⟨h1,hb⟩:=ze hb;cases hb;rw [ph] at h1;obtain ⟨h0,hg⟩:=xz ht;rw [z4q h,h0];exact z7z t.depth t q.2 (Nat.le_refl _) hg (pc h1.1) (pc h1.2)
def g43(x:D):Option Bool:=zc (zsu x) λ l=>some (decide ((400:Int)<Sp.blk (zwm l) 400))
theorem m43(l:List T)(h1:yd l=true)(h2:T.oks l=true):zh cx 43 [.d (.sl 5 (T.ds l))] []=some (.ret (mkB (decide ((400:Int)<Sp.blk (zwm l) 400))),[]):=by
 have hk:knows cx (yee b28).S (zh cx):=zj zm λ a q b hd h hb=>z1q h hb;refine zk hk (N:=0) ?_;rw [yf6];show zc (b28 (zwm l).d 400) _=_;unfold b28;rw [zhl (z63 h1 h2)];rfl
theorem m17(l:List T)(h1:yd l=true)(h2:T.oks l=true):zh cx 17 [.d (.sl 5 (T.ds l))] []=some (.ret (mkB (zex l)),[]):=by
 have hk:knows cx (yeg g43).S (zh cx):=zj zm λ a q b hd h hb=>by
  obtain ⟨m,hm,hb⟩:=zd hb;cases hb;obtain ⟨h0,h1,h2⟩:=zsz hm;rw [wh h,h0];exact m43 m h1 h2
 refine zk hk (N:=0) ?_;have e:g43 (.sl 5 (T.ds l))=some (decide ((400:Int)<Sp.blk (zwm l) 400)):=by unfold g43; rw [z2m h1 h2]; rfl
 rw [ygf,zo,e];unfold zex;cases decide ((40:Int)<(l.length:Int)) <;> rfl
def g17(x:D):Option Bool:=zc (zsu x) λ l=>some (zex l)
theorem z03{a:List V}{x:D}{b:Bool}(h:za6 a=some x)(hb:g17 x=some b):zh cx 17 a []=some (.ret (mkB b),[]):=by
 obtain ⟨m,hm,hb⟩:=zd hb;cases hb;obtain ⟨h0,h1,h2⟩:=zsz hm;rw [wh h,h0];exact m17 m h1 h2
theorem z97{l:List T}(h1:yd l=true)(h2:T.oks l=true):g17 (.sl 5 (T.ds l))=some (zex l):=by unfold g17; rw [z2m h1 h2]; rfl
theorem yae{t:T}(h : ¬ (400:Int)<Sp.blk t 400):yt t≤400:=by
 obtain ⟨_,_,h3⟩:=zp1 t 400 (by omega)
 have:=h3 (by omega)
 omega
theorem zxm{l:List T}(h1:yd l=true)(h2:T.oks l=true)(h:zex l=false):zbg l=true∧l.length≤40∧Sp.bulks l≤400:=by
 unfold zex at h;rw [Bool.or_eq_false_iff] at h;have ha:=of_decide_eq_false h.1;have hb:=yae (of_decide_eq_false h.2);simp only [zwm,yt] at hb;exact ⟨wv.2 ⟨h1,h2,by omega⟩,by omega,by omega⟩
def u24(x:D):Option (List D×Int):=zc (zht x) λ l=>some (xi (zbd l).1,(zbd l).2)
theorem zsy{l:List T}(h:zbg l=true):u24 (.sl 5 (T.ds l))=some (xi (zbd l).1,(zbd l).2):=by unfold u24; rw [zj7 h]; rfl
theorem zq2{a:List V}{x:D}{b}(h:za6 a=some x)(hb:u24 x=some b):zh cx 24 a []=some (.ret (mk2 b),[]):=by
 obtain ⟨m,hm,hb⟩:=zd hb;cases hb;obtain ⟨h0,h1⟩:=zdd hm;rw [wh h,h0];exact m24 m h1
theorem zz9{a:List V}{x:D}{b}(h:za6 a=some x)(hb:u24 x=some b):zh cx 29 a []=some (.ret (mk2 b),[]):=by
 obtain ⟨m,hm,hb⟩:=zd hb;cases hb;obtain ⟨h0,h1⟩:=zdd hm;rw [wh h,h0];exact m29 m h1
open Classical in
def p23(x y:D):Option Bool:=if (∃ us,x=.sl 1 (nI us)∧y=x∧yd us=true) then some true else none
theorem z1d{a:List V}{q}(h:z6x a=some q):a=[.d q.1,.d q.2]:=by
 unfold z6x at h; split at h <;> cases h; rfl
theorem z0n{a:List V}{q:D×D}{b:Bool}(h:z6x a=some q)(hb:p23 q.1 q.2=some b):zh cx 23 a []=some (.ret (mkB b),[]):=by
 unfold p23 at hb;split at hb
 ·rename_i he;cases hb;obtain ⟨us,h1,h2,h3⟩:=he;rw [z1d h,h2,h1];exact m23 us h3
 ·cases hb
theorem z3c{us:List Nat}(h1:yd us=true):p23 (.sl 1 (nI us)) (.sl 1 (nI us))=some true:=by
 unfold p23; rw [if_pos ⟨us,rfl,rfl,h1⟩]
theorem zz7{a:List V}{q:Unit}{b:Bool}(h:z4y a=some q)(hb:(some true:Option Bool)=some b):zh cx 18 a []=some (.ret (mkB b),[]):=by
 cases hb;unfold z4y at h; split at h <;> cases h;exact m18
def psT(s:List UInt8):St:=[(0,.val 1 (.d (.str s)))]
def pdT:St→Option (List UInt8) | [(0,.val 1 (.d (.str s)))]=>some s | _=>none
def zhs(a:List V)(σ:St):Option (D×List UInt8):=match a with | [.d x,.ptr 0 0]=>zc (pdT σ) λ s=>some (x,s) | _=>none
def z4u(a:List V)(σ:St):Option (D×List UInt8):=match a with | [.d x,.func 46 [.ptr 0 0]]=>zc (pdT σ) λ s=>some (x,s) | _=>none
def txK{β:Type}(f:Nat)(dec:List V→St→Option (D×List UInt8))(p:D→List UInt8→Option β)(mk:β→V)(S:CK R1):CK R1:=
 more f dec (λ K q=>zc (p q.1 q.2) λ b=>K (.ret (mk b)) (psT q.2)) (λ K q=>by
   simp only;rw [vx];rfl) S
def psI(L:List D):St:=[(0,.val 1 (.slo 1 1 L.length)),(1,.row L)]
def pdI:St→Option (List D×Nat) | [(0,.val 1 (.slo 1 1 n)),(1,.row L)]=>some (L,n) | _=>none
def z4t(a:List V)(σ:St):Option (Int×(List D×Nat)):=match a with | [.d (.int .i64 i),.ptr 0 0]=>zc (pdI σ) λ q=>some (i,q) | _=>none
def yed(ad:Int→List D→Option (List D))(S:CK R1):CK R1:=more 47 z4t (λ K q=>zc (ad q.1 q.2.1) λ L'=>zb (Nat.beq q.2.2 q.2.1.length) (K (.ret (.tup [])) (psI L')))
  (λ K q=>by
   simp only;rw [vx];congr 1;funext s;simp only [zb,wt];rfl) S
def z4s(a:List V)(σ:St):Option (Int×(List D×Nat)):=match a,σ with | [.slo 0 1 n,.d (.int .i64 i)],[(0,.row l)]=>some (i,(l,n)) | _,_=>none
def z7a{β:Type}(f:Nat)(c:Int→List D→Option β)(mk:β→V)(S:CK R1):CK R1:=more f z4s (λ K q=>zc (c q.1 q.2.1) λ b=>zb (Nat.beq q.2.2 q.2.1.length) (K (.ret (mk b)) [(0,.row q.2.1)]))
  (λ K q=>by
   simp only;rw [vx];congr 1;funext s;simp only [zb,wt];rfl) S
def zdr(u:D→Option (List D×Int))(ix:D→List UInt8→Option Int)(ad:Int→List D→Option (List D))(s:List D→Option (List D)):CK R1:=
 zt 24 za6 u mk2 (txK 45 z4u ix mkI (yed ad (yax s (CK.plain zn))))
theorem yf3(c:Int→List D→Option Int)(n:Nat)(l:List D)(i:Int):zl cx (z7a 84 c mkI (CK.plain zn)) n 48 [.slo 0 1 l.length,.d (.int .i64 i)] [(0,.row l)]=zc (c (i,l,l.length).fst (i,l,l.length).snd.fst) λ b=>zb ((i,l,l.length).snd.snd.beq (i,l,l.length).snd.fst.length) (some (Out.ret (V.d (D.bool (decide ((0:Int)≤b)))),[(0,Ob.row l)])):=by kernel_rfl
theorem yf4(c:Int→List D→Option Bool)(n:Nat)(l:List D)(i:Int):zl cx (z7a 48 c mkB (CK.plain zn)) n 47 [.d (.int .i64 i),.ptr 0 0] (psI l)=zc (c (i,l,l.length).fst (i,l,l.length).snd.fst) λ b=>zb ((i,l,l.length).snd.snd.beq (i,l,l.length).snd.fst.length) (bif !b then zb (l.length.beq l.length&&decide (l.length+[D.int .i64 i].length≤4294967296)) (some (Out.ret (V.tup []),[(0,Ob.val 1 (V.slo 1 1 (l.length+[D.int .i64 i].length))),(1,Ob.row (l++[D.int .i64 i]))])) else some (Out.ret (V.tup []),[(0,Ob.val 1 (V.slo 1 1 l.length)),(1,Ob.row l)])):=by kernel_rfl
theorem zpm{a:List V}{σ:St}{i:Int}{l:List D}{n:Nat}(h:z4s a σ=some (i,(l,n))):a=[.slo 0 1 n,.d (.int .i64 i)]∧σ=[(0,.row l)]:=by
 unfold z4s at h;split at h
 ·cases h; exact ⟨rfl,rfl⟩
 ·cases h
def zh1:List D→Option (List Nat)
 | []=>some []
 | .int .i64 n::r=>zc (zh1 r) λ l=>zb (decide (0≤n)) (some (n.toNat::l))
 | _=>none
theorem zc2:∀ {l:List D} {r:List Nat},zh1 l=some r→l=nI r
 | [],r,h=>by cases h; rfl
 | .int .i64 n::l,r,h=>by
  obtain ⟨q,hq,h⟩:=zd h;obtain ⟨h1,h⟩:=ze h;cases h;rw [zc2 hq];have:=pc h1;show D.int .i64 n::nI q=D.int .i64 ((n.toNat:Nat):Int)::nI q;rw [Int.toNat_of_nonneg this]
theorem zf0:∀ us:List Nat,zh1 (nI us)=some us
 | []=>rfl
 | u::us=>by
  show zc (zh1 (nI us)) _=_;rw [zf0 us];show zb (decide ((0:Int)≤(u:Int))) _=_;rw [pa (by omega)]; rfl
def c84(a:Int)(L:List D):Option Int:=zc (zh1 L) λ l=>zb (yd l) (some (y8 (λ x:Nat=>decide (a=(x:Int))) l))
theorem m48(l:List Nat)(a:Int)(hl:yd l=true):zh cx 48 [.slo 0 1 (nI l).length,.d (.int .i64 a)] [(0,.row (nI l))]=some (.ret (mkB (vu a l)),[(0,.row (nI l))]):=by
 have hk:knows cx (z7a 84 c84 mkI (CK.plain zn)).S (zh cx):=we zm λ b σ q r hd h=>by
  obtain ⟨i,L,n⟩:=q;obtain ⟨x,hx,h⟩:=zd h;obtain ⟨hn,h⟩:=ze h;cases h;obtain ⟨rfl,rfl⟩:=zpm hd;obtain ⟨m,hm,hx⟩:=zd hx;obtain ⟨h1,hx⟩:=ze hx;cases hx;have hn:n=L.length:=pg hn;have e:L=nI m:=zc2 hm;subst e;subst hn;have:=ye2 m i h1;rw [show (nI m).length=m.length from by unfold nI; rw [pf]]
  exact this
 refine zk hk (N:=0) ?_;rw [yf3];show zc (c84 a (nI l)) _=_;unfold c84;rw [zf0];show zc (zb (yd l) _) _=_;rw [hl];show zb (Nat.beq (nI l).length (nI l).length) (some (Out.ret (mkB (decide ((0:Int)≤y8 (λ x:Nat=>decide (a=(x:Int))) l))),_))=_;rw [Nat.beq_refl,zgy];have:(l.any λ x:Nat=>decide (a=(x:Int)))=vu a l:=by
  unfold vu;congr 1;funext x;by_cases h:a=(x:Int)
  ·rw [pa h,pa h.symm]
  ·rw [pb h,pb (λ e=>h e.symm)]
 rw [this];rfl
def c48(a:Int)(L:List D):Option Bool:=zc (zh1 L) λ l=>zb (yd l) (some (vu a l))
theorem m47(l:List Nat)(i:Nat)(hl:l.length+1<4294967296):zh cx 47 [.d (.int .i64 i),.ptr 0 0] (psI (nI l))=some (.ret (.tup []),psI (nI (Sp.addN l i))):=by
 have hk:knows cx (z7a 48 c48 mkB (CK.plain zn)).S (zh cx):=we zm λ b σ q r hd h=>by
  obtain ⟨i,L,n⟩:=q;obtain ⟨x,hx,h⟩:=zd h;obtain ⟨hn,h⟩:=ze h;cases h;obtain ⟨rfl,rfl⟩:=zpm hd;obtain ⟨m,hm,hx⟩:=zd hx;obtain ⟨h1,hx⟩:=ze hx;cases hx;have hn:n=L.length:=pg hn;have e:L=nI m:=zc2 hm;subst e;subst hn;exact m48 m i h1
 refine zk hk (N:=0) ?_;rw [yf4];have hs:yd l=true:=pa (by omega)
 have e:c48 i (nI l)=some (vu i l):=by
  unfold c48;rw [zf0];show zb (yd l) _=_;rw [hs]; rfl
 have hu:(nI l).length=l.length:=by unfold nI; rw [pf]
 show zc (c48 i (nI l)) _=_;rw [e];unfold Sp.addN;cases hm:vu (i:Int) l
 ·have : ¬ i∈l:=λ h=>by rw [zkw.2 h] at hm; cases hm
  rw [if_neg this];show zb (Nat.beq (nI l).length (nI l).length) (zb (Nat.beq (nI l).length (nI l).length&&decide ((nI l).length+[D.int .i64 (i:Int)].length≤4294967296)) _)=_;rw [Nat.beq_refl,pa (p:=(nI l).length+[D.int .i64 (i:Int)].length≤4294967296) (by rw [hu]; simp only [List.length_cons,List.length_nil]; omega)]
  have h4:nI (l++[i])=nI l++[D.int .i64 (i:Int)]:=by unfold nI; rw [List.map_append]; rfl
  unfold psI;rw [h4,pe];rfl
 ·rw [if_pos (zkw.1 hm)];show zb (Nat.beq (nI l).length (nI l).length) _=_;rw [Nat.beq_refl];rfl
def yg(v:D→Option (List D×Int))(h:D→Int→Option Bool):CK R1:=
 zt 29 za6 v mk2 (zt 50 zcv (λ q=>h q.1 q.2) mkB (CK.plain zn))
def zax(v:D→Option (List D×Int))(h:D→Int→Option Bool):CK R1:=
 zt 24 za6 v mk2 (zt 48 zcv (λ q=>h q.1 q.2) mkB (CK.plain zn))
theorem yd5(n:Nat)(k:Int)(nm:List UInt8)(kids:List T)(nms:List (List UInt8))(pl:Int)(s:List UInt8):zl cx (CK.plain zn) n 46 [.d (T.mk k nm kids nms pl).d,.ptr 0 0] (psT s)=some (Out.ret (V.d (D.bool (decide (nm=s)))),[(0,Ob.val 1 (V.d (D.str s)))]):=by kernel_rfl
theorem yf5(p:D→List UInt8→Option Bool)(n:Nat)(l:List T)(s:List UInt8):zl cx (txK 46 zhs p mkB (CK.plain zn)) n 45 [.d (.sl 5 (T.ds l)),.func 46 [.ptr 0 0]] (psT s)=LP cx (txK 46 zhs p mkB (CK.plain zn)) n 45 1 2 n [(0,V.d (D.sl 5 (T.ds l))),(1,V.func 46 [V.ptr 0 0]),(7,V.d (D.int .i64 (↑(T.ds l).length:Int))),(8,V.d (D.int .i64 (0:Int)))] [(0,Ob.val 1 (V.d (D.str s)))] (AK cx (txK 46 zhs p mkB (CK.plain zn)) n 45 1 2 (EK cx 45 1)):=by kernel_rfl
theorem ydr(p:D→List UInt8→Option Bool)(n k:Nat)(l:List T)(s:List UInt8)(i:Int):LP cx (txK 46 zhs p mkB (CK.plain zn)) n 45 1 2 (k+1) [(0,V.d (D.sl 5 (T.ds l))),(1,V.func 46 [V.ptr 0 0]),(7,V.d (D.int .i64 (l.length:Int))),(8,V.d (D.int .i64 i))] [(0,Ob.val 1 (V.d (D.str s)))] (AK cx (txK 46 zhs p mkB (CK.plain zn)) n 45 1 2 (EK cx 45 1))=bif decide (i<(↑l.length:Int)) then zb (decide (0≤i)&&decide (i<(↑(T.ds l).length:Int))) (za (T.ds l) i.toNat λ y=>za y.cells 0 λ c=>za y.cells 1 λ c_1=>za y.cells 2 λ c_2=>za y.cells 3 λ c_3=>za y.cells 4 λ c_4=>zc (p (D.agg [c,c_1,c_2,c_3,c_4],s).fst (D.agg [c,c_1,c_2,c_3,c_4],s).snd) λ b=>bif b then some (Out.ret (V.d (D.int .i64 i)),[(0,Ob.val 1 (V.d (D.str s)))]) else LP cx (txK 46 zhs p mkB (CK.plain zn)) n 45 1 2 k [(0,V.d (D.sl 5 (T.ds l))),(1,V.func 46 [V.ptr 0 0]),(7,V.d (D.int .i64 (↑l.length:Int))),(8,V.d (D.int .i64 (IntKind.i64.wrap (i+(1:Int)))))] [(0,Ob.val 1 (V.d (D.str s)))] (AK cx (txK 46 zhs p mkB (CK.plain zn)) n 45 1 2 (EK cx 45 1))) else some (Out.ret (V.d (D.int .i64 (Int.negSucc 0))),[(0,Ob.val 1 (V.d (D.str s)))]):=by kernel_rfl
theorem zu0{σ:St}{s:List UInt8}(h:pdT σ=some s):σ=psT s:=by
 unfold pdT at h;split at h <;> cases h;rfl
theorem zx8{a:List V}{σ:St}{q:D×List UInt8}(h:zhs a σ=some q):a=[.d q.1,.ptr 0 0]∧σ=psT q.2:=by
 unfold zhs at h;split at h
 ·obtain ⟨s,hs,h⟩:=zd h;cases h;exact ⟨rfl,zu0 hs⟩
 ·cases h
theorem zx9{a:List V}{σ:St}{q:D×List UInt8}(h:z4u a σ=some q):a=[.d q.1,.func 46 [.ptr 0 0]]∧σ=psT q.2:=by
 unfold z4u at h;split at h
 ·obtain ⟨s,hs,h⟩:=zd h;cases h;exact ⟨rfl,zu0 hs⟩
 ·cases h
theorem zq5{β:Type}{f:Nat}{dec:List V→St→Option (D×List UInt8)}{p:D→List UInt8→Option β}{mk:β→V}{S:CK R1}(hS:knows cx S.S (zh cx))
  (hf:∀ a σ q b,dec a σ=some q→p q.1 q.2=some b→zh cx f a σ=some (.ret (mk b),psT q.2)):knows cx (txK f dec p mk S).S (zh cx):=we hS λ a σ q r hd h=>by
 obtain ⟨b,hb,h⟩:=zd h;cases h;exact hf a σ q b hd hb
theorem m46(t:T)(s:List UInt8):zh cx 46 [.d t.d,.ptr 0 0] (psT s)=some (.ret (mkB (decide (t.nm=s))),psT s):=by
 obtain ⟨k,nm,kids,nms,pl⟩:=t;exact zk zm (N:=0) (yd5 0 k nm kids nms pl s)
def p46(x:D)(s:List UInt8):Option Bool:=zc (Sp.toC x) λ t=>some (decide (t.nm=s))
theorem m45(l:List T)(s:List UInt8)(hl:yd l=true)(ho:T.oks l=true):zh cx 45 [.d (.sl 5 (T.ds l)),.func 46 [.ptr 0 0]] (psT s)=some (.ret (mkI (y8 (λ t:T=>decide (t.nm=s)) l)),psT s):=by
 have hk:knows cx (txK 46 zhs p46 mkB (CK.plain zn)).S (zh cx):=zq5 zm λ a σ q b hd hb=>by
  obtain ⟨rfl,rfl⟩:=zx8 hd;obtain ⟨t,ht,hb⟩:=zd hb;cases hb;rw [(xz ht).1];exact m46 t q.2
 refine zk hk (N:=l.length+1) ?_;rw [yf5,zo]
 have h:=vr (λ k i=>LP cx (txK 46 zhs p46 mkB (CK.plain zn)) (l.length+1) 45 1 2 k [(0,V.d (D.sl 5 (T.ds l))),(1,V.func 46 [V.ptr 0 0]),(7,V.d (D.int .i64 (l.length:Int))),(8,V.d (D.int .i64 i))] [(0,Ob.val 1 (V.d (D.str s)))] (AK cx (txK 46 zhs p46 mkB (CK.plain zn)) (l.length+1) 45 1 2 (EK cx 45 1)))
  l (λ t=>decide (t.nm=s)) (λ j=>some (Out.ret (V.d (D.int .i64 j)),psT s)) (some (Out.ret (V.d (D.int .i64 (Int.negSucc 0))),psT s)) (yh hl)
  (λ k j x hj hx=>by
   have e:p46 x.d s=some (decide (x.nm=s)):=by unfold p46; rw [zhl (wn ho (po hx))]; rfl
   refine (ydr p46 (l.length+1) k l s j).trans ?_;simp only [z6 hj,zo,yy,Bool.and_self,qw,cond_true,zz,pm,hx,v6,yb,xo,wz,vc,vb,va,wj,e];rfl)
  (λ k=>by rw [ydr,yj,cond_false]; rfl) (k:=l.length+1) (Nat.lt_succ_self _)
 refine h.trans ?_;unfold y8;cases ym (λ t:T=>decide (t.nm=s)) l 0 <;> rfl
def Sp.look1(U:List (List Nat))(i k:Nat)(q:List Bool×Bool):List Bool×Bool:=
 bif q.1.getD i false&&decide (k∈Sp.row U i)&&!q.1.getD k false then (q.1.set k true,true) else q
def qd(U:List (List Nat))(i:Nat):Nat→Nat→List Bool×Bool→List Bool×Bool
 | 0,_,q=>q
 | d+1,k,q=>qd U i d (k+1) (Sp.look1 U i k q)
def zan(U:List (List Nat))(n:Nat):Nat→Nat→List Bool×Bool→List Bool×Bool
 | 0,_,q=>q
 | d+1,i,q=>zan U n d (i+1) (qd U i n 0 q)
def zbj(l:List Bool):Nat:=(l.filter id).length
structure Behind (U:List (List Nat)) (s:Nat) (q r:List Bool×Bool):Prop where
 len:r.1.length=q.1.length
 up:∀ k,q.1.getD k false=true→r.1.getD k false=true
 reach:(∀ k,q.1.getD k false=true→Reach U s k)→∀ k,r.1.getD k false=true→Reach U s k
 more:q.2=true→r.2=true
 same:r.2=false→r=q
theorem Behind.refl(U:List (List Nat))(s:Nat)(q:List Bool×Bool):Behind U s q q:=⟨rfl,λ _ h=>h,λ h=>h,λ h=>h,λ _=>rfl⟩
theorem Behind.trans{U:List (List Nat)}{s:Nat}{p q r:List Bool×Bool}(h:Behind U s p q)(g:Behind U s q r):Behind U s p r:=
 ⟨g.len.trans h.len,λ k hk=>g.up k (h.up k hk),λ hp=>g.reach (h.reach hp),λ hp=>g.more (h.more hp),λ hr=>by
  have e:=g.same hr;rw [e] at hr ⊢;exact h.same hr⟩
theorem z35{l:List Bool}{k j:Nat}:(l.set k true).getD j false=true→j=k∨l.getD j false=true:=by
 intro h;rw [List.getD_eq_getElem?_getD,List.getElem?_set] at h;by_cases e:k=j
 ·exact .inl e.symm
 ·rw [if_neg e] at h;right;rw [List.getD_eq_getElem?_getD]; exact h
theorem zgu(U:List (List Nat))(s i k:Nat)(q:List Bool×Bool):Behind U s q (Sp.look1 U i k q):=by
 unfold Sp.look1;cases hc:q.1.getD i false&&decide (k∈Sp.row U i)&&!q.1.getD k false
 ·exact Behind.refl U s q
 ·rw [ph,ph] at hc;refine ⟨by simp,λ j hj=>?_,λ hr j hj=>?_,λ _=>rfl,λ h=>by cases h⟩
  ·show (q.1.set k true).getD j false=true
   rw [List.getD_eq_getElem?_getD,List.getElem?_set];rw [List.getD_eq_getElem?_getD] at hj;by_cases e:k=j
   ·subst e;rw [if_pos rfl];cases hq:q.1[k]? with
    | none=>rw [hq] at hj; cases hj
    | some b=>
     have:=(pj.1 hq).1;rw [if_pos this]; rfl
   ·rw [if_neg e]; exact hj
  ·rcases z35 hj with e | h
   ·subst e;exact .step (hr i hc.1.1) (pc hc.1.2)
   ·exact hr j h
theorem zck(U:List (List Nat))(s i:Nat):∀ (d k:Nat) (q:List Bool×Bool),Behind U s q (qd U i d k q)
 | 0,_,q=>Behind.refl U s q
 | d+1,k,q=>(zgu U s i k q).trans (zck U s i d (k+1) _)
theorem zd5(U:List (List Nat))(s n:Nat):∀ (d i:Nat) (q:List Bool×Bool),Behind U s q (zan U n d i q)
 | 0,_,q=>Behind.refl U s q
 | d+1,i,q=>(zck U s i n 0 q).trans (zd5 U s n d (i+1) _)
theorem zkx{U:List (List Nat)}{i:Nat}:∀ {d k:Nat} {q:List Bool×Bool},(qd U i d k q).2=false→q.1.getD i false=true→∀ j,k≤j→j<k+d→j∈Sp.row U i→q.1.getD j false=true
 | 0,k,q,_,_,j,h1,h2,_=>by omega
 | d+1,k,q,h,hi,j,h1,h2,hj=>by
  have e2:=(zck U 0 i d (k+1) (Sp.look1 U i k q)).same h;have h3:(Sp.look1 U i k q).2=false:=by
   have:qd U i (d+1) k q=qd U i d (k+1) (Sp.look1 U i k q):=rfl;rw [this,e2] at h;exact h
  have e1:=(zgu U 0 i k q).same h3;have h':(qd U i d (k+1) q).2=false:=by
   have:qd U i (d+1) k q=qd U i d (k+1) (Sp.look1 U i k q):=rfl;rw [this,e1] at h;exact h
  by_cases hjk:j=k
  ·subst hjk;cases hq:q.1.getD j false
   ·exfalso;unfold Sp.look1 at h3;rw [hi,pa hj,hq] at h3;simp at h3
   ·rfl
  ·exact zkx h' hi j (by omega) (by omega) hj
theorem zky{U:List (List Nat)}{n:Nat}:∀ {d i:Nat} {q:List Bool×Bool},(zan U n d i q).2=false→∀ i',i≤i'→i'<i+d→q.1.getD i' false=true→∀ j,j<n→j∈Sp.row U i'→q.1.getD j false=true
 | 0,i,q,_,i',h1,h2,_=>by omega
 | d+1,i,q,h,i',h1,h2,hi=>by
  intro j hj hm;have e0:zan U n (d+1) i q=zan U n d (i+1) (qd U i n 0 q):=rfl;rw [e0] at h;have e2:=(zd5 U 0 n d (i+1) (qd U i n 0 q)).same h;have h3:(qd U i n 0 q).2=false:=by rw [e2] at h; exact h
  have e1:=(zck U 0 i n 0 q).same h3;by_cases hii:i'=i
  ·subst hii;exact zkx h3 hi j (Nat.zero_le _) (by omega) hm
  ·rw [e1] at h;exact zky h i' (by omega) (by omega) hi j hj hm
theorem z8p(l:List Bool):zbj l≤l.length:=List.length_filter_le _ _
theorem zyy:∀ {l:List Bool} {k:Nat},k<l.length→l.getD k false=false→zbj (l.set k true)=zbj l+1
 | [],k,h,_=>by cases h
 | b::l,0,_,hb=>by
  have:b=false:=hb;subst this;rfl
 | b::l,k+1,h,hb=>by
  have h1:zbj (l.set k true)=zbj l+1:=zyy (by simpa using h) (by simpa using hb)
  unfold zbj at h1 ⊢;cases b
  ·simpa using h1
  ·simpa using h1
structure Grows (q r:List Bool×Bool):Prop where
 len:r.1.length=q.1.length
 le:zbj q.1≤zbj r.1
 lt:q.2=false→r.2=true→zbj q.1<zbj r.1
 up:q.2=true→r.2=true
theorem Grows.refl(q:List Bool×Bool):Grows q q:=⟨rfl,Nat.le_refl _,λ h h'=>(by rw [h] at h'; cases h'),λ h=>h⟩
theorem Grows.trans{p q r:List Bool×Bool}(h:Grows p q)(g:Grows q r):Grows p r:=by
 refine ⟨g.len.trans h.len,Nat.le_trans h.le g.le,λ hp hr=>?_,λ hp=>g.up (h.up hp)⟩;cases hq:q.2
 ·have:=g.lt hq hr; have:=h.le; omega
 ·have:=h.lt hp hq; have:=g.le; omega
theorem zu9(U:List (List Nat))(i k:Nat)(q:List Bool×Bool)(hk:k<q.1.length):Grows q (Sp.look1 U i k q):=by
 unfold Sp.look1;cases hc:q.1.getD i false&&decide (k∈Sp.row U i)&&!q.1.getD k false
 ·exact Grows.refl q
 ·rw [ph,ph] at hc;have hk2:q.1.getD k false=false:=by simpa using hc.2
  have:=zyy hk hk2;exact ⟨by simp,by show zbj q.1≤zbj (q.1.set k true); omega,λ _ _=>by show zbj q.1<zbj (q.1.set k true); omega,λ _=>rfl⟩
theorem zmx(U:List (List Nat))(i:Nat):∀ (d k:Nat) (q:List Bool×Bool),k+d≤q.1.length→Grows q (qd U i d k q)
 | 0,_,q,_=>Grows.refl q
 | d+1,k,q,h=>by
  have h1:=zu9 U i k q (by omega)
  exact h1.trans (zmx U i d (k+1) _ (by rw [h1.len]; omega))
theorem zmy(U:List (List Nat))(n:Nat):∀ (d i:Nat) (q:List Bool×Bool),n≤q.1.length→Grows q (zan U n d i q)
 | 0,_,q,_=>Grows.refl q
 | d+1,i,q,h=>by
  have h1:=zmx U i n 0 q (by omega)
  exact h1.trans (zmy U n d (i+1) _ (by rw [h1.len]; exact h))
def zga(U:List (List Nat))(n:Nat):Nat→List Bool→Option (List Bool)
 | 0,_=>none
 | f+1,b=>bif (zan U n n 0 (b,false)).2 then zga U n f (zan U n n 0 (b,false)).1 else some (zan U n n 0 (b,false)).1
theorem zob{U:List (List Nat)}(hU:zik U){s:Nat}:∀ (f:Nat) (b:List Bool),b.length=U.length→U.length<f+zbj b→(∀ k,b.getD k false=true→Reach U s k)→b.getD s false=true →
  ∃ r,zga U U.length f b=some r∧r.length=U.length∧∀ k,r.getD k false=true↔Reach U s k
 | 0,b,hl,hf,_,_=>by have:=z8p b; omega
 | f+1,b,hl,hf,hr,hs=>by
  have hg:=zmy U U.length U.length 0 (b,false) (by show U.length≤b.length; omega)
  have hb:=zd5 U s U.length U.length 0 (b,false);unfold zga;cases hq:(zan U U.length U.length 0 (b,false)).2
  ·refine ⟨_,rfl,hg.len.trans hl,λ k=>?_⟩;have e:=hb.same hq;rw [e];refine ⟨hr k,λ h=>?_⟩
   induction h with
   | here=>exact hs
   | step hj hk ih=>
    rename_i j k;have hlt:j<U.length:=by
     by_cases hj2:j<b.length
     ·omega
     ·have:b.getD j false=false:=by rw [List.getD_eq_getElem?_getD,List.getElem?_eq_none (by omega)]; rfl
      rw [this] at ih; cases ih
    exact zky hq j (Nat.zero_le _) (by omega) ih k (hU.row hk) hk
  ·have hlt:zbj b<_:=hg.lt rfl hq;simp only [cond_true];exact zob hU f _ (hg.len.trans hl) (by omega) (hb.reach hr) (hb.up s hs)
theorem ygd(v:D→Option (List D×Int))(h:D→Int→Option Bool)(n:Nat)(l:List T)(nm:List UInt8):zl cx (yg v h) n 20 [.d (.sl 5 (T.ds l)),.d (.str nm)] []=zc (v (D.sl 5 (T.ds l))) λ b=>bif !decide (b.snd=(0:Int)) then some (Out.ret (V.tup [V.d (D.sl 1 []),V.d (D.int .i64 b.snd)]),[]) else zb (decide ((↑(T.ds l).length:Int)≤(↑(T.ds l).length:Int))&&decide ((↑(T.ds l).length:Int)≤4294967296)&&true&&true&&true) (LP cx (yg v h) n 20 0 7 n [(0,V.d (D.sl 5 (T.ds l))),(1,V.d (D.str nm)),(6,V.d (D.sl 1 b.1)),(8,V.slo 26 1 (↑(T.ds l).length:Int).toNat),(9,V.d (D.bool false)),(10,V.d (D.int .i64 (0:Int)))] [(26,Ob.row (List.replicate (↑(T.ds l).length:Int).toNat (vk cx.P 4 [D.bool false])))] (AK cx (yg v h) n 20 0 7 (EK cx 20 0))):=by kernel_rfl
theorem z8i(v:D→Option (List D×Int))(h:D→Int→Option Bool)(n k:Nat)(l:List T)(nm:List UInt8)(us:List (List Nat))(B:List D)(a:Bool)(i:Int):LP cx (yg v h) n 20 0 7 (k+1) [(0,V.d (D.sl 5 (T.ds l))),(1,V.d (D.str nm)),(6,V.d (D.sl 1 (xi us))),(8,V.slo 26 1 B.length),(9,V.d (D.bool a)),(10,V.d (D.int .i64 i))] [(26,Ob.row B)] (AK cx (yg v h) n 20 0 7 (EK cx 20 0))=bif decide (i<(↑(T.ds l).length:Int)) then zb (decide (0≤i)&&decide (i<(↑(T.ds l).length:Int))) (za (T.ds l) i.toNat λ y=>za y.cells 1 λ c=>match c with
 | D.str s=>zb (decide (0≤i)&&decide (i<(↑B.length:Int))) (zb (B.length.beq B.length&&true&&true) (bif a then LP cx (yg v h) n 20 0 7 k [(0,V.d (D.sl 5 (T.ds l))),(1,V.d (D.str nm)),(6,V.d (D.sl 1 (List.map (λ u=>D.sl 1 (nI u)) us))),(8,V.slo 26 1 B.length),(9,V.d (D.bool true)),(10,V.d (D.int .i64 (IntKind.i64.wrap (i+(1:Int)))))] [(26,Ob.row (B.set i.toNat (D.bool (decide (s=nm)))))] (AK cx (yg v h) n 20 0 7 (EK cx 20 0)) else zb (decide (0≤i)&&decide (i<(↑B.length:Int))) (zb (B.length.beq (B.set i.toNat (D.bool (decide (s=nm)))).length) (za (B.set i.toNat (D.bool (decide (s=nm)))) i.toNat λ x=>za x.cells 0 λ c=>match c with
  | D.bool b=>LP cx (yg v h) n 20 0 7 k [(0,V.d (D.sl 5 (T.ds l))),(1,V.d (D.str nm)),(6,V.d (D.sl 1 (List.map (λ u=>D.sl 1 (nI u)) us))),(8,V.slo 26 1 B.length),(9,V.d (D.bool b)),(10,V.d (D.int .i64 (IntKind.i64.wrap (i+(1:Int)))))] [(26,Ob.row (B.set i.toNat (D.bool (decide (s=nm)))))] (AK cx (yg v h) n 20 0 7 (EK cx 20 0))
  | x=>none))))
 | x=>none) else bif !a then some (Out.ret (V.tup [V.d (D.sl 1 []),V.d (D.int .i64 (90:Int))]),[]) else LP cx (yg v h) n 20 0 14 n [(0,V.d (D.sl 5 (T.ds l))),(6,V.d (D.sl 1 (List.map (λ u=>D.sl 1 (nI u)) us))),(8,V.slo 26 1 B.length),(11,V.d (D.bool true))] [(26,Ob.row B)] (AK cx (yg v h) n 20 0 14 (EK cx 20 0)):=by kernel_rfl
theorem z8h(v:D→Option (List D×Int))(h:D→Int→Option Bool)(n k:Nat)(l:List T)(us:List (List Nat))(B:List D)(a:Bool):LP cx (yg v h) n 20 0 14 (k+1) [(0,V.d (D.sl 5 (T.ds l))),(6,V.d (D.sl 1 (xi us))),(8,V.slo 26 1 B.length),(11,V.d (D.bool a))] [(26,Ob.row B)] (AK cx (yg v h) n 20 0 14 (EK cx 20 0))=bif a then LP cx (yg v h) n 20 0 17 n [(0,V.d (D.sl 5 (T.ds l))),(6,V.d (D.sl 1 (List.map (λ u=>D.sl 1 (nI u)) us))),(8,V.slo 26 1 B.length),(11,V.d (D.bool false)),(12,V.d (D.int .i64 (0:Int)))] [(26,Ob.row B)] (AL cx (yg v h) n 20 0 14 17 (inK cx (yg v h) n 20 0 14 k (AK cx (yg v h) n 20 0 14 (EK cx 20 0)))) else LP cx (yg v h) n 20 0 27 n [(0,V.d (D.sl 5 (T.ds l))),(8,V.slo 26 1 B.length),(14,V.sl 1 [] 14),(15,V.d (D.int .i64 (0:Int)))] [(26,Ob.row B),(14,Ob.tok 0)] (AK cx (yg v h) n 20 0 27 (EK cx 20 0)):=by kernel_rfl
theorem z8g(v:D→Option (List D×Int))(h:D→Int→Option Bool)(n k m:Nat)(l:List T)(us:List (List Nat))(B:List D)(a:Bool)(i:Int):LP cx (yg v h) n 20 0 17 (m+1) [(0,V.d (D.sl 5 (T.ds l))),(6,V.d (D.sl 1 (xi us))),(8,V.slo 26 1 B.length),(11,V.d (D.bool a)),(12,V.d (D.int .i64 i))] [(26,Ob.row B)] (AL cx (yg v h) n 20 0 14 17 (inK cx (yg v h) n 20 0 14 k (AK cx (yg v h) n 20 0 14 (EK cx 20 0))))=bif decide (i<(↑(T.ds l).length:Int)) then LP cx (yg v h) n 20 0 20 n [(0,V.d (D.sl 5 (T.ds l))),(6,V.d (D.sl 1 (List.map (λ u=>D.sl 1 (nI u)) us))),(8,V.slo 26 1 B.length),(11,V.d (D.bool a)),(12,V.d (D.int .i64 i)),(13,V.d (D.int .i64 (0:Int)))] [(26,Ob.row B)] (AL cx (yg v h) n 20 0 17 20 (inK cx (yg v h) n 20 0 17 m (AL cx (yg v h) n 20 0 14 17 (inK cx (yg v h) n 20 0 14 k (AK cx (yg v h) n 20 0 14 (EK cx 20 0)))))) else LP cx (yg v h) n 20 0 14 k [(0,V.d (D.sl 5 (T.ds l))),(6,V.d (D.sl 1 (List.map (λ u=>D.sl 1 (nI u)) us))),(8,V.slo 26 1 B.length),(11,V.d (D.bool a))] [(26,Ob.row B)] (AK cx (yg v h) n 20 0 14 (EK cx 20 0)):=by kernel_rfl
theorem z8f(v:D→Option (List D×Int))(h:D→Int→Option Bool)(n k m p:Nat)(l:List T)(us:List (List Nat))(B:List D)(a:Bool)(i j:Int):LP cx (yg v h) n 20 0 20 (p+1) [(0,V.d (D.sl 5 (T.ds l))),(6,V.d (D.sl 1 (xi us))),(8,V.slo 26 1 B.length),(11,V.d (D.bool a)),(12,V.d (D.int .i64 i)),(13,V.d (D.int .i64 j))] [(26,Ob.row B)] (AL cx (yg v h) n 20 0 17 20 (inK cx (yg v h) n 20 0 17 m (AL cx (yg v h) n 20 0 14 17 (inK cx (yg v h) n 20 0 14 k (AK cx (yg v h) n 20 0 14 (EK cx 20 0))))))=bif decide (j<(↑(T.ds l).length:Int)) then zb (decide (0≤i)&&decide (i<(↑B.length:Int))) (zb (B.length.beq B.length) (za B i.toNat λ x=>za x.cells 0 λ c=>match c with
 | D.bool b=>bif b then zb (decide (0≤i)&&decide (i<(↑(List.map (λ u=>D.sl 1 (nI u)) us).length:Int))) (za (List.map (λ u=>D.sl 1 (nI u)) us) i.toNat λ y=>za y.cells 0 λ c=>match c with
  | D.sl s l_1=>bif s.beq (cx.P.cellsOf 3)||l_1.isEmpty then zc (h (D.sl 1 l_1,j).fst (D.sl 1 l_1,j).snd) λ b=>bif b then zb (decide (0≤j)&&decide (j<(↑B.length:Int))) (zb (B.length.beq B.length) (za B j.toNat λ x=>za x.cells 0 λ c=>match c with
   | D.bool b=>bif !b then zb (decide (0≤j)&&decide (j<(↑B.length:Int))) (zb (B.length.beq B.length&&true&&true) (LP cx (yg v h) n 20 0 20 p [(0,V.d (D.sl 5 (T.ds l))),(6,V.d (D.sl 1 (List.map (λ u=>D.sl 1 (nI u)) us))),(8,V.slo 26 1 B.length),(11,V.d (D.bool true)),(12,V.d (D.int .i64 i)),(13,V.d (D.int .i64 (IntKind.i64.wrap (j+(1:Int)))))] [(26,Ob.row (B.set j.toNat (D.bool true)))] (AL cx (yg v h) n 20 0 17 20 (inK cx (yg v h) n 20 0 17 m (AL cx (yg v h) n 20 0 14 17 (inK cx (yg v h) n 20 0 14 k (AK cx (yg v h) n 20 0 14 (EK cx 20 0)))))))) else LP cx (yg v h) n 20 0 20 p [(0,V.d (D.sl 5 (T.ds l))),(6,V.d (D.sl 1 (List.map (λ u=>D.sl 1 (nI u)) us))),(8,V.slo 26 1 B.length),(11,V.d (D.bool a)),(12,V.d (D.int .i64 i)),(13,V.d (D.int .i64 (IntKind.i64.wrap (j+(1:Int)))))] [(26,Ob.row B)] (AL cx (yg v h) n 20 0 17 20 (inK cx (yg v h) n 20 0 17 m (AL cx (yg v h) n 20 0 14 17 (inK cx (yg v h) n 20 0 14 k (AK cx (yg v h) n 20 0 14 (EK cx 20 0))))))
   | x=>none)) else LP cx (yg v h) n 20 0 20 p [(0,V.d (D.sl 5 (T.ds l))),(6,V.d (D.sl 1 (List.map (λ u=>D.sl 1 (nI u)) us))),(8,V.slo 26 1 B.length),(11,V.d (D.bool a)),(12,V.d (D.int .i64 i)),(13,V.d (D.int .i64 (IntKind.i64.wrap (j+(1:Int)))))] [(26,Ob.row B)] (AL cx (yg v h) n 20 0 17 20 (inK cx (yg v h) n 20 0 17 m (AL cx (yg v h) n 20 0 14 17 (inK cx (yg v h) n 20 0 14 k (AK cx (yg v h) n 20 0 14 (EK cx 20 0)))))) else none
  | x=>none) else LP cx (yg v h) n 20 0 20 p [(0,V.d (D.sl 5 (T.ds l))),(6,V.d (D.sl 1 (List.map (λ u=>D.sl 1 (nI u)) us))),(8,V.slo 26 1 B.length),(11,V.d (D.bool a)),(12,V.d (D.int .i64 i)),(13,V.d (D.int .i64 (IntKind.i64.wrap (j+(1:Int)))))] [(26,Ob.row B)] (AL cx (yg v h) n 20 0 17 20 (inK cx (yg v h) n 20 0 17 m (AL cx (yg v h) n 20 0 14 17 (inK cx (yg v h) n 20 0 14 k (AK cx (yg v h) n 20 0 14 (EK cx 20 0))))))
 | x=>none)) else LP cx (yg v h) n 20 0 17 m [(0,V.d (D.sl 5 (T.ds l))),(6,V.d (D.sl 1 (List.map (λ u=>D.sl 1 (nI u)) us))),(8,V.slo 26 1 B.length),(11,V.d (D.bool a)),(12,V.d (D.int .i64 (IntKind.i64.wrap (i+(1:Int)))))] [(26,Ob.row B)] (AL cx (yg v h) n 20 0 14 17 (inK cx (yg v h) n 20 0 14 k (AK cx (yg v h) n 20 0 14 (EK cx 20 0)))):=by kernel_rfl
theorem z8e(v:D→Option (List D×Int))(h:D→Int→Option Bool)(n k:Nat)(l:List T)(B L:List D)(i:Int):LP cx (yg v h) n 20 0 27 (k+1) [(0,V.d (D.sl 5 (T.ds l))),(8,V.slo 26 1 B.length),(14,V.sl 1 L 14),(15,V.d (D.int .i64 i))] [(26,Ob.row B),(14,Ob.tok L.length)] (AK cx (yg v h) n 20 0 27 (EK cx 20 0))=bif decide (i<(↑(T.ds l).length:Int)) then zb (decide (0≤i)&&decide (i<(↑B.length:Int))) (zb (B.length.beq B.length) (za B i.toNat λ x=>za x.cells 0 λ c=>match c with
 | D.bool b=>bif b then zb (decide (L.length=L.length)&&decide (L.length+[D.int .i64 i].length≤4294967296)) (LP cx (yg v h) n 20 0 27 k [(0,V.d (D.sl 5 (T.ds l))),(8,V.slo 26 1 B.length),(14,V.sl 1 (L++[D.int .i64 i]) 14),(15,V.d (D.int .i64 (IntKind.i64.wrap (i+(1:Int)))))] [(26,Ob.row B),(14,Ob.tok (L.length+[D.int .i64 i].length))] (AK cx (yg v h) n 20 0 27 (EK cx 20 0))) else LP cx (yg v h) n 20 0 27 k [(0,V.d (D.sl 5 (T.ds l))),(8,V.slo 26 1 B.length),(14,V.sl 1 L 14),(15,V.d (D.int .i64 (IntKind.i64.wrap (i+(1:Int)))))] [(26,Ob.row B),(14,Ob.tok L.length)] (AK cx (yg v h) n 20 0 27 (EK cx 20 0))
 | x=>none)) else some (Out.ret (V.tup [V.d (D.sl 1 L),V.d (D.int .i64 (0:Int))]),[]):=by kernel_rfl
def bD(B:List Bool):List D:=B.map .bool
theorem zid(B:List Bool):(bD B).length=B.length:=pf _
theorem z48(B:List Bool)(i:Nat)(b:Bool):(bD B).set i (.bool b)=bD (B.set i b):=by unfold bD; rw [List.map_set]
theorem zt5(b:Bool):(D.bool b).cells=[D.bool b]:=rfl
theorem zz2(l:List D):(D.sl 1 l).cells=[D.sl 1 l]:=rfl
theorem zon(k:Nat)(l:List Nat):vu (k:Int) l=decide (k∈l):=by
 by_cases h:k∈l
 ·rw [pa h,zkw.2 h]
 ·rw [pb h];cases hm:vu (k:Int) l
  ·rfl
  ·exact absurd (zkw.1 hm) h
def h50(x:D)(a:Int):Option Bool:=match x with | .sl 1 L=>zc (zh1 L) λ l=>zb (yd l) (some (vu a l)) | _=>none
theorem zvn{x:D}{a:Int}{b:Bool}(h:h50 x a=some b):∃ l:List Nat,x=.sl 1 (nI l)∧yd l=true∧b=vu a l:=by
 unfold h50 at h;split at h
 ·obtain ⟨l,hl,h⟩:=zd h;obtain ⟨h1,h⟩:=ze h;cases h;exact ⟨l,by rw [zc2 hl],h1,rfl⟩
 ·cases h
theorem zxk{l:List Nat}{a:Int}(h:yd l=true):h50 (.sl 1 (nI l)) a=some (vu a l):=by
 show zc (zh1 (nI l)) _=_;rw [zf0,v6,h]; rfl
theorem z00{S:CK R1}(hS:knows cx S.S (zh cx)):knows cx (zt 50 zcv (λ q=>h50 q.1 q.2) mkB S).S (zh cx):=zj hS λ a q b hd h hb=>by
 obtain ⟨l,h1,h2,rfl⟩:=zvn hb;rw [zaf h,h1];exact m50 l q.2 h2
theorem zsx:knows cx (yg u24 h50).S (zh cx):=zj (z00 zm) λ a q b hd h hb=>zz9 h hb
def z1y(N k:Nat)(l:List T)(B:List Bool)(L:List D)(i:Int):Option R1:=
 LP cx (yg u24 h50) N 20 0 27 k [(0,V.d (D.sl 5 (T.ds l))),(8,V.slo 26 1 (bD B).length),(14,V.sl 1 L 14),(15,V.d (D.int .i64 i))] [(26,Ob.row (bD B)),(14,Ob.tok L.length)] (AK cx (yg u24 h50) N 20 0 27 (EK cx 20 0))
def z5r(N k:Nat)(l:List T)(us:List (List Nat))(q:List Bool×Bool):Option R1:=
 LP cx (yg u24 h50) N 20 0 14 k [(0,V.d (D.sl 5 (T.ds l))),(6,V.d (D.sl 1 (xi us))),(8,V.slo 26 1 (bD q.1).length),(11,V.d (D.bool q.2))] [(26,Ob.row (bD q.1))] (AK cx (yg u24 h50) N 20 0 14 (EK cx 20 0))
def zyp(N k m:Nat)(l:List T)(us:List (List Nat))(q:List Bool×Bool)(i:Int):Option R1:=
 LP cx (yg u24 h50) N 20 0 17 m [(0,V.d (D.sl 5 (T.ds l))),(6,V.d (D.sl 1 (xi us))),(8,V.slo 26 1 (bD q.1).length),(11,V.d (D.bool q.2)),(12,V.d (D.int .i64 i))] [(26,Ob.row (bD q.1))] (AL cx (yg u24 h50) N 20 0 14 17 (inK cx (yg u24 h50) N 20 0 14 k (AK cx (yg u24 h50) N 20 0 14 (EK cx 20 0))))
def zyo(N k m p:Nat)(l:List T)(us:List (List Nat))(q:List Bool×Bool)(i j:Int):Option R1:=
 LP cx (yg u24 h50) N 20 0 20 p [(0,V.d (D.sl 5 (T.ds l))),(6,V.d (D.sl 1 (xi us))),(8,V.slo 26 1 (bD q.1).length),(11,V.d (D.bool q.2)),(12,V.d (D.int .i64 i)),(13,V.d (D.int .i64 j))] [(26,Ob.row (bD q.1))] (AL cx (yg u24 h50) N 20 0 17 20 (inK cx (yg u24 h50) N 20 0 17 m (AL cx (yg u24 h50) N 20 0 14 17 (inK cx (yg u24 h50) N 20 0 14 k (AK cx (yg u24 h50) N 20 0 14 (EK cx 20 0))))))
theorem yez(N k m p:Nat)(l:List T)(us:List (List Nat))(q:List Bool×Bool)(i j:Nat)(hB:q.1.length=l.length)(hu:us.length=l.length)(hs:∀ u∈us,yd u=true)(hi:i<l.length)(hj:j<l.length) :
  zyo N k m (p+1) l us q i j=zyo N k m p l us (Sp.look1 us i j q) i (IntKind.i64.wrap ((j:Int)+1)):=by
 obtain ⟨B,a⟩:=q;simp only at hB;have hBi:=pr (show i<B.length by omega)
 have hBj:=pr (show j<B.length by omega)
 have hui:=pr (show i<us.length by omega)
 have hsu:=hs _ (List.getElem_mem (show i<us.length by omega))
 generalize B[i]=bi at hBi;generalize B[j]=bj at hBj;generalize us[i]=u at hui hsu;have g1:B.getD i false=bi:=by rw [List.getD_eq_getElem?_getD,hBi]; rfl
 have g2:B.getD j false=bj:=by rw [List.getD_eq_getElem?_getD,hBj]; rfl
 have g3:Sp.row us i=u:=by unfold Sp.row; rw [List.getD_eq_getElem?_getD,hui]; rfl
 have hul:∀ {R:Type} {K:D→Option R},za (List.map (λ u=>D.sl 1 (nI u)) us) (i:Int).toNat K=K (.sl 1 (nI u)):=λ {R K}=>zd1 (by rw [pm]; exact zj5 hui)
 have hud:(List.map (λ u=>D.sl 1 (nI u)) us).length=us.length:=pf _;have hbi:∀ {R:Type} {K:D→Option R},za (bD B) (i:Int).toNat K=K (.bool bi):=λ {R K}=>zd1 (by rw [pm]; unfold bD; rw [List.getElem?_map,hBi]; rfl)
 have hbj:∀ {R:Type} {K:D→Option R},za (bD B) (j:Int).toNat K=K (.bool bj):=λ {R K}=>zd1 (by rw [pm]; unfold bD; rw [List.getElem?_map,hBj]; rfl)
 have d1:decide ((i:Int)<(B.length:Int))=true:=z6 (by omega)
 have d2:decide ((j:Int)<(B.length:Int))=true:=z6 (by omega)
 have d3:decide ((i:Int)<(us.length:Int))=true:=z6 (by omega)
 refine (z8f u24 h50 N k m p l us (bD B) a i j).trans ?_;unfold zyo;unfold Sp.look1;simp only [g1,g2,g3];simp only [zo,z6 hj,cond_true,zid,d1,d2,d3,yy,Bool.and_self,qw,Nat.beq_refl];rw [hbi];simp only [zt5,xo];cases bi
 ·simp only [cond_false,Bool.false_and];unfold xi;rfl
 ·simp only [cond_true,Bool.true_and,hud,d3,qw];rw [hul];simp only [zz2,xo,cells3,Bool.true_or,cond_true];rw [zxk hsu,v6,zon];cases decide (j∈u)
  ·simp only [cond_false,Bool.false_and];unfold xi;rfl
  ·simp only [cond_true];rw [hbj];simp only [zt5,xo];cases bj
   ·simp only [cond_true,Bool.not_false,Bool.and_self,List.length_set,z48,pm];unfold xi;rfl
   ·simp only [cond_false,Bool.not_true,Bool.and_false];unfold xi;rfl
theorem yfq(N k m p:Nat)(l:List T)(us:List (List Nat))(q:List Bool×Bool)(i:Nat):zyo N k m (p+1) l us q i l.length=zyp N k m l us q (IntKind.i64.wrap ((i:Int)+1)):=by
 unfold zyo;refine (z8f u24 h50 N k m p l us (bD q.1) q.2 i l.length).trans ?_;rw [zo,yj,cond_false];rfl
theorem zzi(N k m:Nat)(l:List T)(us:List (List Nat))(hl:l.length<4294967296)(hu:us.length=l.length)(hs:∀ u∈us,yd u=true)(i:Nat)(hi:i<l.length):∀ (d j p:Nat) (q:List Bool×Bool),q.1.length=l.length→j+d=l.length→d<p →
  zyo N k m p l us q i j=zyp N k m l us (qd us i d j q) (IntKind.i64.wrap ((i:Int)+1))
 | 0,j,p,q,hq,hj,hp=>by
  obtain ⟨p,rfl⟩:∃ k',p=k'+1:=⟨p - 1,by omega⟩
  obtain rfl:j=l.length:=by omega
  exact yfq N k m p l us q i
 | d+1,j,p,q,hq,hj,hp=>by
  obtain ⟨p,rfl⟩:∃ k',p=k'+1:=⟨p - 1,by omega⟩
  rw [yez N k m p l us q i j hq hu hs hi (by omega),xq (show j<l.length by omega) hl]
  exact zzi N k m l us hl hu hs i hi d (j+1) p _ ((zgu us 0 i j q).len.trans hq) (by omega) (by omega)
theorem zzj(N k:Nat)(l:List T)(us:List (List Nat))(hl:l.length<4294967296)(hN:l.length<N)(hu:us.length=l.length)(hs:∀ u∈us,yd u=true):∀ (d i m:Nat) (q:List Bool×Bool),q.1.length=l.length→i+d=l.length→d<m →
  zyp N k m l us q i=z5r N k l us (zan us l.length d i q)
 | 0,i,m,q,hq,hi,hm=>by
  obtain ⟨m,rfl⟩:∃ k',m=k'+1:=⟨m - 1,by omega⟩
  obtain rfl:i=l.length:=by omega
  unfold zyp;refine (z8g u24 h50 N k m l us (bD q.1) q.2 l.length).trans ?_;rw [zo,yj,cond_false];rfl
 | d+1,i,m,q,hq,hi,hm=>by
  obtain ⟨m,rfl⟩:∃ k',m=k'+1:=⟨m - 1,by omega⟩
  have hil:i<l.length:=by omega
  have h1:zyp N k (m+1) l us q i=zyo N k m N l us q i 0:=by
   unfold zyp;refine (z8g u24 h50 N k m l us (bD q.1) q.2 i).trans ?_;rw [zo,z6 hil,cond_true];rfl
  rw [h1];refine (zzi N k m l us hl hu hs i hil l.length 0 N q hq (by omega) hN).trans ?_
  rw [xq hil hl];exact zzj N k l us hl hN hu hs d (i+1) m _ ((zck us 0 i l.length 0 q).len.trans hq) (by omega) (by omega)
theorem zzk(N:Nat)(l:List T)(us:List (List Nat))(hl:l.length<4294967296)(hN:l.length<N)(hu:us.length=l.length)(hs:∀ u∈us,yd u=true):∀ (f k:Nat) (b r:List Bool),b.length=l.length→zga us l.length f b=some r→f<k →
  z5r N k l us (b,true)=z1y N N l r [] 0
 | 0,k,b,r,hb,h,hk=>by cases h
 | f+1,k,b,r,hb,h,hk=>by
  obtain ⟨k,rfl⟩:∃ k',k=k'+1:=⟨k - 1,by omega⟩
  have h1:z5r N (k+1) l us (b,true)=zyp N k N l us (b,false) 0:=by
   unfold z5r;exact z8h u24 h50 N k l us (bD b) true
  rw [h1];refine (zzj N k l us hl hN hu hs l.length 0 N (b,false) hb (by omega) hN).trans ?_
  unfold zga at h;have hlen:=(zd5 us 0 l.length l.length 0 (b,false)).len.trans hb;generalize zan us l.length l.length 0 (b,false)=q at h hlen;obtain ⟨b',a⟩:=q;cases a
  ·cases h;obtain ⟨k,rfl⟩:∃ k',k=k'+1:=⟨k - 1,by omega⟩
   exact z8h u24 h50 N k l us (bD b') false
  ·exact zzk N l us hl hN hu hs f k b' r hlen h (by omega)
theorem zzh(N:Nat)(l:List T)(hl:l.length<4294967296)(B:List Bool)(hB:B.length=l.length):∀ (d i k:Nat),i+d=l.length→d<k →
  z1y N k l B (nI (xn (λ k=>B.getD k false) i)) i=some (.ret (mk2 (nI (xn (λ k=>B.getD k false) l.length),0)),[])
 | 0,i,k,hi,hk=>by
  obtain ⟨k,rfl⟩:∃ k',k=k'+1:=⟨k - 1,by omega⟩
  obtain rfl:i=l.length:=by omega
  unfold z1y;refine (z8e u24 h50 N k l (bD B) _ l.length).trans ?_;rw [zo,yj,cond_false];rfl
 | d+1,i,k,hi,hk=>by
  obtain ⟨k,rfl⟩:∃ k',k=k'+1:=⟨k - 1,by omega⟩
  have hil:i<l.length:=by omega
  have ih:=zzh N l hl B hB d (i+1) k (by omega) (by omega)
  rw [zkd] at ih;have hBi:=pr (show i<B.length by omega)
  generalize B[i]=b at hBi;have g1:B.getD i false=b:=by rw [List.getD_eq_getElem?_getD,hBi]; rfl
  have d1:decide ((i:Int)<(B.length:Int))=true:=z6 (by omega)
  have hsl:=ze8 (λ k=>B.getD k false) i;unfold z1y;refine (z8e u24 h50 N k l (bD B) _ i).trans ?_;rw [g1] at ih;have hbi:∀ {R:Type} {K:D→Option R},za (bD B) (i:Int).toNat K=K (.bool b):=λ {R K}=>zd1 (by rw [pm]; unfold bD; rw [List.getElem?_map,hBi]; rfl)
  simp only [zo,z6 hil,cond_true,zid,d1,yy,Bool.and_self,qw,Nat.beq_refl];rw [hbi];simp only [zt5,xo];rw [xq hil hl];cases b
  ·unfold z1y at ih;rw [zid] at ih;exact ih
  ·generalize xn (λ k=>B.getD k false) i=us at *;have h4:nI (us++[i])=nI us++[D.int .i64 (i:Int)]:=by unfold nI; rw [List.map_append]; rfl
   simp only [cond_true] at ih ⊢;rw [h4] at ih;unfold z1y at ih;rw [zid,pe] at ih;rw [decide_true,pa (p:=(nI us).length+[D.int .i64 (i:Int)].length≤4294967296) (by rw [zgt]; simp only [List.length_cons,List.length_nil]; omega)]
   exact ih
def z5s(N k:Nat)(l:List T)(nm:List UInt8)(us:List (List Nat))(B:List Bool)(a:Bool)(i:Int):Option R1:=
 LP cx (yg u24 h50) N 20 0 7 k [(0,V.d (D.sl 5 (T.ds l))),(1,V.d (D.str nm)),(6,V.d (D.sl 1 (xi us))),(8,V.slo 26 1 (bD B).length),(9,V.d (D.bool a)),(10,V.d (D.int .i64 i))] [(26,Ob.row (bD B))] (AK cx (yg u24 h50) N 20 0 7 (EK cx 20 0))
theorem zzl(N:Nat)(l:List T)(nm:List UInt8)(us:List (List Nat))(hl:l.length<4294967296):∀ (r:List T) (i k:Nat) (pre:List Bool) (a:Bool),l.drop i=r→i≤l.length→pre.length=i→r.length<k →
  z5s N k l nm us (pre++List.replicate r.length false) a i=bif a||r.any (λ t=>decide (t.nm=nm)) then z5r N N l us (pre++r.map (λ t=>decide (t.nm=nm)),true) else some (.ret (mk2 ([],90)),[])
 | [],i,k,pre,a,hd,hi,hp,hk=>by
  obtain ⟨k,rfl⟩:∃ k',k=k'+1:=⟨k - 1,by omega⟩
  have:l.length≤i:=by simpa using hd
  obtain rfl:i=l.length:=by omega
  unfold z5s;refine (z8i u24 h50 N k l nm us _ a l.length).trans ?_;rw [zo,yj,cond_false];cases a <;> rfl
 | t::r,i,k,pre,a,hd,hi,hp,hk=>by
  obtain ⟨k,rfl⟩:∃ k',k=k'+1:=⟨k - 1,by omega⟩
  obtain ⟨h1,h2,h3⟩:=zbu hd;have ih:=zzl N l nm us hl r (i+1) k (pre++[decide (t.nm=nm)]) (a||decide (t.nm=nm)) h3 h1 (by simp [hp]) (by simp at hk; omega)
  generalize hB:pre++List.replicate (t::r).length false=B;have hBl:B.length=pre.length+(r.length+1):=by rw [←hB]; simp
  have hset:B.set i (decide (t.nm=nm))=pre++[decide (t.nm=nm)]++List.replicate r.length false:=by
   rw [←hB,List.set_append_right _ _ (by omega),hp,Nat.sub_self,List.length_cons,List.replicate_succ]
   simp
  have hget:(B.set i (decide (t.nm=nm)))[i]?=some (decide (t.nm=nm)):=by rw [List.getElem?_set_self (by omega)]
  have d1:decide ((i:Int)<(B.length:Int))=true:=z6 (by omega)
  have e2:(pre++[decide (t.nm=nm)]++List.replicate r.length false).length=B.length:=by simp [hBl]
  unfold z5s;refine (z8i u24 h50 N k l nm us (bD B) a i).trans ?_;have hti:∀ {R:Type} {K:D→Option R},za (T.ds l) (i:Int).toNat K=K t.d:=λ {R K}=>zd1 (by rw [pm,zxy,List.getElem?_map,h2]; rfl)
  have hbi:∀ {R:Type} {K:D→Option R},za (bD (B.set i (decide (t.nm=nm)))) i K=K (.bool (decide (t.nm=nm))):=λ {R K}=>zd1 (by unfold bD; rw [List.getElem?_map,hget]; rfl)
  simp only [zo,z6 h1,cond_true,zid,d1,yy,Bool.and_self,qw,Nat.beq_refl];rw [hti];simp only [yb,xo,wz,z48,zid,List.length_set,Nat.beq_refl,qw,pm];rw [hbi];simp only [zt5,xo];rw [hset,xq h1 hl];rw [List.any_cons,List.map_cons];unfold z5s at ih;rw [zid,e2] at ih;cases a
  ·simp only [Bool.false_or,cond_false] at ih ⊢;refine Eq.trans ?_ (ih.trans ?_)
   ·rfl
   ·simp
  ·simp only [Bool.true_or,cond_true] at ih ⊢;refine Eq.trans ?_ (ih.trans ?_)
   ·rfl
   ·simp
open Classical in
def zav(l:List T)(nm:List UInt8):List Nat×Int:=bif decide (Sp.wr l=0) then (match zcr (nmL l) nm with | some s=>(xn (λ k=>decide (Reach (zdt l) s k)) l.length,0) | none=>([],90)) else ([],Sp.wr l)
theorem zfu(l:List T):(zdt l).length=l.length:=pf _
theorem zfd(l:List T):zik (zdt l):=λ u hu k hk=>by
 obtain ⟨t,_,rfl⟩:=List.mem_map.1 hu;have:=(zth.1 hk).1;rw [zfu]
 rwa [zd2] at this
theorem zli{l:List T}(h:l.length<4294967296):∀ u∈zdt l,yd u=true:=λ u hu=>by
 obtain ⟨t,_,rfl⟩:=List.mem_map.1 hu;refine zkc ?_;have:=ze8 (λ k=>Sp.mem ((nmL l).getD k []) (xk [] [] t.kids)) (nmL l).length;rw [zd2] at this;exact Nat.lt_of_le_of_lt (by rw [←zd2 l] at this; exact this) (by rw [zd2]; exact h)
theorem yaf(n:Nat):List.replicate n (D.bool false)=bD (List.replicate n false):=by unfold bD; rw [List.map_replicate]
theorem ya2:vk cx.P 4 [D.bool false]=D.bool false:=by kernel_rfl
theorem z5b{l:List T}{nm:List UInt8}(hn:(nmL l).Nodup):(l.any (λ t=>decide (t.nm=nm))=false∧zcr (nmL l) nm=none)∨(l.any (λ t=>decide (t.nm=nm))=true∧∃ s,zcr (nmL l) nm=some s∧s<l.length∧∀ k,(l.map λ t=>decide (t.nm=nm)).getD k false=true↔k=s):=by
 have hm:∀ k,(l.map λ t=>decide (t.nm=nm)).getD k false=true↔(nmL l)[k]?=some nm:=λ k=>by
  unfold nmL;rw [List.getD_eq_getElem?_getD,List.getElem?_map,List.getElem?_map];cases l[k]? with
  | none=>simp
  | some t=>simp
 cases ha:zcr (nmL l) nm with
 | none=>
  left;refine ⟨?_,rfl⟩;rw [List.any_eq_false];intro t ht he;obtain ⟨k,hk⟩:=List.getElem?_of_mem ht;have:(nmL l)[k]?=some nm:=by unfold nmL; rw [List.getElem?_map,hk]; simpa using he
  rw [←zj2 hn] at this;rw [ha] at this; cases this
 | some s=>
  right;have h1:=(zj2 hn).1 ha;have h2:=(pj.1 h1).1;rw [zd2] at h2;refine ⟨?_,s,rfl,h2,λ k=>?_⟩
  ·rw [List.any_eq_true];refine ⟨l[s],List.getElem_mem h2,?_⟩;unfold nmL at h1;rw [List.getElem?_map,pr h2] at h1;simpa using h1
  ·rw [hm,←zj2 hn,ha];simp [eq_comm]
theorem m20(l:List T)(nm:List UInt8)(hg:zbg l=true):zh cx 20 [.d (.sl 5 (T.ds l)),.d (.str nm)] []=some (.ret (mk2 (nI (zav l nm).1,(zav l nm).2)),[]):=by
 unfold zav;obtain ⟨h1,h2,h3⟩:=wv.1 hg;have hl:=yh h1;obtain ⟨N,hN⟩:∃ N,N=l.length+2:=⟨_,rfl⟩;refine zk zsx (N:=N) ?_;rw [ygd,zsy hg,v6];unfold zbd;cases hw:decide (Sp.wr l=0)
 ·simp only [cond_false,hw,Bool.not_false,cond_true];rfl
 ·obtain ⟨hd,hn⟩:=wr0 (pc hw);have hl2:decide ((l.length:Int)≤4294967296)=true:=pa (by omega)
  simp only [cond_true,decide_true,Bool.not_true,cond_false,zo,Int.le_refl,hl2,Bool.and_self,qw,pm,ya2,yaf];have e0:=zzl N l nm (zdt l) hl l 0 N [] false rfl (Nat.zero_le _) rfl (by omega)
  rw [List.nil_append,List.nil_append,Bool.false_or] at e0;unfold z5s at e0;rw [zid,List.length_replicate] at e0;refine e0.trans ?_;rcases z5b (nm:=nm) hn with ⟨ha,hb⟩ | ⟨ha,s,hb,hs,hr⟩
  ·rw [ha,hb]; rfl
  ·rw [ha,hb,cond_true];have hul:=zfu l;obtain ⟨r,hp,hrl,hre⟩:=zob (zfd l) (s:=s) (l.length+1) (l.map λ t:T=>decide (t.nm=nm)) (by rw [pf,hul]) (by omega) (λ k hk=>by rw [(hr k).1 hk]; exact .here) ((hr s).2 rfl)
   rw [hul] at hp hrl;rw [zzk N l (zdt l) hl (by omega) hul (zli hl) (l.length+1) N _ r (pf _) hp (by omega)]
   refine (zzh N l hl r hrl l.length 0 N (by omega) (by omega)).trans ?_
   have:(λ k=>r.getD k false)=λ k=>@decide (Reach (zdt l) s k) (Classical.propDecidable _):=funext λ k=>Bool.eq_iff_iff.2 ((hre k).trans (@decide_eq_true_iff _ (Classical.propDecidable _)).symm);rw [this]
theorem yge(u:D→Option (List D×Int))(ix:D→List UInt8→Option Int)(ad:Int→List D→Option (List D))(s:List D→Option (List D))(n:Nat)(l:List T)(nm:List UInt8):zl cx (zdr u ix ad s) n 19 [.d (.sl 5 (T.ds l)),.d (.str nm)] []=zc (u (D.sl 5 (T.ds l))) λ b=>bif !decide (b.snd=(0:Int)) then some (Out.ret (V.tup [V.d (D.sl 1 []),V.d (D.int .i64 b.snd)]),[]) else zc (ix (D.sl 5 (T.ds l),nm).fst (D.sl 5 (T.ds l),nm).snd) λ b_1=>bif decide (b_1<(0:Int)) then some (Out.ret (V.tup [V.d (D.sl 1 []),V.d (D.int .i64 (90:Int))]),[]) else LP cx (zdr u ix ad s) n 19 0 10 n [(6,V.d (D.sl 1 b.1)),(9,V.ptr 9 0),(10,V.func 47 [V.ptr 9 0]),(11,V.d (D.int .i64 (0:Int)))] [(9,Ob.val 1 (V.slo 28 1 1)),(28,Ob.row [D.int .i64 b_1])] (AK cx (zdr u ix ad s) n 19 0 10 (EK cx 19 0)):=by kernel_rfl
theorem ydx(u:D→Option (List D×Int))(ix:D→List UInt8→Option Int)(ad:Int→List D→Option (List D))(s:List D→Option (List D))(n k:Nat)(us:List (List Nat))(L:List D)(i:Int) :
    LP cx (zdr u ix ad s) n 19 0 10 (k+1) [(6,V.d (D.sl 1 (xi us))),(9,V.ptr 9 0),(10,V.func 47 [V.ptr 9 0]),(11,V.d (D.int .i64 i))] [(9,Ob.val 1 (V.slo 28 1 L.length)),(28,Ob.row L)] (AK cx (zdr u ix ad s) n 19 0 10 (EK cx 19 0)) =
  bif decide (i<(↑L.length:Int)) then zb (decide (0≤i)&&decide (i<(↑L.length:Int))) (zb (L.length.beq L.length) (za L i.toNat λ x=>za x.cells 0 λ c=>
            match c with
            | D.int k' n_1=>
              bif decide (k'=IntKind.i64) then
                zb (decide (0≤n_1)&&decide (n_1<(↑(List.map (λ u=>D.sl 1 (nI u)) us).length:Int)))
                  (za (List.map (λ u=>D.sl 1 (nI u)) us) n_1.toNat λ y=>
                    za y.cells 0 λ c=>
                      match c with
                      | D.sl s_1 l=>
                        bif s_1.beq (cx.P.cellsOf 3)||l.isEmpty then
                          LP cx (zdr u ix ad s) n 19 0 13 n [(6,V.d (D.sl 1 (List.map (λ u=>D.sl 1 (nI u)) us))),(9,V.ptr 9 0),(10,V.func 47 [V.ptr 9 0]),(11,V.d (D.int .i64 i)),(42,V.d (D.sl 1 l)),(43,V.d (D.int .i64 (↑l.length:Int))),(44,V.d (D.int .i64 (0:Int)))]
                            [(9,Ob.val 1 (V.slo 28 1 L.length)),(28,Ob.row L)] (AL cx (zdr u ix ad s) n 19 0 10 13 (inK cx (zdr u ix ad s) n 19 0 10 k (AK cx (zdr u ix ad s) n 19 0 10 (EK cx 19 0))))
                        else none
                      | x=>none)
              else none
            | x=>none))
  else zc (s L) λ l=>zb (L.length.beq L.length) (match V.leave 0 [(9,Ob.val 1 (V.slo 28 1 L.length)),(28,Ob.row l)] (zen [V.slo 28 1 L.length,V.d (D.int .i64 (0:Int))]),some [] with
        | some v,some s=>some (Out.ret v,s)
        | x,x_1=>none):=by kernel_rfl
theorem z8j(u:D→Option (List D×Int))(ix:D→List UInt8→Option Int)(ad:Int→List D→Option (List D))(s:List D→Option (List D))(n k m:Nat)(us:List (List Nat))(w:List Nat)(L:List D)(i j:Int):LP cx (zdr u ix ad s) n 19 0 13 (m+1) [(6,V.d (D.sl 1 (xi us))),(9,V.ptr 9 0),(10,V.func 47 [V.ptr 9 0]),(11,V.d (D.int .i64 i)),(42,V.d (D.sl 1 (nI w))),(43,V.d (D.int .i64 (w.length:Int))),(44,V.d (D.int .i64 j))] [(9,Ob.val 1 (V.slo 28 1 L.length)),(28,Ob.row L)] (AL cx (zdr u ix ad s) n 19 0 10 13 (inK cx (zdr u ix ad s) n 19 0 10 k (AK cx (zdr u ix ad s) n 19 0 10 (EK cx 19 0))))=bif decide (j<(↑w.length:Int)) then zb (decide (0≤j)&&decide (j<(↑(List.map (λ k:Nat=>D.int .i64 (k:Int)) w).length:Int))) (za (List.map (λ k:Nat=>D.int .i64 (k:Int)) w) j.toNat λ y=>za y.cells 0 λ c=>match c with
 | D.int k' n_1=>bif decide (k'=IntKind.i64) then zc (ad (n_1,L,L.length).fst (n_1,L,L.length).snd.fst) λ L'=>zb ((n_1,L,L.length).snd.snd.beq (n_1,L,L.length).snd.fst.length) (LP cx (zdr u ix ad s) n 19 0 13 m [(6,V.d (D.sl 1 (List.map (λ u=>D.sl 1 (nI u)) us))),(9,V.ptr 9 0),(10,V.func 47 [V.ptr 9 0]),(11,V.d (D.int .i64 i)),(42,V.d (D.sl 1 (List.map (λ k:Nat=>D.int .i64 (k:Int)) w))),(43,V.d (D.int .i64 (↑w.length:Int))),(44,V.d (D.int .i64 (IntKind.i64.wrap (j+(1:Int)))))] [(9,Ob.val 1 (V.slo 28 1 L'.length)),(28,Ob.row L')] (AL cx (zdr u ix ad s) n 19 0 10 13 (inK cx (zdr u ix ad s) n 19 0 10 k (AK cx (zdr u ix ad s) n 19 0 10 (EK cx 19 0))))) else none
 | x=>none) else LP cx (zdr u ix ad s) n 19 0 10 k [(6,V.d (D.sl 1 (List.map (λ u=>D.sl 1 (nI u)) us))),(9,V.ptr 9 0),(10,V.func 47 [V.ptr 9 0]),(11,V.d (D.int .i64 (IntKind.i64.wrap (i+(1:Int)))))] [(9,Ob.val 1 (V.slo 28 1 L.length)),(28,Ob.row L)] (AK cx (zdr u ix ad s) n 19 0 10 (EK cx 19 0)):=by kernel_rfl
theorem zxh{l:List D}{m:Nat}{o:Ob}{x:D}(h:m=l.length):V.leave 0 [(9,o),(28,Ob.row l)] (zen [V.slo 28 1 m,V.d x])=some (.tup [.d (.sl 1 l),.d x]):=by
 subst h;have e:V.leave 0 [(9,o),(28,Ob.row l)] (V.slo 28 1 l.length)=some (.d (.sl 1 l)):=by
  show (bif Nat.beq l.length l.length then some (V.d (.sl 1 l)) else none)=_;rw [Nat.beq_refl]; rfl
 show (match V.leaveL 0 [(9,o),(28,Ob.row l)] [V.slo 28 1 l.length,V.d x] with | some r=>some (V.tup r) | none=>none)=_
 unfold V.leaveL;rw [e];rfl
theorem z73(x:Int):(D.int .i64 x).cells=[D.int .i64 x]:=rfl
def zma(x:D)(s:List UInt8):Option Int:=zc (zsu x) λ l=>some (y8 (λ t:T=>decide (t.nm=s)) l)
def zlg(i:Int)(L:List D):Option (List D):=zc (zh1 L) λ l=>zb (decide (l.length+1<4294967296)&&decide (0≤i)) (some (nI (Sp.addN l i.toNat)))
theorem z69{l:List Nat}{i:Nat}(h:l.length+1<4294967296):zlg (i:Int) (nI l)=some (nI (Sp.addN l i)):=by
 unfold zlg;rw [zf0,v6,pa h,yy,pm]; rfl
theorem zx7{a:List V}{σ:St}{i:Int}{l:List D}{n:Nat}(h:z4t a σ=some (i,(l,n))):a=[.d (.int .i64 i),.ptr 0 0]∧σ=[(0,.val 1 (.slo 1 1 n)),(1,.row l)]:=by
 unfold z4t at h;split at h
 ·obtain ⟨q,hq,h⟩:=zd h;unfold pdI at hq;split at hq
  ·cases hq; cases h; exact ⟨rfl,rfl⟩
  ·cases hq
 ·cases h
theorem z18{S:CK R1}(hS:knows cx S.S (zh cx)):knows cx (yed zlg S).S (zh cx):=we hS λ a σ q r hd h=>by
 obtain ⟨i,L,n⟩:=q;obtain ⟨L',hL,h⟩:=zd h;obtain ⟨hn,h⟩:=ze h;cases h;obtain ⟨rfl,rfl⟩:=zx7 hd;obtain ⟨l,hl,hL⟩:=zd hL;obtain ⟨h1,hL⟩:=ze hL;cases hL;rw [ph] at h1;have hn:n=L.length:=pg hn;subst hn;have e:L=nI l:=zc2 hl;subst e;have:=m47 l i.toNat (pc h1.1);rw [Int.toNat_of_nonneg (pc h1.2)] at this;exact this
theorem zyq:knows cx (zdr u24 zma zlg s49).S (zh cx):=
 zj (zq5 (z18 (zqf zm)) λ a σ q b hd hb=>by
  obtain ⟨rfl,rfl⟩:=zx9 hd;obtain ⟨l,hl,hb⟩:=zd hb;cases hb;obtain ⟨h0,h1,h2⟩:=zsz hl;rw [h0];exact m45 l q.2 h1 h2) λ a q b hd h hb=>zq2 h hb
def zyn(N k:Nat)(us:List (List Nat))(o:List Nat)(i:Int):Option R1:=
 LP cx (zdr u24 zma zlg s49) N 19 0 10 k [(6,V.d (D.sl 1 (xi us))),(9,V.ptr 9 0),(10,V.func 47 [V.ptr 9 0]),(11,V.d (D.int .i64 i))] [(9,Ob.val 1 (V.slo 28 1 (nI o).length)),(28,Ob.row (nI o))] (AK cx (zdr u24 zma zlg s49) N 19 0 10 (EK cx 19 0))
theorem ydd(N k:Nat)(us:List (List Nat))(o:List Nat)(ho:o.length<4294967296):zyn N (k+1) us o o.length=some (.ret (mk2 ((vf (o.map λ k:Nat=>(k:Int))).map (.int .i64),0)),[]):=by
 unfold zyn;refine (ydx u24 zma zlg s49 N k us (nI o) o.length).trans ?_;rw [zgt,yj,cond_false,z21 o (by omega),v6,Nat.beq_refl,qw]
 rw [zxh (by rw [pf,zlm,pf])]
 rfl
theorem z8q(N k:Nat)(hN:N≤4294967296)(us:List (List Nat))(hU:zik us)(hs:∀ u∈us,u.length<N)(hul:us.length<4294967295)(o:List Nat)(i j:Nat)(hi:o[i]?=some j)(hn:o.Nodup)(hl:∀ x∈o,x<us.length) :
  zyn N (k+1) us o i=zyn N k us (vy o (Sp.row us j)) (IntKind.i64.wrap ((i:Int)+1)):=by
 have hil:=(pj.1 hi).1;have hj:=hl j (po hi);have huj:=pr hj;have hmem:=List.getElem_mem hj;generalize us[j]=u at huj hmem;have g3:Sp.row us j=u:=by unfold Sp.row; rw [List.getD_eq_getElem?_getD,huj]; rfl
 have hoi:∀ {R:Type} {K:D→Option R},za (nI o) (i:Int).toNat K=K (.int .i64 (j:Int)):=λ {R K}=>by rw [zd0,pm,hi]; rfl
 have huj2:∀ {R:Type} {K:D→Option R},za (List.map (λ u=>D.sl 1 (nI u)) us) (j:Int).toNat K=K (.sl 1 (nI u)):=λ {R K}=>zd1 (by rw [pm]; exact zj5 huj)
 have hud:(List.map (λ u=>D.sl 1 (nI u)) us).length=us.length:=pf _;unfold zyn;refine (ydx u24 zma zlg s49 N k us (nI o) i).trans ?_;rw [zgt,z6 hil,cond_true,yy,Bool.and_self,qw,Nat.beq_refl,qw,hoi,z73,xo];simp only [decide_true,cond_true,hud,z6 hj,yy,Bool.and_self,qw];rw [huj2,zz2,xo];simp only [cells3,Bool.true_or,cond_true];rw [zgt u,g3]
 -- the inner loop
 have h:=zf3 (λ m j (o:List Nat)=>LP cx (zdr u24 zma zlg s49) N 19 0 13 m [(6,V.d (D.sl 1 (xi us))),(9,V.ptr 9 0),(10,V.func 47 [V.ptr 9 0]),(11,V.d (D.int .i64 (i:Int))),(42,V.d (D.sl 1 (nI u))),(43,V.d (D.int .i64 (u.length:Int))),(44,V.d (D.int .i64 j))] [(9,Ob.val 1 (V.slo 28 1 (nI o).length)),(28,Ob.row (nI o))] (AL cx (zdr u24 zma zlg s49) N 19 0 10 13 (inK cx (zdr u24 zma zlg s49) N 19 0 10 k (AK cx (zdr u24 zma zlg s49) N 19 0 10 (EK cx 19 0)))))
  u Sp.addN (λ _ o=>o.Nodup∧∀ x∈o,x<us.length) (λ o=>zyn N k us o (IntKind.i64.wrap ((i:Int)+1))) (Nat.lt_of_lt_of_le (hs u hmem) hN)
  (λ m a x o ha hx hI=>by
   have hxl:x<us.length:=hU u hmem x (po hx);have hol:=zly hI.1 hI.2;obtain ⟨a1,a2,_⟩:=zst (i:=x) hI.1;refine ⟨?_,a1,λ y hy=>?_⟩
   ·refine (z8j u24 zma zlg s49 N k m us u (nI o) i a).trans ?_;have hux:∀ {R:Type} {K:D→Option R},za (List.map (λ k:Nat=>D.int .i64 (k:Int)) u) (a:Int).toNat K=K (.int .i64 (x:Int)):=λ {R K}=>by
     have:=zd0 (l:=u) (i:=(a:Int).toNat) (K:=K);rw [pm,hx] at this;rw [pm];exact this
    have hul2:(List.map (λ k:Nat=>D.int .i64 (k:Int)) u).length=u.length:=pf _;simp only [z6 ha,cond_true,hul2,yy,Bool.and_self,qw];rw [hux,z73,xo];simp only [decide_true,cond_true];rw [z69 (by omega),v6,Nat.beq_refl,qw]
    rfl
   ·rcases (a2 y).1 hy with h | h
    ·exact hI.2 y h
    ·omega)
  (λ m o=>by
   refine (z8j u24 zma zlg s49 N k m us u (nI o) i u.length).trans ?_;rw [yj,cond_false];rfl) (s:=o) ⟨hn,hl⟩ (k:=N) (hs u hmem)
 refine Eq.trans ?_ (h.trans ?_)
 ·rw [←zgt o];rfl
 ·have:∀ (u o:List Nat),u.foldl Sp.addN o=vy o u:=λ u=>by
   induction u with
   | nil=>intro o; rfl
   | cons a u ih=>intro o; exact ih _
  rw [this];rfl
theorem zzd(N:Nat)(hN:N≤4294967296)(us:List (List Nat))(hU:zik us)(hs:∀ u∈us,u.length<N)(hul:us.length<4294967295):∀ (f i k:Nat) (o:List Nat),us.length≤f+i→i≤o.length→o.Nodup→(∀ x∈o,x<us.length)→f<k →
  zyn N k us o i=some (.ret (mk2 ((vf ((zez us f i o).map λ k:Nat=>(k:Int))).map (.int .i64),0)),[])
 | f,i,k,o,hf,hi,hn,hl,hk=>by
  obtain ⟨k,rfl⟩:∃ k',k=k'+1:=⟨k - 1,by omega⟩
  have hol:=zly hn hl;cases hj:o[i]? with
  | none=>
   have:o.length≤i:=List.getElem?_eq_none_iff.1 hj;obtain rfl:i=o.length:=by omega
   have e:zez us f o.length o=o:=by
    cases f with
    | zero=>rfl
    | succ f=>unfold zez; rw [hj]
   rw [e];exact ydd N k us o (by omega)
  | some j=>
   have hil:=(pj.1 hj).1;cases f with
   | zero=>omega
   | succ f=>
    have hjl:=hl j (po hj);obtain ⟨h1,h2,r,h3⟩:=zii (Sp.row us j) hn;rw [z8q N k hN us hU hs hul o i j hj hn hl,xq (show i<o.length from hil) (by omega)]
    have e:zez us (f+1) i o=zez us f (i+1) (vy o (Sp.row us j)):=by
     rw [zez,hj]
    rw [e];exact zzd N hN us hU hs hul f (i+1) k _ (by omega) (by rw [h3]; simp; omega) h1 (λ x hx=>by
     rcases (h2 x).1 hx with h | h
     ·exact hl x h
     ·exact hU.row h) (by omega)
theorem m19(l:List T)(nm:List UInt8)(hg:zbg l=true):zh cx 19 [.d (.sl 5 (T.ds l)),.d (.str nm)] []=some (.ret (mk2 (nI (zav l nm).1,(zav l nm).2)),[]):=by
 unfold zav;obtain ⟨h1,h2,h3⟩:=wv.1 hg;have hlb:=zit l;have hl:l.length≤65536:=by omega
 refine zk zyq (N:=l.length+1) ?_;rw [yge,zsy hg,v6];unfold zbd;cases hw:decide (Sp.wr l=0)
 ·simp only [cond_false,hw,Bool.not_false,cond_true];rfl
 ·obtain ⟨hd,hn⟩:=wr0 (pc hw);have hix:zma (.sl 5 (T.ds l)) nm=some (y8 (λ t:T=>decide (t.nm=nm)) l):=by unfold zma; rw [z2m h1 h2]; rfl
  have hul:=zfu l;have hix2:y8 (λ t:T=>decide (t.nm=nm)) l=match zcr (nmL l) nm with | some s=>(s:Int) | none=>-1:=by
   unfold y8 zcr nmL;have:∀ (l:List T) (i:Nat),ym (λ t:T=>decide (t.nm=nm)) l i=ym (λ t=>decide (nm=t)) (l.map T.nm) i:=λ l=>by
    induction l with
    | nil=>intro i; rfl
    | cons t l ih=>
     intro i;have e:decide (t.nm=nm)=decide (nm=t.nm):=by rw [Bool.eq_iff_iff,decide_eq_true_iff,decide_eq_true_iff]; exact eq_comm
     rw [List.map_cons,ym,ym,ih,e]
   rw [this];cases ym (λ t=>decide (nm=t)) (l.map T.nm) 0 <;> rfl
  simp only [cond_true,decide_true,Bool.not_true,cond_false];rw [hix,v6,hix2];rcases z5b (nm:=nm) hn with ⟨_,hb⟩ | ⟨_,s,hb,hs,_⟩
  ·rw [hb]; rfl
  ·rw [hb];have e0:decide ((s:Int)<0)=false:=pb (by omega)
   simp only [e0,cond_false];have hus:∀ u∈zdt l,u.length<l.length+1:=λ u hu=>by
    obtain ⟨t,_,rfl⟩:=List.mem_map.1 hu;have:=ze8 (λ k=>Sp.mem ((nmL l).getD k []) (xk [] [] t.kids)) (nmL l).length;exact Nat.lt_of_le_of_lt this (by rw [zd2]; omega)
   have hlt:∀ x∈[s],x<(zdt l).length:=λ x hx=>by rw [List.mem_singleton] at hx; rw [hul]; omega
   have h:=zzd (l.length+1) (by omega) (zdt l) (zfd l) hus (by omega) l.length 0 (l.length+1) [s] (by omega) (by simp) (by simp) hlt (by omega)
   refine Eq.trans ?_ (h.trans ?_)
   ·rfl
   ·obtain ⟨b1,b2⟩:=z45 (zfd l) (s:=s) (by rw [hul]; exact hs) l.length 0 [s] (by omega) (by simp) (by simp) (by simp) (λ x hx=>by rw [List.mem_singleton] at hx; subst hx; exact .here) (λ i j hi=>by omega)
    have:=@zuq (zez (zdt l) l.length 0 [s]) l.length (λ k=>@decide (Reach (zdt l) s k) (Classical.propDecidable _)) b1 (λ k=>by
     rw [b2 k,@decide_eq_true_iff _ (Classical.propDecidable _)];exact ⟨λ h=>⟨by have:=h.lt (zfd l) (by rw [hul]; exact hs); rwa [hul] at this,h⟩,λ h=>h.2⟩)
    rw [this];unfold nI;rw [List.map_map];rfl
theorem yd4(c:D→Int→Option Int)(n:Nat)(l:List Nat)(i:Int):zl cx (zt 84 zcv (λ q=>c q.1 q.2) mkI (CK.plain zn)) n 48 [.d (.sl 1 (nI l)),.d (.int .i64 i)] []=zc (c (D.sl 1 (List.map (λ k:Nat=>D.int .i64 (k:Int)) l),i).fst (D.sl 1 (List.map (λ k:Nat=>D.int .i64 (k:Int)) l),i).snd) λ b=>some (Out.ret (V.d (D.bool (decide ((0:Int)≤b)))),[]):=by kernel_rfl
theorem ygc(v:D→Option (List D×Int))(h:D→Int→Option Bool)(n:Nat)(l:List T):zl cx (zax v h) n 21 [.d (.sl 5 (T.ds l))] []=zc (v (D.sl 5 (T.ds l))) λ b=>bif !decide (b.snd=(0:Int)) then some (Out.ret (V.tup [V.d (D.sl 1 []),V.d (D.int .i64 b.snd)]),[]) else LP cx (zax v h) n 21 0 6 n [(4,V.d (D.sl 1 b.1)),(6,V.sl 1 [] 6),(20,V.d (D.int .i64 (↑(T.ds l).length:Int))),(21,V.d (D.int .i64 (0:Int)))] [(6,Ob.tok 0)] (AK cx (zax v h) n 21 0 6 (EK cx 21 0)):=by kernel_rfl
theorem ydw(v:D→Option (List D×Int))(h:D→Int→Option Bool)(n k:Nat)(l:List T)(us:List (List Nat))(L:List D)(i:Int):LP cx (zax v h) n 21 0 6 (k+1) [(4,V.d (D.sl 1 (xi us))),(6,V.sl 1 L 6),(20,V.d (D.int .i64 (l.length:Int))),(21,V.d (D.int .i64 i))] [(6,Ob.tok L.length)] (AK cx (zax v h) n 21 0 6 (EK cx 21 0))=bif decide (i<(↑l.length:Int)) then LP cx (zax v h) n 21 0 10 n [(4,V.d (D.sl 1 (List.map (λ u=>D.sl 1 (nI u)) us))),(6,V.sl 1 L 6),(7,V.d (D.int .i64 i)),(8,V.d (D.bool false)),(20,V.d (D.int .i64 (↑l.length:Int))),(21,V.d (D.int .i64 i)),(24,V.d (D.sl 1 (List.map (λ u=>D.sl 1 (nI u)) us))),(25,V.d (D.int .i64 (↑(List.map (λ u=>D.sl 1 (nI u)) us).length:Int))),(26,V.d (D.int .i64 (0:Int)))] [(6,Ob.tok L.length)] (AL cx (zax v h) n 21 0 6 10 (inK cx (zax v h) n 21 0 6 k (AK cx (zax v h) n 21 0 6 (EK cx 21 0)))) else some (Out.ret (V.tup [V.d (D.sl 1 L),V.d (D.int .i64 (0:Int))]),[]):=by kernel_rfl
theorem z8d(v:D→Option (List D×Int))(h:D→Int→Option Bool)(n k m:Nat)(us:List (List Nat))(L:List D)(q i j:Int)(a:Bool):LP cx (zax v h) n 21 0 10 (m+1) [(4,V.d (D.sl 1 (xi us))),(6,V.sl 1 L 6),(7,V.d (D.int .i64 i)),(8,V.d (D.bool a)),(20,V.d (D.int .i64 q)),(21,V.d (D.int .i64 i)),(24,V.d (D.sl 1 (xi us))),(25,V.d (D.int .i64 (us.length:Int))),(26,V.d (D.int .i64 j))] [(6,Ob.tok L.length)] (AL cx (zax v h) n 21 0 6 10 (inK cx (zax v h) n 21 0 6 k (AK cx (zax v h) n 21 0 6 (EK cx 21 0))))=bif decide (j<(↑us.length:Int)) then zb (decide (0≤j)&&decide (j<(↑(List.map (λ u=>D.sl 1 (nI u)) us).length:Int))) (za (List.map (λ u=>D.sl 1 (nI u)) us) j.toNat λ y=>za y.cells 0 λ c=>match c with
 | D.sl s l=>bif s.beq (cx.P.cellsOf 3)||l.isEmpty then bif a then LP cx (zax v h) n 21 0 10 m [(4,V.d (D.sl 1 (List.map (λ u=>D.sl 1 (nI u)) us))),(6,V.sl 1 L 6),(7,V.d (D.int .i64 i)),(8,V.d (D.bool true)),(20,V.d (D.int .i64 q)),(21,V.d (D.int .i64 i)),(24,V.d (D.sl 1 (List.map (λ u=>D.sl 1 (nI u)) us))),(25,V.d (D.int .i64 (↑us.length:Int))),(26,V.d (D.int .i64 (IntKind.i64.wrap (j+(1:Int)))))] [(6,Ob.tok L.length)] (AL cx (zax v h) n 21 0 6 10 (inK cx (zax v h) n 21 0 6 k (AK cx (zax v h) n 21 0 6 (EK cx 21 0)))) else bif !decide (j=i) then zc (h (D.sl 1 l,i).fst (D.sl 1 l,i).snd) λ b=>LP cx (zax v h) n 21 0 10 m [(4,V.d (D.sl 1 (List.map (λ u=>D.sl 1 (nI u)) us))),(6,V.sl 1 L 6),(7,V.d (D.int .i64 i)),(8,V.d (D.bool b)),(20,V.d (D.int .i64 q)),(21,V.d (D.int .i64 i)),(24,V.d (D.sl 1 (List.map (λ u=>D.sl 1 (nI u)) us))),(25,V.d (D.int .i64 (↑us.length:Int))),(26,V.d (D.int .i64 (IntKind.i64.wrap (j+(1:Int)))))] [(6,Ob.tok L.length)] (AL cx (zax v h) n 21 0 6 10 (inK cx (zax v h) n 21 0 6 k (AK cx (zax v h) n 21 0 6 (EK cx 21 0)))) else LP cx (zax v h) n 21 0 10 m [(4,V.d (D.sl 1 (List.map (λ u=>D.sl 1 (nI u)) us))),(6,V.sl 1 L 6),(7,V.d (D.int .i64 i)),(8,V.d (D.bool false)),(20,V.d (D.int .i64 q)),(21,V.d (D.int .i64 i)),(24,V.d (D.sl 1 (List.map (λ u=>D.sl 1 (nI u)) us))),(25,V.d (D.int .i64 (↑us.length:Int))),(26,V.d (D.int .i64 (IntKind.i64.wrap (j+(1:Int)))))] [(6,Ob.tok L.length)] (AL cx (zax v h) n 21 0 6 10 (inK cx (zax v h) n 21 0 6 k (AK cx (zax v h) n 21 0 6 (EK cx 21 0)))) else none
 | x=>none) else bif !a then zb (decide (L.length=L.length)&&decide (L.length+[D.int .i64 i].length≤4294967296)) (LP cx (zax v h) n 21 0 6 k [(4,V.d (D.sl 1 (List.map (λ u=>D.sl 1 (nI u)) us))),(6,V.sl 1 (L++[D.int .i64 i]) 6),(20,V.d (D.int .i64 q)),(21,V.d (D.int .i64 (IntKind.i64.wrap (i+(1:Int)))))] [(6,Ob.tok (L.length+[D.int .i64 i].length))] (AK cx (zax v h) n 21 0 6 (EK cx 21 0))) else LP cx (zax v h) n 21 0 6 k [(4,V.d (D.sl 1 (List.map (λ u=>D.sl 1 (nI u)) us))),(6,V.sl 1 L 6),(20,V.d (D.int .i64 q)),(21,V.d (D.int .i64 (IntKind.i64.wrap (i+(1:Int)))))] [(6,Ob.tok L.length)] (AK cx (zax v h) n 21 0 6 (EK cx 21 0)):=by kernel_rfl
theorem ygb(v:D→Option (List D×Int))(h:D→Int→Option Bool)(n:Nat)(l:List T):zl cx (yg v h) n 22 [.d (.sl 5 (T.ds l))] []=zc (v (D.sl 5 (T.ds l))) λ b=>bif !decide (b.snd=(0:Int)) then some (Out.ret (V.tup [V.d (D.sl 1 []),V.d (D.int .i64 b.snd)]),[]) else LP cx (yg v h) n 22 0 6 n [(0,V.d (D.sl 5 (T.ds l))),(4,V.d (D.sl 1 b.1)),(6,V.sl 1 [] 6),(7,V.d (D.int .i64 (0:Int)))] [(6,Ob.tok 0)] (AK cx (yg v h) n 22 0 6 (EK cx 22 0)):=by kernel_rfl
theorem ydv(v:D→Option (List D×Int))(h:D→Int→Option Bool)(n k:Nat)(l:List T)(us:List (List Nat))(L:List D)(i:Int):LP cx (yg v h) n 22 0 6 (k+1) [(0,V.d (D.sl 5 (T.ds l))),(4,V.d (D.sl 1 (xi us))),(6,V.sl 1 L 6),(7,V.d (D.int .i64 i))] [(6,Ob.tok L.length)] (AK cx (yg v h) n 22 0 6 (EK cx 22 0))=bif decide (i<(↑(T.ds l).length:Int)) then LP cx (yg v h) n 22 0 10 n [(0,V.d (D.sl 5 (T.ds l))),(4,V.d (D.sl 1 (List.map (λ u=>D.sl 1 (nI u)) us))),(6,V.sl 1 L 6),(7,V.d (D.int .i64 i)),(8,V.d (D.bool true)),(9,V.d (D.int .i64 (0:Int)))] [(6,Ob.tok L.length)] (AL cx (yg v h) n 22 0 6 10 (inK cx (yg v h) n 22 0 6 k (AK cx (yg v h) n 22 0 6 (EK cx 22 0)))) else some (Out.ret (V.tup [V.d (D.sl 1 L),V.d (D.int .i64 (0:Int))]),[]):=by kernel_rfl
theorem z8c(v:D→Option (List D×Int))(h:D→Int→Option Bool)(n k m:Nat)(l:List T)(us:List (List Nat))(L:List D)(i j:Int)(a:Bool):LP cx (yg v h) n 22 0 10 (m+1) [(0,V.d (D.sl 5 (T.ds l))),(4,V.d (D.sl 1 (xi us))),(6,V.sl 1 L 6),(7,V.d (D.int .i64 i)),(8,V.d (D.bool a)),(9,V.d (D.int .i64 j))] [(6,Ob.tok L.length)] (AL cx (yg v h) n 22 0 6 10 (inK cx (yg v h) n 22 0 6 k (AK cx (yg v h) n 22 0 6 (EK cx 22 0))))=bif decide (j<(↑(T.ds l).length:Int)) then bif !decide (j=i) then zb (decide (0≤j)&&decide (j<(↑(List.map (λ u=>D.sl 1 (nI u)) us).length:Int))) (za (List.map (λ u=>D.sl 1 (nI u)) us) j.toNat λ y=>za y.cells 0 λ c=>match c with
 | D.sl s l_1=>bif s.beq (cx.P.cellsOf 3)||l_1.isEmpty then zc (h (D.sl 1 l_1,i).fst (D.sl 1 l_1,i).snd) λ b=>bif b then LP cx (yg v h) n 22 0 10 m [(0,V.d (D.sl 5 (T.ds l))),(4,V.d (D.sl 1 (List.map (λ u=>D.sl 1 (nI u)) us))),(6,V.sl 1 L 6),(7,V.d (D.int .i64 i)),(8,V.d (D.bool false)),(9,V.d (D.int .i64 (IntKind.i64.wrap (j+(1:Int)))))] [(6,Ob.tok L.length)] (AL cx (yg v h) n 22 0 6 10 (inK cx (yg v h) n 22 0 6 k (AK cx (yg v h) n 22 0 6 (EK cx 22 0)))) else LP cx (yg v h) n 22 0 10 m [(0,V.d (D.sl 5 (T.ds l))),(4,V.d (D.sl 1 (List.map (λ u=>D.sl 1 (nI u)) us))),(6,V.sl 1 L 6),(7,V.d (D.int .i64 i)),(8,V.d (D.bool a)),(9,V.d (D.int .i64 (IntKind.i64.wrap (j+(1:Int)))))] [(6,Ob.tok L.length)] (AL cx (yg v h) n 22 0 6 10 (inK cx (yg v h) n 22 0 6 k (AK cx (yg v h) n 22 0 6 (EK cx 22 0)))) else none
 | x=>none) else LP cx (yg v h) n 22 0 10 m [(0,V.d (D.sl 5 (T.ds l))),(4,V.d (D.sl 1 (List.map (λ u=>D.sl 1 (nI u)) us))),(6,V.sl 1 L 6),(7,V.d (D.int .i64 i)),(8,V.d (D.bool a)),(9,V.d (D.int .i64 (IntKind.i64.wrap (j+(1:Int)))))] [(6,Ob.tok L.length)] (AL cx (yg v h) n 22 0 6 10 (inK cx (yg v h) n 22 0 6 k (AK cx (yg v h) n 22 0 6 (EK cx 22 0)))) else bif a then zb (decide (L.length=L.length)&&decide (L.length+[D.int .i64 i].length≤4294967296)) (LP cx (yg v h) n 22 0 6 k [(0,V.d (D.sl 5 (T.ds l))),(4,V.d (D.sl 1 (List.map (λ u=>D.sl 1 (nI u)) us))),(6,V.sl 1 (L++[D.int .i64 i]) 6),(7,V.d (D.int .i64 (IntKind.i64.wrap (i+(1:Int)))))] [(6,Ob.tok (L.length+[D.int .i64 i].length))] (AK cx (yg v h) n 22 0 6 (EK cx 22 0))) else LP cx (yg v h) n 22 0 6 k [(0,V.d (D.sl 5 (T.ds l))),(4,V.d (D.sl 1 (List.map (λ u=>D.sl 1 (nI u)) us))),(6,V.sl 1 L 6),(7,V.d (D.int .i64 (IntKind.i64.wrap (i+(1:Int)))))] [(6,Ob.tok L.length)] (AK cx (yg v h) n 22 0 6 (EK cx 22 0)):=by kernel_rfl
def x84(x:D)(a:Int):Option Int:=match x with | .sl 1 L=>zc (zh1 L) λ l=>zb (yd l) (some (y8 (λ x:Nat=>decide (a=(x:Int))) l)) | _=>none
theorem z8n{l:List Nat}{a:Int}(h:yd l=true):x84 (.sl 1 (nI l)) a=some (y8 (λ x:Nat=>decide (a=(x:Int))) l):=by
 show zc (zh1 (nI l)) _=_;rw [zf0,v6,h]; rfl
theorem ye4(l:List Nat)(a:Int)(hl:yd l=true):zh cx 48 [.d (.sl 1 (nI l)),.d (.int .i64 a)] []=some (.ret (mkB (vu a l)),[]):=by
 have hk:knows cx (zt 84 zcv (λ q=>x84 q.1 q.2) mkI (CK.plain zn)).S (zh cx):=zj zm λ q x b hd h hb=>by
  unfold x84 at hb;split at hb
  ·rename_i L hL;obtain ⟨l,hl,hb⟩:=zd hb;obtain ⟨h1,hb⟩:=ze hb;cases hb;rw [zaf h,hL,zc2 hl];exact m84 l x.2 h1
  ·cases hb
 refine zk hk (N:=0) ?_;refine (yd4 x84 0 l a).trans ?_;show zc (x84 (.sl 1 (nI l)) a) _=_;rw [z8n hl,v6,zgy];have:(l.any λ x:Nat=>decide (a=(x:Int)))=vu a l:=by
  unfold vu;congr 1;funext x;by_cases h:a=(x:Int)
  ·rw [pa h,pa h.symm]
  ·rw [pb h,pb (λ e=>h e.symm)]
 rw [this];rfl
theorem z01{S:CK R1}(hS:knows cx S.S (zh cx)):knows cx (zt 48 zcv (λ q=>h50 q.1 q.2) mkB S).S (zh cx):=zj hS λ a q b hd h hb=>by
 obtain ⟨l,h1,h2,rfl⟩:=zvn hb;rw [zaf h,h1];exact ye4 l q.2 h2
theorem z2b:knows cx (zax u24 h50).S (zh cx):=zj (z01 zm) λ a q b hd h hb=>zq2 h hb
def vw(us:List (List Nat))(i:Nat):Nat→Nat→Bool→Bool
 | 0,_,a=>a
 | d+1,j,a=>vw us i d (j+1) (a||(!decide (j=i)&&decide (i∈Sp.row us j)))
def Sp.free(l:List T):List Nat×Int:=bif decide (Sp.wr l=0) then (xn (λ i=>!vw (zdt l) i l.length 0 false) l.length,0) else ([],Sp.wr l)
theorem zv8(j i:Nat):decide ((j:Int)=(i:Int))=decide (j=i):=by
 rw [Bool.eq_iff_iff,decide_eq_true_iff,decide_eq_true_iff]; omega
def L21(N k:Nat)(us:List (List Nat))(q i:Int)(L:List D):Option R1:=
 LP cx (zax u24 h50) N 21 0 6 k [(4,V.d (D.sl 1 (xi us))),(6,V.sl 1 L 6),(20,V.d (D.int .i64 q)),(21,V.d (D.int .i64 i))] [(6,Ob.tok L.length)] (AK cx (zax u24 h50) N 21 0 6 (EK cx 21 0))
def z5q(N k m:Nat)(us:List (List Nat))(q i j:Int)(a:Bool)(L:List D):Option R1:=
 LP cx (zax u24 h50) N 21 0 10 m [(4,V.d (D.sl 1 (xi us))),(6,V.sl 1 L 6),(7,V.d (D.int .i64 i)),(8,V.d (D.bool a)),(20,V.d (D.int .i64 q)),(21,V.d (D.int .i64 i)),(24,V.d (D.sl 1 (xi us))),(25,V.d (D.int .i64 (us.length:Int))),(26,V.d (D.int .i64 j))] [(6,Ob.tok L.length)] (AL cx (zax u24 h50) N 21 0 6 10 (inK cx (zax u24 h50) N 21 0 6 k (AK cx (zax u24 h50) N 21 0 6 (EK cx 21 0))))
theorem zzg(N k:Nat)(us:List (List Nat))(hul:us.length<4294967296)(hs:∀ u∈us,yd u=true)(q:Int)(i:Nat)(L:List D)(hL:L.length<4294967296):∀ (d j m:Nat) (a:Bool),j+d=us.length→d<m →
  z5q N k m us q i j a L=L21 N k us q (IntKind.i64.wrap ((i:Int)+1)) (bif vw us i d j a then L else L++[.int .i64 (i:Int)])
 | 0,j,m,a,hj,hm=>by
  obtain ⟨m,rfl⟩:∃ k',m=k'+1:=⟨m - 1,by omega⟩
  obtain rfl:j=us.length:=by omega
  unfold z5q;refine (z8d u24 h50 N k m us L q i us.length a).trans ?_;rw [yj,cond_false];unfold vw;cases a
  ·rw [Bool.not_false,cond_true,cond_false,pa (p:=L.length=L.length) rfl,pa (p:=L.length+[D.int .i64 (i:Int)].length≤4294967296) (by simp only [List.length_cons,List.length_nil]; omega)]
   unfold L21;rw [pe];rfl
  ·rfl
 | d+1,j,m,a,hj,hm=>by
  obtain ⟨m,rfl⟩:∃ k',m=k'+1:=⟨m - 1,by omega⟩
  have hjl:j<us.length:=by omega
  have huj:=pr hjl;have hsu:=hs _ (List.getElem_mem hjl);generalize us[j]=u at huj hsu;have g3:Sp.row us j=u:=by unfold Sp.row; rw [List.getD_eq_getElem?_getD,huj]; rfl
  have huj2:∀ {R:Type} {K:D→Option R},za (List.map (λ u=>D.sl 1 (nI u)) us) (j:Int).toNat K=K (.sl 1 (nI u)):=λ {R K}=>zd1 (by rw [pm]; exact zj5 huj)
  have hud:(List.map (λ u=>D.sl 1 (nI u)) us).length=us.length:=pf _;have ih:=zzg N k us hul hs q i L hL d (j+1) m (a||(!decide (j=i)&&decide (i∈u))) (by omega) (by omega)
  unfold vw;rw [g3,←ih,←xq hjl hul];unfold z5q;refine (z8d u24 h50 N k m us L q i j a).trans ?_;simp only [z6 hjl,cond_true,hud,yy,Bool.and_self,qw];rw [huj2,zz2,xo];simp only [cells3,Bool.true_or,cond_true];cases a
  ·rw [cond_false,zv8,zxk hsu,v6,zon];cases decide (j=i) <;> cases decide (i∈u) <;> rfl
  ·rfl
theorem z3o(N:Nat)(l:List T)(us:List (List Nat))(hul:us.length<4294967296)(hll:us.length=l.length)(hN:us.length<N)(hs:∀ u∈us,yd u=true):∀ (d i k:Nat),i+d=us.length→d<k →
  L21 N k us l.length i (nI (xn (λ i=>!vw us i us.length 0 false) i))=some (.ret (mk2 (nI (xn (λ i=>!vw us i us.length 0 false) us.length),0)),[])
 | 0,i,k,hi,hk=>by
  obtain ⟨k,rfl⟩:∃ k',k=k'+1:=⟨k - 1,by omega⟩
  obtain rfl:i=us.length:=by omega
  unfold L21;refine (ydw u24 h50 N k l us _ us.length).trans ?_;rw [hll,yj,cond_false];rfl
 | d+1,i,k,hi,hk=>by
  obtain ⟨k,rfl⟩:∃ k',k=k'+1:=⟨k - 1,by omega⟩
  have hil:i<us.length:=by omega
  have ih:=z3o N l us hul hll hN hs d (i+1) k (by omega) (by omega)
  have hsl:=ze8 (λ i=>!vw us i us.length 0 false) i;rw [zkd] at ih;have hb:=zzg N k us hul hs l.length i (nI (xn (λ i=>!vw us i us.length 0 false) i)) (by rw [zgt]; omega) us.length 0 N false (by omega) hN
  have e:L21 N (k+1) us l.length i (nI (xn (λ i=>!vw us i us.length 0 false) i))=z5q N k N us l.length i 0 false (nI (xn (λ i=>!vw us i us.length 0 false) i)):=by
   unfold L21 z5q;refine (ydw u24 h50 N k l us _ i).trans ?_;rw [←hll,z6 hil,cond_true,show (List.map (λ u=>D.sl 1 (nI u)) us).length=us.length from pf _];rfl
  rw [e];refine hb.trans ?_;rw [xq hil hul];refine Eq.trans ?_ ih;cases vw us i us.length 0 false
  ·have h4:∀ us:List Nat,nI (us++[i])=nI us++[D.int .i64 (i:Int)]:=λ us=>by unfold nI; rw [List.map_append]; rfl
   simp only [Bool.not_false,cond_true,cond_false];rw [h4]
  ·rfl
theorem m21(l:List T)(hg:zbg l=true):zh cx 21 [.d (.sl 5 (T.ds l))] []=some (.ret (mk2 (nI (Sp.free l).1,(Sp.free l).2)),[]):=by
 unfold Sp.free;obtain ⟨h1,h2,h3⟩:=wv.1 hg;have hl:=yh h1;have hul:=zfu l;refine zk z2b (N:=l.length+1) ?_;rw [ygc,zsy hg,v6];unfold zbd;cases hw:decide (Sp.wr l=0)
 ·simp only [cond_false,hw,Bool.not_false,cond_true];rfl
 ·simp only [cond_true,decide_true,Bool.not_true,cond_false];have h:=z3o (l.length+1) l (zdt l) (by omega) hul (by omega) (zli hl) l.length 0 (l.length+1) (by omega) (by omega)
  rw [hul] at h;refine Eq.trans ?_ h;rw [zo];rfl
def L22(N k:Nat)(l:List T)(us:List (List Nat))(i:Int)(L:List D):Option R1:=
 LP cx (yg u24 h50) N 22 0 6 k [(0,V.d (D.sl 5 (T.ds l))),(4,V.d (D.sl 1 (xi us))),(6,V.sl 1 L 6),(7,V.d (D.int .i64 i))] [(6,Ob.tok L.length)] (AK cx (yg u24 h50) N 22 0 6 (EK cx 22 0))
def z5p(N k m:Nat)(l:List T)(us:List (List Nat))(i j:Int)(a:Bool)(L:List D):Option R1:=
 LP cx (yg u24 h50) N 22 0 10 m [(0,V.d (D.sl 5 (T.ds l))),(4,V.d (D.sl 1 (xi us))),(6,V.sl 1 L 6),(7,V.d (D.int .i64 i)),(8,V.d (D.bool a)),(9,V.d (D.int .i64 j))] [(6,Ob.tok L.length)] (AL cx (yg u24 h50) N 22 0 6 10 (inK cx (yg u24 h50) N 22 0 6 k (AK cx (yg u24 h50) N 22 0 6 (EK cx 22 0))))
theorem zzf(N k:Nat)(l:List T)(us:List (List Nat))(hul:us.length<4294967296)(hll:us.length=l.length)(hs:∀ u∈us,yd u=true)(i:Nat)(L:List D)(hL:L.length<4294967296):∀ (d j m:Nat) (a:Bool),j+d=us.length→d<m →
  z5p N k m l us i j (!a) L=L22 N k l us (IntKind.i64.wrap ((i:Int)+1)) (bif vw us i d j a then L else L++[.int .i64 (i:Int)])
 | 0,j,m,a,hj,hm=>by
  obtain ⟨m,rfl⟩:∃ k',m=k'+1:=⟨m - 1,by omega⟩
  obtain rfl:j=us.length:=by omega
  unfold z5p;refine (z8c u24 h50 N k m l us L i us.length (!a)).trans ?_;rw [zo,hll,yj,cond_false];unfold vw;cases a
  ·rw [Bool.not_false,cond_true,cond_false,pa (p:=L.length=L.length) rfl,pa (p:=L.length+[D.int .i64 (i:Int)].length≤4294967296) (by simp only [List.length_cons,List.length_nil]; omega)]
   unfold L22;rw [pe];rfl
  ·rfl
 | d+1,j,m,a,hj,hm=>by
  obtain ⟨m,rfl⟩:∃ k',m=k'+1:=⟨m - 1,by omega⟩
  have hjl:j<us.length:=by omega
  have huj:=pr hjl;have hsu:=hs _ (List.getElem_mem hjl);generalize us[j]=u at huj hsu;have g3:Sp.row us j=u:=by unfold Sp.row; rw [List.getD_eq_getElem?_getD,huj]; rfl
  have huj2:∀ {R:Type} {K:D→Option R},za (List.map (λ u=>D.sl 1 (nI u)) us) (j:Int).toNat K=K (.sl 1 (nI u)):=λ {R K}=>zd1 (by rw [pm]; exact zj5 huj)
  have hud:(List.map (λ u=>D.sl 1 (nI u)) us).length=us.length:=pf _;have ih:=zzf N k l us hul hll hs i L hL d (j+1) m (a||(!decide (j=i)&&decide (i∈u))) (by omega) (by omega)
  unfold vw;rw [g3,←ih,←xq hjl hul];have hjl2:decide ((j:Int)<(l.length:Int))=true:=z6 (by omega)
  unfold z5p;refine (z8c u24 h50 N k m l us L i j (!a)).trans ?_;simp only [zo,hjl2,z6 hjl,cond_true,hud,yy,Bool.and_self,qw];rw [zv8];cases hji:decide (j=i)
  ·rw [Bool.not_false,cond_true,huj2,zz2,xo];simp only [cells3,Bool.true_or,cond_true];rw [zxk hsu,v6,zon];cases a <;> cases decide (i∈u) <;> rfl
  ·rw [Bool.not_true,cond_false];cases a <;> rfl
theorem z3n(N:Nat)(l:List T)(us:List (List Nat))(hul:us.length<4294967296)(hll:us.length=l.length)(hN:us.length<N)(hs:∀ u∈us,yd u=true):∀ (d i k:Nat),i+d=us.length→d<k →
  L22 N k l us i (nI (xn (λ i=>!vw us i us.length 0 false) i))=some (.ret (mk2 (nI (xn (λ i=>!vw us i us.length 0 false) us.length),0)),[])
 | 0,i,k,hi,hk=>by
  obtain ⟨k,rfl⟩:∃ k',k=k'+1:=⟨k - 1,by omega⟩
  obtain rfl:i=us.length:=by omega
  unfold L22;refine (ydv u24 h50 N k l us _ us.length).trans ?_;rw [zo,hll,yj,cond_false];rfl
 | d+1,i,k,hi,hk=>by
  obtain ⟨k,rfl⟩:∃ k',k=k'+1:=⟨k - 1,by omega⟩
  have hil:i<us.length:=by omega
  have ih:=z3n N l us hul hll hN hs d (i+1) k (by omega) (by omega)
  have hsl:=ze8 (λ i=>!vw us i us.length 0 false) i;rw [zkd] at ih;have hb:=zzf N k l us hul hll hs i (nI (xn (λ i=>!vw us i us.length 0 false) i)) (by rw [zgt]; omega) us.length 0 N false (by omega) hN
  have e:L22 N (k+1) l us i (nI (xn (λ i=>!vw us i us.length 0 false) i))=z5p N k N l us i 0 (!false) (nI (xn (λ i=>!vw us i us.length 0 false) i)):=by
   unfold L22 z5p;refine (ydv u24 h50 N k l us _ i).trans ?_;rw [zo,←hll,z6 hil,cond_true];rfl
  rw [e];refine hb.trans ?_;rw [xq hil hul];refine Eq.trans ?_ ih;cases vw us i us.length 0 false
  ·have h4:∀ us:List Nat,nI (us++[i])=nI us++[D.int .i64 (i:Int)]:=λ us=>by unfold nI; rw [List.map_append]; rfl
   simp only [Bool.not_false,cond_true,cond_false];rw [h4]
  ·rfl
theorem m22(l:List T)(hg:zbg l=true):zh cx 22 [.d (.sl 5 (T.ds l))] []=some (.ret (mk2 (nI (Sp.free l).1,(Sp.free l).2)),[]):=by
 unfold Sp.free;obtain ⟨h1,h2,h3⟩:=wv.1 hg;have hl:=yh h1;have hul:=zfu l;refine zk zsx (N:=l.length+1) ?_;rw [ygb,zsy hg,v6];unfold zbd;cases hw:decide (Sp.wr l=0)
 ·simp only [cond_false,hw,Bool.not_false,cond_true];rfl
 ·simp only [cond_true,decide_true,Bool.not_true,cond_false];have h:=z3n (l.length+1) l (zdt l) (by omega) hul (by omega) (zli hl) l.length 0 (l.length+1) (by omega) (by omega)
  rw [hul] at h;exact h
end Go.Vai
end

/-
  Slice: Uses and Names: the code does it, the document's too. To: Slice: what the frames of the laws stand on.
-/
import Derived.Test.YtmolcgfhgdhgoaaGreatDoorSliPart5
import Derived.ReadAgain
import Derived.OpenShut
set_option linter.all false
noncomputable section
namespace Go.Vai
open Go.Proofs
def zdp(x:D):Option (List D×List D):=zc (zis x) λ l=>zb (decide (v7 l=0)) (some ((nmL l).map .str,nI (List.range l.length)))
def zsn(x:D):Option Int:=zc (zis x) λ l=>zb (!decide (v7 l=0)) (some (v7 l))
def okA(l:List T):Bool:=yn l&&T.oks l&&(l.all λ t=>zg t||ym t)&&decide (x7 l<2147483648)
def zfv(x:D):Option (List D):=zc (qy zr x) λ l=>zb (okA l) (some ((wa [] [] l).map .str))
def s49(l:List D):Option (List D):=zc (zef l) λ zs=>zb (decide (l.length≤4294967296)) (some ((qh zs).map (.int .i64)))
theorem zyq{a:List V}{x:D}{b:List D}(h:qx a=some x)(hb:zfv x=some b):zj cx 52 a []=some (.ret (.d (.sl 1 b)),[]):=by
 obtain ⟨m,hm,hb⟩:=zd hb;obtain ⟨ho,hb⟩:=zf hb;cases hb;obtain ⟨d,rfl,h2,_⟩:=zfy hm;unfold okA at ho;rw [pm,pm,pm] at ho;rw [xv h,(zg4 (λ x t h=>(wv h).1) h2).1];exact m52 m ho.1.1.1 ho.1.1.2 (List.all_eq_true.1 ho.1.2) (pc ho.2)
theorem z7x{l:List T}(h:okA l=true):zfv (.sl 5 (T.ds l))=some ((wa [] [] l).map .str):=by
 have ho:=h;unfold okA at ho;rw [pm,pm,pm] at ho;unfold zfv;rw [zoy (λ t ht=>zij (wx ho.1.1.2 ht)) ho.1.1.1];show zb (okA l) _=_;rw [h]; rfl
theorem z0c{S:CK R1}(hS:knows cx S.S (zj cx)):knows cx (ygf s49 S).S (zj cx):=v8 hS λ a σ q r hd h=>by
 obtain ⟨l,n⟩:=q;unfold z6v at hd;split at hd
 ·cases hd;obtain ⟨l',hl,h⟩:=zd h;obtain ⟨hn,h⟩:=zf h;cases h;obtain ⟨zs,hz,hl⟩:=zd hl;obtain ⟨h1,hl⟩:=zf hl;cases hl;have hn:n=l.length:=pj hn;subst hn;exact m49 l zs hz (pc h1)
 ·cases hd
theorem z0f:knows cx (zbc zdp zfv s49).S (zj cx):=
 zk (zk (z0c zp) λ a q b hd h hb=>zyq h hb) λ a q b hd h hb=>by
  obtain ⟨l,hl,hb⟩:=zd hb;obtain ⟨h1,hb⟩:=zf hb;cases hb;obtain ⟨h0,hg⟩:=zb0 hl;rw [xv h,h0,m51 l hg,h1];rfl
theorem z0g:knows cx (z9a zsn).S (zj cx):=
 zk zp λ a q b hd h hb=>by
  obtain ⟨l,hl,hb⟩:=zd hb;obtain ⟨h1,hb⟩:=zf hb;cases hb;obtain ⟨h0,hg⟩:=zb0 hl;have h2:decide (v7 l=0)=false:=by simpa using h1
  rw [xv h,h0,m51 l hg,h2];rfl
theorem wr0{l:List T}(h:v7 l=0):l.all yz=true∧(nmL l).Nodup:=by
 unfold v7 at h;cases h1:l.all yz <;> rw [h1] at h
 ·simp at h
 ·cases h2:zb7 [] (nmL l) <;> rw [h2] at h
  ·exact ⟨rfl,by have:=zqc (nmL l) [] List.nodup_nil h2; rwa [List.nil_append] at this⟩
  ·simp at h
theorem ztv{t:T}(h:yz t=true):∃ a b,t.kids=[a,b]∧zg a=true∧zg b=true:=by
 obtain ⟨k,nm,kids,nms,pl⟩:=t;unfold yz at h;split at h
 ·rename_i he;cases he;rw [pm,pm,pm] at h;exact ⟨_,_,rfl,h.1.2,h.2⟩
 ·cases h
theorem zwz{t:T}(h:t.ok=true):T.oks t.kids=true∧yn t.kids=true:=by
 obtain ⟨k,nm,kids,nms,pl⟩:=t;simp only [T.ok,pm] at h;exact ⟨h.2,h.1.1.1.2⟩
theorem zm7(t:T):x7 t.kids<zcu t:=by
 obtain ⟨k,nm,kids,nms,pl⟩:=t;simp only [zcu,T.kids]; omega
theorem z5d{l:List T}(hg:zbl l=true)(hd:l.all yz=true){t:T}(ht:t∈l):okA t.kids=true:=by
 obtain ⟨h1,h2,h3⟩:=vp.1 hg;obtain ⟨a,b,he,ha,hb⟩:=ztv (List.all_eq_true.1 hd t ht);obtain ⟨h4,h5⟩:=zwz (wx h2 ht);have h6:=zm7 t;have h7:=zme t;have h8:=zei ht;unfold okA;rw [h4,h5,pa (p:=x7 t.kids<2147483648) (by omega),he]
 simp [ha,hb]
theorem zzc{R α S:Type}(L:Nat→Int→S→Option R)(xs:List α)(step:S→α→S)(I:Nat→S→Prop)(E:S→Option R)(hs:xs.length<4294967296)
  (H:∀ (k j:Nat) x s,j<xs.length→xs[j]?=some x→I j s→L (k+1) j s=L k (IntKind.i64.wrap ((j:Int)+1)) (step s x)∧I (j+1) (step s x)) (HE:∀ k s,I xs.length s→L (k+1) xs.length s=E s) {s:S} (h0:I 0 s) {k:Nat} (hk:xs.length<k) :
  L k 0 s=E (xs.foldl step s):=by
 have key:∀ (d j:Nat) (k:Nat) (s:S),j+d=xs.length→d<k→I j s→L k j s=E ((xs.drop j).foldl step s):=by
  intro d
  induction d with
  | zero=>
   intro j k s hj hk hi;obtain ⟨k,rfl⟩:∃ k',k=k'+1:=⟨k - 1,by omega⟩
   obtain rfl:j=xs.length:=by omega
   rw [HE _ _ hi,List.drop_length]; rfl
  | succ d ih=>
   intro j k s hj hk hi;obtain ⟨k,rfl⟩:∃ k',k=k'+1:=⟨k - 1,by omega⟩
   have hlt:j<xs.length:=by omega
   obtain ⟨h1,h2⟩:=H k j xs[j] s hlt (p4 hlt) hi;rw [h1,IntWalk.i64_in _ (by omega)]
   have e:((j:Int)+1)=((j+1:Nat):Int):=by omega
   rw [e,ih (j+1) k _ (by omega) (by omega) h2,List.drop_eq_getElem_cons hlt]
   rfl
 have:=key xs.length 0 k s (by omega) hk h0
 rw [List.drop_zero] at this;exact this
theorem yah(us:List Nat)(h:us.length≤4294967296):s49 (nI us)=some ((qh (us.map λ k:Nat=>(k:Int))).map (.int .i64)):=by
 unfold s49;rw [zw3];show zb (decide ((nI us).length≤4294967296)) _=_;rw [pa (by unfold nI; rw [ph]; exact h)]
 rfl
theorem z8i(n k:Nat)(l:List T)(names:List (List UInt8))(hnl:names.length<4294967296)(L:List D)(hL:L.length<4294967295)(b:List (List UInt8))(hb:yn b=true)(hbn:b.length<n)(hn:names.Nodup)(hbd:b.Nodup)(i:Int) :
  LP cx (zbc zdp zfv s49) n 24 0 10 n [(4,V.d (D.map (names.map .str) (nI (List.range names.length)))),(6,V.sl 1 L 6),(9,V.slo 9 1 0),(22,V.d (D.sl 5 (T.ds l))),(23,V.d (D.int .i64 (l.length:Int))),(24,V.d (D.int .i64 i)),(30,V.d (D.sl 1 (b.map .str))),(31,V.d (D.int .i64 (b.length:Int))),(32,V.d (D.int .i64 0))] [(6,Ob.tok L.length),(9,Ob.row [])] (AL cx (zbc zdp zfv s49) n 24 0 6 10 (inK cx (zbc zdp zfv s49) n 24 0 6 k (AK cx (zbc zdp zfv s49) n 24 0 6 (EK cx 24 0)))) =
  LP cx (zbc zdp zfv s49) n 24 0 6 k [(4,V.d (D.map (names.map .str) (nI (List.range names.length)))),(6,V.sl 1 (L++[D.sl 1 (nI (zam (λ k=>y4 (names.getD k []) b) names.length))]) 6),(22,V.d (D.sl 5 (T.ds l))),(23,V.d (D.int .i64 (l.length:Int))),(24,V.d (D.int .i64 (IntKind.i64.wrap (i+1))))] [(6,Ob.tok (L++[D.sl 1 (nI (zam (λ k=>y4 (names.getD k []) b) names.length))]).length)] (AK cx (zbc zdp zfv s49) n 24 0 6 (EK cx 24 0)):=by
 have h:=zzc (λ m j (us:List Nat)=>LP cx (zbc zdp zfv s49) n 24 0 10 m [(4,V.d (D.map (names.map .str) (nI (List.range names.length)))),(6,V.sl 1 L 6),(9,V.slo 9 1 (nI us).length),(22,V.d (D.sl 5 (T.ds l))),(23,V.d (D.int .i64 (l.length:Int))),(24,V.d (D.int .i64 i)),(30,V.d (D.sl 1 (b.map .str))),(31,V.d (D.int .i64 (b.length:Int))),(32,V.d (D.int .i64 j))] [(6,Ob.tok L.length),(9,Ob.row (nI us))] (AL cx (zbc zdp zfv s49) n 24 0 6 10 (inK cx (zbc zdp zfv s49) n 24 0 6 k (AK cx (zbc zdp zfv s49) n 24 0 6 (EK cx 24 0)))))
  b (znn names) (λ j us=>us.length≤j)
  (λ us=>LP cx (zbc zdp zfv s49) n 24 0 6 k [(4,V.d (D.map (names.map .str) (nI (List.range names.length)))),(6,V.sl 1 (L++[D.sl 1 ((qh (us.map λ k:Nat=>(k:Int))).map (.int .i64))]) 6),(22,V.d (D.sl 5 (T.ds l))),(23,V.d (D.int .i64 (l.length:Int))),(24,V.d (D.int .i64 (IntKind.i64.wrap (i+1))))] [(6,Ob.tok (L.length+[D.sl 1 ((qh (us.map λ k:Nat=>(k:Int))).map (.int .i64))].length))] (AK cx (zbc zdp zfv s49) n 24 0 6 (EK cx 24 0)))
  (yp hb)
  (λ m j s us hj hs hi=>by
   have hu:(nI us).length=us.length:=by unfold nI; rw [ph]
   have hjb:=yp hb;refine ⟨?_,?_⟩
   ·refine (yab zdp zfv s49 n k m l (names.map .str) (nI (List.range names.length)) L (nI us) b i j).trans ?_;rw [ph,yf hj,y8,wt,po,hs];show (zc (qp (D.str s) (names.map .str) 0) _)=_;rw [zs5];unfold znn zlb;cases hf:xh (λ t=>decide (s=t)) names 0 with
    | none=>rfl
    | some d=>
     obtain ⟨e,x,h1,h2,_⟩:=zky hf;have h3:=(pn.1 h2).1;have h4:nI (us++[d])=nI us++[D.int .i64 (d:Int)]:=by unfold nI; rw [List.map_append]; rfl
     simp only;show (za (nI (List.range names.length)) d λ y=>_)=_;rw [zhj,List.getElem?_range (by omega)]
     show zb (Nat.beq (nI us).length (nI us).length&&decide ((nI us).length+[D.int .i64 (d:Int)].length≤4294967296)) _=_;rw [Nat.beq_refl,pa (p:=(nI us).length+[D.int .i64 (d:Int)].length≤4294967296) (by rw [hu]; simp only [py,pz]; omega),h4,pe]
     rfl
   ·unfold znn;cases zlb names s with
    | none=>simp only; omega
    | some d=>simp only [pe,py,pz]; omega)
  (λ m us hi=>by
   refine (yab zdp zfv s49 n k m l (names.map .str) (nI (List.range names.length)) L (nI us) b i b.length).trans ?_;have hjb:=yp hb;rw [yw,px];show (zc (s49 (nI us)) _)=_;rw [yah us (by omega)]
   have e5:((qh (us.map λ k:Nat=>(k:Int))).map (D.int .i64)).length=(nI us).length:=by unfold nI; rw [ph,zsg,ph,ph]
   show zb (Nat.beq (nI us).length (nI us).length) (zb (Nat.beq (nI us).length ((qh (us.map λ k:Nat=>(k:Int))).map (D.int .i64)).length) (zb (decide (L.length=L.length)&&decide (L.length+[D.sl 1 ((qh (us.map λ k:Nat=>(k:Int))).map (D.int .i64))].length≤4294967296)) _))=_;rw [e5,Nat.beq_refl,pa (p:=L.length=L.length) rfl,pa (p:=L.length+[D.sl 1 ((qh (us.map λ k:Nat=>(k:Int))).map (D.int .i64))].length≤4294967296) (by simp only [py,pz]; omega)]
   rfl) (s:=[]) (Nat.le_refl _) (k:=n) hbn
 refine h.trans ?_;rw [z6d hn hbd];have e:((zam (λ k=>y4 (names.getD k []) b) names.length).map λ k:Nat=>(k:Int)).map (D.int .i64)=nI (zam (λ k=>y4 (names.getD k []) b) names.length):=by
  unfold nI; rw [List.map_map]; rfl
 rw [e,pe]
theorem zha{α:Type}{l:List α}(h:l.length<4294967296):yn l=true:=pa h
theorem zf5(l:List T):(nmL l).length=l.length:=ph _
theorem zsa(a:List (List Nat))(u:List Nat):wc (a++[u])=wc a++[D.sl 1 (nI u)]:=by unfold wc; rw [List.map_append]; rfl
theorem znd{α β:Type}(f:α→β):∀ (l:List α) (acc:List β),l.foldl (λ a x=>a++[f x]) acc=acc++l.map f
 | [],acc=>by simp
 | x::l,acc=>by rw [List.foldl_cons,znd f l]; simp
def mkU(q:List (List Nat)×Int):V:=.tup [.d (.sl 1 (wc q.1)),.d (.int .i64 q.2)]
def zdj(l:List T):List (List Nat)×Int:=bif decide (v7 l=0) then (zep l,0) else ([],v7 l)
theorem m24(l:List T)(hg:zbl l=true):zj cx 24 [.d (.sl 5 (T.ds l))] []=some (.ret (mkU (zdj l)),[]):=by
 unfold zdj;obtain ⟨h1,h2,h3⟩:=vp.1 hg;have hlb:=zgr l;cases hw:decide (v7 l=0)
 ·refine zm z0g (N:=0) ?_;have e:zsn (.sl 5 (T.ds l))=some (v7 l):=by
   unfold zsn; rw [zik hg];show zb (!decide (v7 l=0)) _=_;rw [hw]; rfl
  rw [yf8,e];show (bif !decide (v7 l=0) then _ else _)=_;rw [hw];rfl
 ·have hw0:=pc hw;obtain ⟨hd,hn⟩:=wr0 hw0;obtain ⟨N,hN⟩:∃ N,N=l.length+65537:=⟨_,rfl⟩;refine zm z0f (N:=N) ?_;have e:zdp (.sl 5 (T.ds l))=some ((nmL l).map .str,nI (List.range l.length)):=by
   unfold zdp; rw [zik hg];show zb (decide (v7 l=0)) _=_;rw [hw]; rfl
  rw [yij,e,zu]
  have h:=zj0 (λ k j (us:List (List Nat))=>LP cx (zbc zdp zfv s49) N 24 0 6 k [(4,V.d (D.map ((nmL l).map .str) (nI (List.range (nmL l).length)))),(6,V.sl 1 (wc us) 6),(22,V.d (D.sl 5 (T.ds l))),(23,V.d (D.int .i64 (l.length:Int))),(24,V.d (D.int .i64 j))] [(6,Ob.tok (wc us).length)] (AK cx (zbc zdp zfv s49) N 24 0 6 (EK cx 24 0)))
   l (λ a t=>a++[zg1 (nmL l) t]) (λ j us=>us.length≤j) (λ us=>some (.ret (mkU (us,0)),[])) (yp h1)
   (λ k j x us hj hx hi=>by
    have hmem:=pq hx;have ho:=z5d hg hd hmem;have hjb:=yp h1;have hud:(wc us).length=us.length:=by unfold wc; rw [ph]
    have hgl:=zxa (b:=[]) x.kids [];have hc1:=zm7 x;have hc2:=zme x;have hc3:=zei hmem;have hin:=z8i N k l (nmL l) (by rw [zf5]; omega) (wc us) (by omega) (wa [] [] x.kids) (zha (by simp only [pz] at hgl; omega)) (by simp only [pz] at hgl; omega) hn (zp4 x.kids List.nodup_nil) j
    refine ⟨?_,by simp only [pe,py,pz]; omega⟩
    refine (yfx zdp zfv s49 _ k l ((nmL l).map .str) (nI (List.range (nmL l).length)) (wc us) j).trans ?_;rw [yf hj,zu,yf hj,y8,yh,po,hx];rw [pw,ww,yk];simp only [xu,vk,vj,vi,vh,xm,Bool.and_self];rw [zgm,Bool.true_or,pw,z7x ho];rw [ww,ph,zsa];exact hin)
   (λ k us=>by
    refine (yfx zdp zfv s49 _ k l ((nmL l).map .str) (nI (List.range (nmL l).length)) (wc us) l.length).trans ?_;rw [yw,px];rfl) (s:=[]) (Nat.le_refl _) (k:=N) (by omega)
  rw [znd,List.nil_append,zf5] at h;exact h
theorem m57(l:List T)(hg:zbl l=true)(hd:l.all yz=true)(i k:Nat)(t u:T)(ht:l[i]?=some t)(hu:l[k]?=some u):zj cx 57 [.d (.sl 5 (T.ds l)),.d (.int .i64 i),.d (.int .i64 k)] []=some (.ret (mkB (y4 u.nm (wa [] [] t.kids))),[]):=by
 have hk:knows cx (yge (zca (T.depths l)) p93).S (zj cx):=zsh (m60 _) (zk zp λ a q b hd h hb=>zmy h hb);refine zm hk (N:=0) ?_;obtain ⟨h1,h2,h3⟩:=vp.1 hg;have htm:=pq ht;obtain ⟨a,b,he,ha,hb⟩:=ztv (List.all_eq_true.1 hd t htm);have hok:=(zwz (wx h2 htm)).1;have hc1:=zm7 t;have hc2:=zme t;have hc3:=zei htm;have hdep:=zbv htm;have hdk:T.depths t.kids<t.depth:=by obtain ⟨_,_,_,_,_⟩:=t; simp only [T.depth,T.kids]; omega
 rw [he] at hok hc1 hdk;simp only [T.oks,pm] at hok;simp only [x7] at hc1;simp only [T.depths] at hdk;have hga:=zf8 a [] [];simp only [pz] at hga;have e1:=zud (m:=T.depths l) (t:=a) (b:=[]) (l:=[]) (by omega) hok.1 (zci.2 ⟨by rw [ha]; rfl,by simp only [pz]; omega,by simp only [pz]; omega⟩)
 have e2:=zud (m:=T.depths l) (t:=b) (b:=[]) (l:=xx a [] []) (by omega) hok.2.1 (zci.2 ⟨by rw [hb]; rfl,by simp only [pz]; omega,by omega⟩)
 have hgb:=zf8 b [] (xx a [] []);have e3:p93 (.sl 1 ((xx b [] (xx a [] [])).map .str)) u.nm=some (y4 u.nm (xx b [] (xx a [] []))):=by
  unfold p93; rw [zdb (zha (by omega))]; rfl
 have hi:=(pn.1 ht).1;have hk2:=(pn.1 hu).1;have e4:wa [] [] t.kids=xx b [] (xx a [] []):=by rw [he]; rfl
 rw [e4];refine (yh3 (zca (T.depths l)) p93 0 l i k).trans ?_;have z0:((0:Int)<(((T.ds [a,b]).length:Nat):Int)):=by simp only [zu,py]; omega
 have z1:((1:Int)<(((T.ds [a,b]).length:Nat):Int)):=by simp only [zu,py,pz]; omega
 have n0:(0:Int).toNat=0:=rfl;have n1:(1:Int).toNat=1:=rfl;have g0:[a,b][0]?=some a:=rfl;have g1:[a,b][1]?=some b:=rfl;simp only [zu l,yf hi,yf hk2,y8,Bool.and_self,xm,yh,po,ht,hu,ww,yk,xu,vk,vj,vi,vh,zgm,Bool.true_or,pw,he,pa z0,pa z1,n0,n1,g0,g1,we];have e1':zca (T.depths l) (D.sl 1 []) a.d (D.sl 1 [])=some ((xx a [] []).map .str):=e1;have e2':zca (T.depths l) (D.sl 1 ((xx a [] []).map .str)) b.d (D.sl 1 [])=some ((xx b [] (xx a [] [])).map .str):=e2;simp only [e1',ww,e2',e3];rfl
def w29(x:D):Option Int:=zc (zis x) λ l=>some (v7 l)
def u29(x:D)(i k:Int):Option Bool:=zc (zis x) λ l=>zb (l.all yz&&decide (0≤i)&&decide (0≤k)) (zc l[i.toNat]? λ t=>zc l[k.toNat]? λ u=>some (y4 u.nm (wa [] [] t.kids)))
theorem zxw{a:List V}{q}(h:zzn a=some q):a=[.d q.1,.d (.int .i64 q.2.1),.d (.int .i64 q.2.2)]:=by
 unfold zzn at h; split at h <;> cases h; rfl
theorem z0e:knows cx (zch w29 u29).S (zj cx):=
 zk (zk zp λ a q b hd h hb=>by
  obtain ⟨l,hl,hb⟩:=zd hb;obtain ⟨h1,hb⟩:=zf hb;obtain ⟨t,ht,hb⟩:=zd hb;obtain ⟨u,hu,hb⟩:=zd hb;cases hb;obtain ⟨h0,hg⟩:=zb0 hl;rw [pm,pm] at h1;have hi:=pc h1.1.2;have hk:=pc h1.2;have:=m57 l hg h1.1.1 q.2.1.toNat q.2.2.toNat t u ht hu;rw [Int.toNat_of_nonneg hi,Int.toNat_of_nonneg hk] at this;rw [zxw h,h0];exact this) λ a q b hd h hb=>by
  obtain ⟨l,hl,hb⟩:=zd hb;cases hb;obtain ⟨h0,hg⟩:=zb0 hl;rw [xv h,h0];exact m56 l hg
theorem z41(p:Nat→Bool)(j:Nat):zam p (j+1)=bif p j then zam p j++[j] else zam p j:=by
 unfold zam;rw [List.range_succ,List.filter_append];cases h:p j <;> simp [h]
theorem zuf(p:Nat→Bool)(j:Nat):(zam p j).length≤j:=by
 unfold zam;exact Nat.le_trans (List.length_filter_le ..) (by rw [List.length_range]; exact Nat.le_refl _)
theorem z8h(n k:Nat)(l:List T)(hg:zbl l=true)(hd:l.all yz=true)(L:List D)(hL:L.length<4294967295)(i:Nat)(t:T)(ht:l[i]?=some t):∀ (d j m:Nat),j+d=l.length→d<m →
  LP cx (zch w29 u29) n 29 0 10 m [(0,V.d (D.sl 5 (T.ds l))),(5,V.sl 1 L 5),(6,V.d (D.int .i64 (i:Int))),(7,V.sl 1 (nI (zam (λ k=>y4 ((nmL l).getD k []) (wa [] [] t.kids)) j)) 7),(8,V.d (D.int .i64 (j:Int)))] [(5,Ob.tok L.length),(7,Ob.tok (nI (zam (λ k=>y4 ((nmL l).getD k []) (wa [] [] t.kids)) j)).length)] (AL cx (zch w29 u29) n 29 0 6 10 (inK cx (zch w29 u29) n 29 0 6 k (AK cx (zch w29 u29) n 29 0 6 (EK cx 29 0)))) =
  LP cx (zch w29 u29) n 29 0 6 k [(0,V.d (D.sl 5 (T.ds l))),(5,V.sl 1 (L++[D.sl 1 (nI (zg1 (nmL l) t))]) 5),(6,V.d (D.int .i64 (IntKind.i64.wrap ((i:Int)+1))))] [(5,Ob.tok (L++[D.sl 1 (nI (zg1 (nmL l) t))]).length)] (AK cx (zch w29 u29) n 29 0 6 (EK cx 29 0)):=by
 have hs:=(vp.1 hg).1;have hsl:=yp hs;intro d
 induction d with
 | zero=>
  intro j m hj hm;obtain ⟨m,rfl⟩:∃ k',m=k'+1:=⟨m - 1,by omega⟩
  obtain rfl:j=l.length:=by omega
  rw [yaa,zu,yw,px,pa (p:=L.length=L.length) rfl,pa (p:=L.length+[D.sl 1 (nI (zam (λ k=>y4 ((nmL l).getD k []) (wa [] [] t.kids)) l.length))].length≤4294967296) (by simp only [py,pz]; omega)]
  unfold zg1;rw [zf5,pe];rfl
 | succ d ih=>
  intro j m hj hm;obtain ⟨m,rfl⟩:∃ k',m=k'+1:=⟨m - 1,by omega⟩
  have hjl:j<l.length:=by omega
  have hy:=p4 hjl;generalize l[j]=y at hy;have hih:=ih (j+1) m (by omega) (by omega)
  rw [z41] at hih;have hnm:=zuq hy;have hgd:(nmL l).getD j []=y.nm:=by rw [List.getD_eq_getElem?_getD,hnm]; rfl
  have e:((j:Int)+1)=((j+1:Nat):Int):=by omega
  have eu:u29 (.sl 5 (T.ds l)) (i:Int) (j:Int)=some (y4 y.nm (wa [] [] t.kids)):=by
   unfold u29;rw [zik hg,ww,hd,y8,y8];simp only [Bool.and_self,xm,po,ht,hy,ww]
  have hsl2:=zuf (λ k=>y4 ((nmL l).getD k []) (wa [] [] t.kids)) j;rw [yaa,zu,yf hjl,pw,eu,ww,IntWalk.i64_in _ (by omega),e]
  rw [hgd] at hih;cases hmm:y4 y.nm (wa [] [] t.kids) <;> rw [hmm] at hih
  ·exact hih
  ·rw [pw];rw [pw] at hih;generalize zam (λ k=>y4 ((nmL l).getD k []) (wa [] [] t.kids)) j=us at *;have h4:nI (us++[j])=nI us++[D.int .i64 (j:Int)]:=by unfold nI; rw [List.map_append]; rfl
   have hu:(nI us).length=us.length:=by unfold nI; rw [ph]
   rw [h4,pe] at hih;rw [pa (p:=(nI us).length=(nI us).length) rfl,pa (p:=(nI us).length+[D.int .i64 (j:Int)].length≤4294967296) (by rw [hu]; simp only [py,pz]; omega)]
   exact hih
theorem m29(l:List T)(hg:zbl l=true):zj cx 29 [.d (.sl 5 (T.ds l))] []=some (.ret (mkU (zdj l)),[]):=by
 unfold zdj;obtain ⟨h1,h2,h3⟩:=vp.1 hg;have hlb:=zgr l;refine zm z0e (N:=l.length+1) ?_;have e:w29 (.sl 5 (T.ds l))=some (v7 l):=by
  unfold w29; rw [zik hg]; rfl
 rw [yih,e,ww];cases hw:decide (v7 l=0)
 ·rfl
 ·have hw0:=pc hw;obtain ⟨hd,hn⟩:=wr0 hw0;obtain ⟨N,hN⟩:∃ N,N=l.length+1:=⟨_,rfl⟩;rw [←hN,Bool.not_true,px]
  have h:=zj0 (λ k j (us:List (List Nat))=>LP cx (zch w29 u29) N 29 0 6 k [(0,V.d (D.sl 5 (T.ds l))),(5,V.sl 1 (wc us) 5),(6,V.d (D.int .i64 j))] [(5,Ob.tok (wc us).length)] (AK cx (zch w29 u29) N 29 0 6 (EK cx 29 0)))
   l (λ a t=>a++[zg1 (nmL l) t]) (λ j us=>us.length≤j) (λ us=>some (.ret (mkU (us,0)),[])) (yp h1)
   (λ k j x us hj hx hi=>by
    have hjb:=yp h1;have hud:(wc us).length=us.length:=by unfold wc; rw [ph]
    refine ⟨?_,by simp only [pe,py,pz]; omega⟩
    refine (yfv w29 u29 N k l (wc us) j).trans ?_;rw [zu,yf hj,pw,zsa];exact z8h N k l hg hd (wc us) (by omega) j x hx l.length 0 N (by omega) (by omega))
   (λ k us=>by
    refine (yfv w29 u29 N k l (wc us) l.length).trans ?_;rw [zu,yw,px];rfl) (s:=[]) (Nat.le_refl _) (k:=N) (by omega)
  rw [znd,List.nil_append] at h;exact h
theorem yik(n:Nat)(l:List Nat):zn cx (CK.plain zo) n 23 [.d (.sl 1 (nI l)),.d (.sl 1 (nI l))] []=bif !decide ((↑(List.map (λ k:Nat=>D.int .i64 (↑k:Int)) l).length:Int)=(↑(List.map (λ k:Nat=>D.int .i64 (↑k:Int)) l).length:Int)) then some (Out.ret (V.d (D.bool false)),[]) else LP cx (CK.plain zo) n 23 0 4 n [(0,V.d (D.sl 1 (List.map (λ k:Nat=>D.int .i64 (↑k:Int)) l))),(1,V.d (D.sl 1 (List.map (λ k:Nat=>D.int .i64 (↑k:Int)) l))),(5,V.d (D.int .i64 (0:Int)))] [] (AK cx (CK.plain zo) n 23 0 4 (EK cx 23 0)):=by kernel_rfl
theorem yfy(n k:Nat)(l:List D)(i:Int):LP cx (CK.plain zo) n 23 0 4 (k+1) [(0,V.d (D.sl 1 l)),(1,V.d (D.sl 1 l)),(5,V.d (D.int .i64 i))] [] (AK cx (CK.plain zo) n 23 0 4 (EK cx 23 0))=bif decide (i<(↑l.length:Int)) then zb (decide (0≤i)&&decide (i<(↑l.length:Int))) (za l i.toNat λ y=>za y.cells 0 λ c=>match c with
 | D.int k' n_1=>bif decide (k'=IntKind.i64) then zb (decide (0≤i)&&decide (i<(↑l.length:Int))) (za l i.toNat λ y=>za y.cells 0 λ c=>match c with
  | D.int k' n_2=>bif decide (k'=IntKind.i64) then bif !decide (n_1=n_2) then some (Out.ret (V.d (D.bool false)),[]) else LP cx (CK.plain zo) n 23 0 4 k [(0,V.d (D.sl 1 l)),(1,V.d (D.sl 1 l)),(5,V.d (D.int .i64 (IntKind.i64.wrap (i+(1:Int)))))] [] (AK cx (CK.plain zo) n 23 0 4 (EK cx 23 0)) else none
  | x=>none) else none
 | x=>none) else some (Out.ret (V.d (D.bool true)),[]):=by kernel_rfl
theorem zhq{α:Type}:∀ (l:List α) (i:Nat),xh (λ _=>false) l i=none
 | [],_=>rfl
 | _::l,i=>zhq l (i+1)
theorem zfj(l:List Nat):(nI l).length=l.length:=by unfold nI; rw [ph]
theorem zex{R:Type}{l:List D}{i:Nat}{x:D}{K:D→Option R}(h:l[i]?=some x):za l i K=K x:=by
 unfold za; rw [h]
theorem m23(l:List Nat)(hl:yn l=true):zj cx 23 [.d (.sl 1 (nI l)),.d (.sl 1 (nI l))] []=some (.ret (mkB true),[]):=by
 refine zm zp (N:=l.length+1) ?_;rw [yik,pa rfl,Bool.not_true,px]
 have h:=vr (λ k i=>LP cx (CK.plain zo) (l.length+1) 23 0 4 k [(0,V.d (D.sl 1 (nI l))),(1,V.d (D.sl 1 (nI l))),(5,V.d (D.int .i64 i))] [] (AK cx (CK.plain zo) (l.length+1) 23 0 4 (EK cx 23 0)))
  l (λ _=>false) (λ _=>none) (some (.ret (mkB true),[])) (yp hl)
  (λ k j x hj hx=>by
   rw [yfy,zfj,yf hj,y8,zhj,po,hx];show zb (true&&true) (za (nI l) (j:Int).toNat _)=_;rw [zhj,po,hx];show (bif !decide ((x:Int)=(x:Int)) then _ else _)=_;rw [pa rfl]; rfl)
  (λ k=>by rw [yfy,zfj,yw,px]; rfl) (k:=l.length+1) (Nat.lt_succ_self _)
 rw [zhq] at h;exact h
theorem cells3:Nat.beq 1 (cx.P.cellsOf 3)=true:=by kernel_rfl
theorem zvu{l:List (List Nat)}{j:Nat}{x:List Nat}(hx:l[j]?=some x):(wc l)[j]?=some (.sl 1 (nI x)):=by unfold wc; rw [List.getElem?_map,hx]; rfl
def txW:List UInt8:=[97,32,58,32,85,32,61,32,83,49,59,32,98,32,58,32,85,32,61,32,85,59,32,99,32,58,32,97,32,61,32,98,97,115,101,59]
def nmT(s:List UInt8)(a:Int):T:=.mk 1 s [] [] a
def lw:List T:=[.mk 18 [97] [nmT [85] 4,nmT [83,49] 8] [] 0,.mk 18 [98] [nmT [85] 16,nmT [85] 20] [] 12,.mk 18 [99] [nmT [97] 27,nmT [98,97,115,101] 31] [] 23]
theorem w44:vz cx 100 44 [.d (.str txW)] []=some (.ret (.tup [.d (.sl 5 (T.ds lw)),.d (.int .i64 0),.d (.int .i64 0)]),[]):=by kernel_rfl
mutual
def z43:T→T→Bool
 | .mk k nm kids nms pl,.mk k' nm' kids' nms' pl'=>decide (k=k')&&decide (nm=nm')&&zo6 kids kids'&&decide (nms=nms')&&decide (pl=pl')
def zo6:List T→List T→Bool
 | [],[]=>true
 | a::l,b::m=>z43 a b&&zo6 l m
 | _,_=>false
end
mutual
theorem z42:∀ {a b:T},z43 a b=true→a=b
 | .mk k nm kids nms pl,.mk k' nm' kids' nms' pl',h=>by
  simp only [z43,pm,decide_eq_true_eq] at h;obtain ⟨⟨⟨⟨rfl,rfl⟩,h3⟩,rfl⟩,rfl⟩:=h;rw [zmq h3]
theorem zmq:∀ {a b:List T},zo6 a b=true→a=b
 | [],[],_=>rfl
 | a::l,b::m,h=>by
  simp only [zo6,pm] at h;rw [z42 h.1,zmq h.2]
 | [],b::m,h=>by cases h
 | a::l,[],h=>by cases h
end
def z54(x:D):Option Unit:=zc (qy (zi 5) x) λ l=>zb (zo6 l lw) (some ())
theorem zjy{x:D}{u:Unit}(h:z54 x=some u):x=.sl 5 (T.ds lw):=by
 obtain ⟨l,hl,h⟩:=zd h;obtain ⟨h1,_⟩:=zf h;obtain ⟨d,rfl,h2,_⟩:=zfy hl;rw [(zg4 (λ x t h=>(xl h).1) h2).1,zmq h1]
theorem z8o:zbl lw=true:=by kernel_rfl
theorem z7t:zdj lw=([[],[],[0]],0):=by kernel_rfl
def mkL(l:List Nat):V:=.tup [.d (.sl 1 (nI l)),.d (.int .i64 0)]
def z7q:CK R1:=z7 24 qx z54 (λ _=>mkU ([[],[],[0]],0)) (evK 40)
theorem zih:knows cx z7q.S (zj cx):=zk (ztr 40) λ a q b hd h hb=>by
 rw [xv h,zjy hb,m24 lw z8o,z7t]
theorem w19:zn cx z7q 10 19 [.d (.sl 5 (T.ds lw)),.d (.str [99])] []=some (.ret (mkL [0,2]),[]):=by kernel_rfl
theorem w21:zn cx z7q 10 21 [.d (.sl 5 (T.ds lw))] []=some (.ret (mkL [1,2]),[]):=by kernel_rfl
theorem w26:zn cx z7q 10 26 [.d (.sl 5 (T.ds lw))] []=some (.ret (mkL [0,1,2]),[]):=by kernel_rfl
def yfc:List V→Option Unit | [.d (.str s)]=>zb (decide (s=txW)) (some ()) | _=>none
def z6x:List V→Option D | [.d x,.d (.str s)]=>zb (decide (s=[99])) (some x) | _=>none
def ygh:CK R1:=z7 44 yfc some (λ _=>.tup [.d (.sl 5 (T.ds lw)),.d (.int .i64 0),.d (.int .i64 0)]) (z7 19 z6x z54 (λ _=>mkL [0,2]) (z7 21 qx z54 (λ _=>mkL [1,2]) (z7 26 qx z54 (λ _=>mkL [0,1,2]) z7q)))
theorem z0h:knows cx ygh.S (zj cx):=
 zk (zk (zk (zk zih λ a q b hd h hb=>by
   rw [xv h,zjy hb];exact zm zih (N:=10) w26) λ a q b hd h hb=>by
   rw [xv h,zjy hb];exact zm zih (N:=10) w21) λ a q b hd h hb=>by
   unfold z6x at h;split at h
   ·obtain ⟨h1,h⟩:=zf h;cases h;rw [zjy hb,pc h1];exact zm zih (N:=10) w19
   ·cases h) λ a q b hd h hb=>by
   unfold yfc at h;split at h
   ·obtain ⟨h1,h⟩:=zf h;rw [pc h1];exact zhm w44
   ·cases h
theorem w18:zn cx ygh 10 18 [] []=some (.ret (mkB true),[]):=by kernel_rfl
theorem m18:zj cx 18 [] []=some (.ret (mkB true),[]):=zm z0h (N:=10) w18
def mk2(q:List D×Int):V:=.tup [.d (.sl 1 q.1),.d (.int .i64 q.2)]
def zzw:List V→Option (D×D) | [.d x,.d y]=>some (x,y) | _=>none
def z6z:List V→Option Unit | []=>some () | _=>none
def ygg(b:D→Int→Option Int):CK R1:=z7 28 zdf (λ q=>b q.1 q.2) mkI (CK.plain zo)
def ygi(g:D→Option Bool):CK R1:=z7 43 qx g mkB (CK.plain zo)
theorem yib(b:D→Int→Option Int)(n:Nat)(l:List T):zn cx (ygg b) n 43 [.d (.sl 5 (T.ds l))] []=zc (b (D.agg [D.int .i64 (0:Int),D.str [],D.sl 5 (T.ds l),D.sl 1 [],D.int .i64 (0:Int)],(400:Int)).fst (D.agg [D.int .i64 (0:Int),D.str [],D.sl 5 (T.ds l),D.sl 1 [],D.int .i64 (0:Int)],(400:Int)).snd) λ b=>some (Out.ret (V.d (D.bool (decide ((400:Int)<b)))),[]):=by kernel_rfl
theorem yil(g:D→Option Bool)(n:Nat)(l:List T):zn cx (ygi g) n 17 [.d (.sl 5 (T.ds l))] []=bif decide ((40:Int)<(↑(T.ds l).length:Int)) then some (Out.ret (V.d (D.bool true)),[]) else zc (g (D.sl 5 (T.ds l))) λ b=>some (Out.ret (V.d (D.bool b)),[]):=by kernel_rfl
def zyd(x:D):Option (List T):=zc (qy zr x) λ l=>zb (T.oks l) (some l)
theorem z0n{x:D}{l:List T}(h:zyd x=some l):x=.sl 5 (T.ds l)∧yn l=true∧T.oks l=true:=by
 obtain ⟨m,hm,h⟩:=zd h;obtain ⟨h1,h⟩:=zf h;cases h;obtain ⟨d,rfl,h2,h3⟩:=zfy hm;exact ⟨by rw [(zg4 (λ x t h=>(wv h).1) h2).1],h3,h1⟩
theorem z9d{l:List T}(h1:yn l=true)(h2:T.oks l=true):zyd (.sl 5 (T.ds l))=some l:=by
 unfold zyd;rw [zoy (λ t ht=>zij (wx h2 ht)) h1];show zb (T.oks l) _=_;rw [h2]; rfl
def znk(l:List T):T:=.mk 0 [] l [] 0
theorem z1s{l:List T}(h1:yn l=true)(h2:T.oks l=true):(znk l).ok=true:=by
 unfold znk; simp only [T.ok,h1,h2]; rfl
def zfs(l:List T):Bool:=decide ((40:Int)<(l.length:Int))||decide ((400:Int)<za4 (znk l) 400)
def b28(x:D)(a:Int):Option Int:=zc (zr x) λ t=>zb (decide (0≤a)&&decide (a≤1048576)) (some (za4 t a))
theorem z6t{a:List V}{q}(h:zdf a=some q):a=[.d q.1,.d (.int .i64 q.2)]:=zaz h
theorem z3k{a:List V}{q:D×Int}{b:Int}(h:zdf a=some q)(hb:b28 q.1 q.2=some b):zj cx 28 a []=some (.ret (mkI b),[]):=by
 obtain ⟨t,ht,hb⟩:=zd hb;obtain ⟨h1,hb⟩:=zf hb;cases hb;rw [pm] at h1;obtain ⟨h0,hg⟩:=wv ht;rw [z6t h,h0];exact z9z t.depth t q.2 (Nat.le_refl _) hg (pc h1.1) (pc h1.2)
def g43(x:D):Option Bool:=zc (zyd x) λ l=>some (decide ((400:Int)<za4 (znk l) 400))
theorem m43(l:List T)(h1:yn l=true)(h2:T.oks l=true):zj cx 43 [.d (.sl 5 (T.ds l))] []=some (.ret (mkB (decide ((400:Int)<za4 (znk l) 400))),[]):=by
 have hk:knows cx (ygg b28).S (zj cx):=zk zp λ a q b hd h hb=>z3k h hb;refine zm hk (N:=0) ?_;rw [yib];show zc (b28 (znk l).d 400) _=_;unfold b28;rw [zij (z1s h1 h2)];rfl
theorem m17(l:List T)(h1:yn l=true)(h2:T.oks l=true):zj cx 17 [.d (.sl 5 (T.ds l))] []=some (.ret (mkB (zfs l)),[]):=by
 have hk:knows cx (ygi g43).S (zj cx):=zk zp λ a q b hd h hb=>by
  obtain ⟨m,hm,hb⟩:=zd hb;cases hb;obtain ⟨h0,h1,h2⟩:=z0n hm;rw [xv h,h0];exact m43 m h1 h2
 refine zm hk (N:=0) ?_;have e:g43 (.sl 5 (T.ds l))=some (decide ((400:Int)<za4 (znk l) 400)):=by unfold g43; rw [z9d h1 h2]; rfl
 rw [yil,zu,e];unfold zfs;cases decide ((40:Int)<(l.length:Int)) <;> rfl
def g17(x:D):Option Bool:=zc (zyd x) λ l=>some (zfs l)
theorem z2t{a:List V}{x:D}{b:Bool}(h:qx a=some x)(hb:g17 x=some b):zj cx 17 a []=some (.ret (mkB b),[]):=by
 obtain ⟨m,hm,hb⟩:=zd hb;cases hb;obtain ⟨h0,h1,h2⟩:=z0n hm;rw [xv h,h0];exact m17 m h1 h2
theorem yb2{l:List T}(h1:yn l=true)(h2:T.oks l=true):g17 (.sl 5 (T.ds l))=some (zfs l):=by unfold g17; rw [z9d h1 h2]; rfl
theorem yca{t:T}(h : ¬ (400:Int)<za4 t 400):xa t≤400:=by
 obtain ⟨_,_,h3⟩:=zq3 t 400 (by omega)
 have:=h3 (by omega)
 omega
theorem zza{l:List T}(h1:yn l=true)(h2:T.oks l=true)(h:zfs l=false):zbl l=true∧l.length≤40∧Sp.bulks l≤400:=by
 unfold zfs at h;rw [Bool.or_eq_false_iff] at h;have ha:=of_decide_eq_false h.1;have hb:=yca (of_decide_eq_false h.2);simp only [znk,xa] at hb;exact ⟨vp.2 ⟨h1,h2,by omega⟩,by omega,by omega⟩
def u24(x:D):Option (List D×Int):=zc (zis x) λ l=>some (wc (zdj l).1,(zdj l).2)
theorem z4n{l:List T}(h:zbl l=true):u24 (.sl 5 (T.ds l))=some (wc (zdj l).1,(zdj l).2):=by unfold u24; rw [zik h]; rfl
theorem z10{a:List V}{x:D}{b}(h:qx a=some x)(hb:u24 x=some b):zj cx 24 a []=some (.ret (mk2 b),[]):=by
 obtain ⟨m,hm,hb⟩:=zd hb;cases hb;obtain ⟨h0,h1⟩:=zb0 hm;rw [xv h,h0];exact m24 m h1
theorem z1z{a:List V}{x:D}{b}(h:qx a=some x)(hb:u24 x=some b):zj cx 29 a []=some (.ret (mk2 b),[]):=by
 obtain ⟨m,hm,hb⟩:=zd hb;cases hb;obtain ⟨h0,h1⟩:=zb0 hm;rw [xv h,h0];exact m29 m h1
open Classical in
def p23(x y:D):Option Bool:=if (∃ us,x=.sl 1 (nI us)∧y=x∧yn us=true) then some true else none
theorem zty{a:List V}{q}(h:zzw a=some q):a=[.d q.1,.d q.2]:=by
 unfold zzw at h; split at h <;> cases h; rfl
theorem z2e{a:List V}{q:D×D}{b:Bool}(h:zzw a=some q)(hb:p23 q.1 q.2=some b):zj cx 23 a []=some (.ret (mkB b),[]):=by
 unfold p23 at hb;split at hb
 ·rename_i he;cases hb;obtain ⟨us,h1,h2,h3⟩:=he;rw [zty h,h2,h1];exact m23 us h3
 ·cases hb
theorem yar{us:List Nat}(h1:yn us=true):p23 (.sl 1 (nI us)) (.sl 1 (nI us))=some true:=by
 unfold p23; rw [if_pos ⟨us,rfl,rfl,h1⟩]
theorem z1w{a:List V}{q:Unit}{b:Bool}(h:z6z a=some q)(hb:(some true:Option Bool)=some b):zj cx 18 a []=some (.ret (mkB b),[]):=by
 cases hb;unfold z6z at h; split at h <;> cases h;exact m18
def zil:List D→Option (List Nat)
 | []=>some []
 | .int .i64 n::r=>zc (zil r) λ l=>zb (decide (0≤n)) (some (n.toNat::l))
 | _=>none
theorem zfi:∀ {l:List D} {r:List Nat},zil l=some r→l=nI r
 | [],r,h=>by cases h; rfl
 | .int .i64 n::l,r,h=>by
  obtain ⟨q,hq,h⟩:=zd h;obtain ⟨h1,h⟩:=zf h;cases h;rw [zfi hq];have:=pc h1;show D.int .i64 n::nI q=D.int .i64 ((n.toNat:Nat):Int)::nI q;rw [Int.toNat_of_nonneg this]
theorem zi4:∀ us:List Nat,zil (nI us)=some us
 | []=>rfl
 | u::us=>by
  show zc (zil (nI us)) _=_;rw [zi4 us];show zb (decide ((0:Int)≤(u:Int))) _=_;rw [pa (by omega)]; rfl
def xg(v:D→Option (List D×Int))(h:D→Int→Option Bool):CK R1:=
 z7 29 qx v mk2 (z7 50 zdf (λ q=>h q.1 q.2) mkB (CK.plain zo))
def zvp(l:List Bool):Nat:=(l.filter id).length
structure Behind (U:List (List Nat)) (s:Nat) (q r:List Bool×Bool):Prop where
 len:r.1.length=q.1.length
 up:∀ k,q.1.getD k false=true→r.1.getD k false=true
 qr:(∀ k,q.1.getD k false=true→Reach U s k)→∀ k,r.1.getD k false=true→Reach U s k
 more:q.2=true→r.2=true
 same:r.2=false→r=q
structure Grows (q r:List Bool×Bool):Prop where
 len:r.1.length=q.1.length
 le:zvp q.1≤zvp r.1
 lt:q.2=false→r.2=true→zvp q.1<zvp r.1
 up:q.2=true→r.2=true
theorem yiq(v:D→Option (List D×Int))(h:D→Int→Option Bool)(n k m p:Nat)(l:List T)(us:List (List Nat))(B:List D)(a:Bool)(i j:Int):LP cx (xg v h) n 20 0 20 (p+1) [(0,V.d (D.sl 5 (T.ds l))),(6,V.d (D.sl 1 (wc us))),(8,V.slo 26 1 B.length),(11,V.d (D.bool a)),(12,V.d (D.int .i64 i)),(13,V.d (D.int .i64 j))] [(26,Ob.row B)] (AL cx (xg v h) n 20 0 17 20 (inK cx (xg v h) n 20 0 17 m (AL cx (xg v h) n 20 0 14 17 (inK cx (xg v h) n 20 0 14 k (AK cx (xg v h) n 20 0 14 (EK cx 20 0))))))=bif decide (j<(↑(T.ds l).length:Int)) then zb (decide (0≤i)&&decide (i<(↑B.length:Int))) (zb (B.length.beq B.length) (za B i.toNat λ x=>za x.cells 0 λ c=>match c with
 | D.bool b=>bif b then zb (decide (0≤i)&&decide (i<(↑(List.map (λ u=>D.sl 1 (nI u)) us).length:Int))) (za (List.map (λ u=>D.sl 1 (nI u)) us) i.toNat λ y=>za y.cells 0 λ c=>match c with
  | D.sl s l_1=>bif s.beq (cx.P.cellsOf 3)||l_1.isEmpty then zc (h (D.sl 1 l_1,j).fst (D.sl 1 l_1,j).snd) λ b=>bif b then zb (decide (0≤j)&&decide (j<(↑B.length:Int))) (zb (B.length.beq B.length) (za B j.toNat λ x=>za x.cells 0 λ c=>match c with
   | D.bool b=>bif !b then zb (decide (0≤j)&&decide (j<(↑B.length:Int))) (zb (B.length.beq B.length&&true&&true) (LP cx (xg v h) n 20 0 20 p [(0,V.d (D.sl 5 (T.ds l))),(6,V.d (D.sl 1 (List.map (λ u=>D.sl 1 (nI u)) us))),(8,V.slo 26 1 B.length),(11,V.d (D.bool true)),(12,V.d (D.int .i64 i)),(13,V.d (D.int .i64 (IntKind.i64.wrap (j+(1:Int)))))] [(26,Ob.row (B.set j.toNat (D.bool true)))] (AL cx (xg v h) n 20 0 17 20 (inK cx (xg v h) n 20 0 17 m (AL cx (xg v h) n 20 0 14 17 (inK cx (xg v h) n 20 0 14 k (AK cx (xg v h) n 20 0 14 (EK cx 20 0)))))))) else LP cx (xg v h) n 20 0 20 p [(0,V.d (D.sl 5 (T.ds l))),(6,V.d (D.sl 1 (List.map (λ u=>D.sl 1 (nI u)) us))),(8,V.slo 26 1 B.length),(11,V.d (D.bool a)),(12,V.d (D.int .i64 i)),(13,V.d (D.int .i64 (IntKind.i64.wrap (j+(1:Int)))))] [(26,Ob.row B)] (AL cx (xg v h) n 20 0 17 20 (inK cx (xg v h) n 20 0 17 m (AL cx (xg v h) n 20 0 14 17 (inK cx (xg v h) n 20 0 14 k (AK cx (xg v h) n 20 0 14 (EK cx 20 0))))))
   | x=>none)) else LP cx (xg v h) n 20 0 20 p [(0,V.d (D.sl 5 (T.ds l))),(6,V.d (D.sl 1 (List.map (λ u=>D.sl 1 (nI u)) us))),(8,V.slo 26 1 B.length),(11,V.d (D.bool a)),(12,V.d (D.int .i64 i)),(13,V.d (D.int .i64 (IntKind.i64.wrap (j+(1:Int)))))] [(26,Ob.row B)] (AL cx (xg v h) n 20 0 17 20 (inK cx (xg v h) n 20 0 17 m (AL cx (xg v h) n 20 0 14 17 (inK cx (xg v h) n 20 0 14 k (AK cx (xg v h) n 20 0 14 (EK cx 20 0)))))) else none
  | x=>none) else LP cx (xg v h) n 20 0 20 p [(0,V.d (D.sl 5 (T.ds l))),(6,V.d (D.sl 1 (List.map (λ u=>D.sl 1 (nI u)) us))),(8,V.slo 26 1 B.length),(11,V.d (D.bool a)),(12,V.d (D.int .i64 i)),(13,V.d (D.int .i64 (IntKind.i64.wrap (j+(1:Int)))))] [(26,Ob.row B)] (AL cx (xg v h) n 20 0 17 20 (inK cx (xg v h) n 20 0 17 m (AL cx (xg v h) n 20 0 14 17 (inK cx (xg v h) n 20 0 14 k (AK cx (xg v h) n 20 0 14 (EK cx 20 0))))))
 | x=>none)) else LP cx (xg v h) n 20 0 17 m [(0,V.d (D.sl 5 (T.ds l))),(6,V.d (D.sl 1 (List.map (λ u=>D.sl 1 (nI u)) us))),(8,V.slo 26 1 B.length),(11,V.d (D.bool a)),(12,V.d (D.int .i64 (IntKind.i64.wrap (i+(1:Int)))))] [(26,Ob.row B)] (AL cx (xg v h) n 20 0 14 17 (inK cx (xg v h) n 20 0 14 k (AK cx (xg v h) n 20 0 14 (EK cx 20 0)))):=by kernel_rfl
def bD(B:List Bool):List D:=B.map .bool
theorem zvk(B:List Bool):(bD B).length=B.length:=ph _
theorem ycb(B:List Bool)(i:Nat)(b:Bool):(bD B).set i (.bool b)=bD (B.set i b):=by unfold bD; rw [List.map_set]
theorem yb8(b:Bool):(D.bool b).cells=[D.bool b]:=rfl
theorem z1p(l:List D):(D.sl 1 l).cells=[D.sl 1 l]:=rfl
theorem zws(k:Nat)(l:List Nat):ze1 (k:Int) l=decide (k∈l):=by
 by_cases h:k∈l
 ·rw [pa h,zwr.2 h]
 ·rw [pb h];cases hm:ze1 (k:Int) l
  ·rfl
  ·exact absurd (zwr.1 hm) h
def h50(x:D)(a:Int):Option Bool:=match x with | .sl 1 L=>zc (zil L) λ l=>zb (yn l) (some (ze1 a l)) | _=>none
theorem z58{x:D}{a:Int}{b:Bool}(h:h50 x a=some b):∃ l:List Nat,x=.sl 1 (nI l)∧yn l=true∧b=ze1 a l:=by
 unfold h50 at h;split at h
 ·obtain ⟨l,hl,h⟩:=zd h;obtain ⟨h1,h⟩:=zf h;cases h;exact ⟨l,by rw [zfi hl],h1,rfl⟩
 ·cases h
theorem z59{l:List Nat}{a:Int}(h:yn l=true):h50 (.sl 1 (nI l)) a=some (ze1 a l):=by
 show zc (zil (nI l)) _=_;rw [zi4,ww,h]; rfl
theorem z2r{S:CK R1}(hS:knows cx S.S (zj cx)):knows cx (z7 50 zdf (λ q=>h50 q.1 q.2) mkB S).S (zj cx):=zk hS λ a q b hd h hb=>by
 obtain ⟨l,h1,h2,rfl⟩:=z58 hb;rw [zaz h,h1];exact m50 l q.2 h2
theorem z4b:knows cx (xg u24 h50).S (zj cx):=zk (z2r zp) λ a q b hd h hb=>z1z h hb
theorem zjq(l:List T):(zep l).length=l.length:=ph _
theorem zw4(l:List T):zii (zep l):=λ u hu k hk=>by
 obtain ⟨t,_,rfl⟩:=List.mem_map.1 hu;have:=(zus.1 hk).1;rw [zjq]
 rwa [zf5] at this
theorem z1x{l:List T}(h:l.length<4294967296):∀ u∈zep l,yn u=true:=λ u hu=>by
 obtain ⟨t,_,rfl⟩:=List.mem_map.1 hu;refine zha ?_;have:=zuf (λ k=>y4 ((nmL l).getD k []) (wa [] [] t.kids)) (nmL l).length;rw [zf5] at this;exact Nat.lt_of_le_of_lt (by rw [←zf5 l] at this; exact this) (by rw [zf5]; exact h)
theorem ycc(n:Nat):List.replicate n (D.bool false)=bD (List.replicate n false):=by unfold bD; rw [List.map_replicate]
theorem ycy:qe cx.P 4 [D.bool false]=D.bool false:=by kernel_rfl
theorem zmg(x:Int):(D.int .i64 x).cells=[D.int .i64 x]:=rfl
def zfr(U:List (List Nat))(out:List Nat)(i:Nat):Bool:=!decide (i∈out)&&(zdk U i).all λ k=>decide (k∈out)
def zby(U:List (List Nat))(out:List Nat):Nat→Nat→Option Nat
 | 0,_=>none
 | d+1,i=>bif zfr U out i then some i else zby U out d (i+1)
def zdl(U:List (List Nat))(n:Nat):Nat→List Nat→Option (List Nat)
 | 0,out=>some out
 | d+1,out=>match zby U out n 0 with | some i=>zdl U n d (out++[i]) | none=>none
def zvr(U:List (List Nat)):List Nat×Int:=match zdl U U.length U.length [] with | some o=>(o,0) | none=>([],272)
theorem zpj{U:List (List Nat)}{out:List Nat}:∀ {d i j:Nat},zby U out d i=some j→i≤j∧j<i+d∧zfr U out j=true
 | 0,i,j,h=>by cases h
 | d+1,i,j,h=>by
  unfold zby at h;cases hr:zfr U out i <;> rw [hr] at h
  ·rw [px] at h;obtain ⟨h1,h2,h3⟩:=zpj h;exact ⟨by omega,by omega,h3⟩
  ·rw [pw] at h;cases h;exact ⟨Nat.le_refl _,by omega,hr⟩
def zjm(U:List (List Nat)):List Nat→List Nat→Prop
 | _,[]=>True
 | seen,i::r=>i<U.length∧i ∉ seen∧(∀ k∈zdk U i,k∈seen)∧zjm U (seen++[i]) r
theorem zjm.snoc{U:List (List Nat)}{i:Nat}:∀ {r seen:List Nat},zjm U seen r→i<U.length→i ∉ seen++r→(∀ k∈zdk U i,k∈seen++r)→zjm U seen (r++[i])
 | [],seen,_,h1,h2,h3=>⟨h1,by simpa using h2,λ k hk=>by simpa using h3 k hk,trivial⟩
 | j::r,seen,h,h1,h2,h3=>by
  refine ⟨h.1,h.2.1,h.2.2.1,zjm.snoc h.2.2.2 h1 (by simpa using h2) (λ k hk=>by simpa using h3 k hk)⟩
theorem z7z{U:List (List Nat)}{out:List Nat}{i:Nat}:zfr U out i=true↔i ∉ out∧∀ k∈zdk U i,k∈out:=by
 unfold zfr;rw [pm,List.all_eq_true];constructor
 ·rintro ⟨h1,h2⟩;exact ⟨by simpa using h1,λ k hk=>pc (h2 k hk)⟩
 ·rintro ⟨h1,h2⟩;exact ⟨by simpa using h1,λ k hk=>pa (h2 k hk)⟩
theorem zst{U:List (List Nat)}:∀ {d:Nat} {out o:List Nat},zdl U U.length d out=some o→out.Nodup→zjm U [] out→o.Nodup∧zjm U [] o∧o.length=out.length+d
 | 0,out,o,h,hn,hs=>by cases h; exact ⟨hn,hs,rfl⟩
 | d+1,out,o,h,hn,hs=>by
  unfold zdl at h;cases hx:zby U out U.length 0 with
  | none=>rw [hx] at h; cases h
  | some i=>
   rw [hx] at h;obtain ⟨_,h2,h3⟩:=zpj hx;rw [z7z] at h3;have hn2:(out++[i]).Nodup:=by
    rw [List.nodup_append];exact ⟨hn,by simp,λ a ha b hb=>by simp at hb; subst hb; exact λ e=>h3.1 (e ▸ ha)⟩
   have hs2:=zjm.snoc (i:=i) (seen:=[]) hs (by omega) (by simpa using h3.1) (λ k hk=>by simpa using h3.2 k hk)
   obtain ⟨h5,h6,h7⟩:=zst h hn2 hs2;exact ⟨h5,h6,by rw [h7]; simp; omega⟩
inductive Way (U:List (List Nat)) (s:Nat):Nat→Prop
 | one {k:Nat} (h:k∈zdk U s):Way U s k
 | step {j k:Nat} (h:Way U s j) (hk:k∈zdk U j):Way U s k
def psO(us:D)(B:List D):St:=[(0,.val 1 (.d us)),(1,.val 1 (.slo 2 1 B.length)),(2,.row B)]
def pdO:St→Option (D×(List D×Nat)) | [(0,.val 1 (.d us)),(1,.val 1 (.slo 2 1 n)),(2,.row B)]=>some (us,(B,n)) | _=>none
def z6u(a:List V)(σ:St):Option (D×(List D×Nat)):=match a with | [.ptr 0 0,.ptr 1 0]=>pdO σ | _=>none
def yip(nx:D→List D→Option Int)(S:CK R1):CK R1:=more 53 z6u (λ K q=>zc (nx q.1 q.2.1) λ i=>zb (Nat.beq q.2.2 q.2.1.length) (K (.ret (mkI i)) (psO q.1 q.2.1)))
  (λ K q=>by
   simp only;rw [zal];congr 1;funext s;simp only [zb,vn];rfl) S
def zj9(B:List D):St:=[(0,.val 1 (.slo 1 1 B.length)),(1,.row B)]
def z74:St→Option (List D×Nat) | [(0,.val 1 (.slo 1 1 n)),(1,.row B)]=>some (B,n) | _=>none
def zet(a:List V)(σ:St):Option (D×(List D×Nat)):=match a with | [.d x,.func 55 [.ptr 0 0]]=>zc (z74 σ) λ q=>some (x,q) | _=>none
def zeo(a:List V)(σ:St):Option (Int×(List D×Nat)):=match a with | [.d (.int .i64 i),.ptr 0 0]=>zc (z74 σ) λ q=>some (i,q) | _=>none
def bK{α β:Type}(f:Nat)(dec:List V→St→Option (α×(List D×Nat)))(p:α→List D→Option β)(mk:β→V)(S:CK R1):CK R1:=more f dec (λ K q=>zc (p q.1 q.2.1) λ b=>zb (Nat.beq q.2.2 q.2.1.length) (K (.ret (mk b)) (zj9 q.2.1)))
  (λ K q=>by
   simp only;rw [zal];congr 1;funext s;simp only [zb,vn];rfl) S
def zr7(v:D→Option (List D×Int))(nx:D→List D→Option Int):CK R1:=z7 24 qx v mk2 (yip nx (CK.plain zo))
theorem yh5(n:Nat)(B:List D)(i:Int):zn cx (CK.plain zo) n 55 [.d (.int .i64 i),.ptr 0 0] (zj9 B)=zb (decide (0≤i)&&decide (i<(↑B.length:Int))) (zb (B.length.beq B.length) (za B i.toNat λ x=>za x.cells 0 λ c=>match c with
 | D.bool b=>some (Out.ret (V.d (D.bool !b)),[(0,Ob.val 1 (V.slo 1 1 B.length)),(1,Ob.row B)])
 | x=>none)):=by kernel_rfl
theorem yhy(p:Int→List D→Option Bool)(n:Nat)(l:List Nat)(B:List D):zn cx (bK 55 zeo p mkB (CK.plain zo)) n 91 [.d (.sl 1 (nI l)),.func 55 [.ptr 0 0]] (zj9 B)=LP cx (bK 55 zeo p mkB (CK.plain zo)) n 91 2 2 n [(0,V.d (D.sl 1 (List.map (λ k:Nat=>D.int .i64 (k:Int)) l))),(1,V.func 55 [V.ptr 0 0]),(7,V.d (D.int .i64 (↑(List.map (λ k:Nat=>D.int .i64 (k:Int)) l).length:Int))),(8,V.d (D.int .i64 (0:Int)))] [(0,Ob.val 1 (V.slo 1 1 B.length)),(1,Ob.row B)] (AK cx (bK 55 zeo p mkB (CK.plain zo)) n 91 2 2 (EK cx 91 2)):=by kernel_rfl
theorem yfk(p:Int→List D→Option Bool)(n k:Nat)(l:List Nat)(B:List D)(i:Int):LP cx (bK 55 zeo p mkB (CK.plain zo)) n 91 2 2 (k+1) [(0,V.d (D.sl 1 (nI l))),(1,V.func 55 [V.ptr 0 0]),(7,V.d (D.int .i64 (l.length:Int))),(8,V.d (D.int .i64 i))] [(0,Ob.val 1 (V.slo 1 1 B.length)),(1,Ob.row B)] (AK cx (bK 55 zeo p mkB (CK.plain zo)) n 91 2 2 (EK cx 91 2))=bif decide (i<(↑l.length:Int)) then zb (decide (0≤i)&&decide (i<(↑(List.map (λ k:Nat=>D.int .i64 (k:Int)) l).length:Int))) (za (List.map (λ k:Nat=>D.int .i64 (k:Int)) l) i.toNat λ y=>za y.cells 0 λ c=>match c with
 | D.int k' n_1=>bif decide (k'=IntKind.i64) then zc (p (n_1,B,B.length).fst (n_1,B,B.length).snd.fst) λ b=>zb ((n_1,B,B.length).snd.snd.beq (n_1,B,B.length).snd.fst.length) (bif b then some (Out.ret (V.d (D.int .i64 i)),[(0,Ob.val 1 (V.slo 1 1 (n_1,B,B.length).snd.fst.length)),(1,Ob.row B)]) else LP cx (bK 55 zeo p mkB (CK.plain zo)) n 91 2 2 k [(0,V.d (D.sl 1 (List.map (λ k:Nat=>D.int .i64 (k:Int)) l))),(1,V.func 55 [V.ptr 0 0]),(7,V.d (D.int .i64 (↑l.length:Int))),(8,V.d (D.int .i64 (IntKind.i64.wrap (i+(1:Int)))))] [(0,Ob.val 1 (V.slo 1 1 (n_1,B,B.length).snd.fst.length)),(1,Ob.row B)] (AK cx (bK 55 zeo p mkB (CK.plain zo)) n 91 2 2 (EK cx 91 2))) else none
 | x=>none) else some (Out.ret (V.d (D.int .i64 (Int.negSucc 0))),[(0,Ob.val 1 (V.slo 1 1 B.length)),(1,Ob.row B)]):=by kernel_rfl
theorem yh6(p:D→List D→Option Int)(n:Nat)(l:List Nat)(B:List D):zn cx (bK 91 zet p mkI (CK.plain zo)) n 54 [.d (.sl 1 (nI l)),.func 55 [.ptr 0 0]] (zj9 B)=zc (p (D.sl 1 (List.map (λ k:Nat=>D.int .i64 (k:Int)) l),B,B.length).fst (D.sl 1 (List.map (λ k:Nat=>D.int .i64 (k:Int)) l),B,B.length).snd.fst) λ b=>zb ((D.sl 1 (List.map (λ k:Nat=>D.int .i64 (k:Int)) l),B,B.length).snd.snd.beq (D.sl 1 (List.map (λ k:Nat=>D.int .i64 (k:Int)) l),B,B.length).snd.fst.length) (some (Out.ret (V.d (D.bool (decide ((0:Int)≤b)))),[(0,Ob.val 1 (V.slo 1 1 (D.sl 1 (List.map (λ k:Nat=>D.int .i64 (k:Int)) l),B,B.length).snd.fst.length)),(1,Ob.row B)])):=by kernel_rfl
theorem yh7(p:D→List D→Option Bool)(n:Nat)(us:List (List Nat))(B:List D):zn cx (bK 54 zet p mkB (CK.plain zo)) n 53 [.ptr 0 0,.ptr 1 0] (psO (.sl 1 (wc us)) B)=LP cx (bK 54 zet p mkB (CK.plain zo)) n 53 3 2 n [(1,V.ptr 1 0),(5,V.d (D.sl 1 (List.map (λ u=>D.sl 1 (nI u)) us))),(6,V.d (D.int .i64 (↑(List.map (λ u=>D.sl 1 (nI u)) us).length:Int))),(7,V.d (D.int .i64 (0:Int)))] [(0,Ob.val 1 (V.d (D.sl 1 (List.map (λ u=>D.sl 1 (nI u)) us)))),(1,Ob.val 1 (V.slo 2 1 B.length)),(2,Ob.row B)] (AK cx (bK 54 zet p mkB (CK.plain zo)) n 53 3 2 (EK cx 53 3)):=by kernel_rfl
theorem yfo(p:D→List D→Option Bool)(n k:Nat)(us:List (List Nat))(B:List D)(i:Int):LP cx (bK 54 zet p mkB (CK.plain zo)) n 53 3 2 (k+1) [(1,V.ptr 1 0),(5,V.d (D.sl 1 (wc us))),(6,V.d (D.int .i64 (us.length:Int))),(7,V.d (D.int .i64 i))] [(0,Ob.val 1 (V.d (D.sl 1 (wc us)))),(1,Ob.val 1 (V.slo 2 1 B.length)),(2,Ob.row B)] (AK cx (bK 54 zet p mkB (CK.plain zo)) n 53 3 2 (EK cx 53 3))=bif decide (i<(↑us.length:Int)) then zb (decide (0≤i)&&decide (i<(↑(List.map (λ u=>D.sl 1 (nI u)) us).length:Int))) (za (List.map (λ u=>D.sl 1 (nI u)) us) i.toNat λ y=>za y.cells 0 λ c=>match c with
 | D.sl s l=>bif s.beq (cx.P.cellsOf 3)||l.isEmpty then zb (decide (0≤i)&&decide (i<(↑B.length:Int))) (zb (B.length.beq B.length) (za B i.toNat λ x=>za x.cells 0 λ c=>match c with
  | D.bool b=>bif !b then zc (p (D.sl 1 l,B,B.length).fst (D.sl 1 l,B,B.length).snd.fst) λ b=>zb ((D.sl 1 l,B,B.length).snd.snd.beq (D.sl 1 l,B,B.length).snd.fst.length) (bif !b then some (Out.ret (V.d (D.int .i64 i)),[(0,Ob.val 1 (V.d (D.sl 1 (List.map (λ u=>D.sl 1 (nI u)) us)))),(1,Ob.val 1 (V.slo 2 1 (D.sl 1 l,B,B.length).snd.fst.length)),(2,Ob.row B)]) else LP cx (bK 54 zet p mkB (CK.plain zo)) n 53 3 2 k [(1,V.ptr 1 0),(5,V.d (D.sl 1 (List.map (λ u=>D.sl 1 (nI u)) us))),(6,V.d (D.int .i64 (↑us.length:Int))),(7,V.d (D.int .i64 (IntKind.i64.wrap (i+(1:Int)))))] [(0,Ob.val 1 (V.d (D.sl 1 (List.map (λ u=>D.sl 1 (nI u)) us)))),(1,Ob.val 1 (V.slo 2 1 (D.sl 1 l,B,B.length).snd.fst.length)),(2,Ob.row B)] (AK cx (bK 54 zet p mkB (CK.plain zo)) n 53 3 2 (EK cx 53 3))) else LP cx (bK 54 zet p mkB (CK.plain zo)) n 53 3 2 k [(1,V.ptr 1 0),(5,V.d (D.sl 1 (List.map (λ u=>D.sl 1 (nI u)) us))),(6,V.d (D.int .i64 (↑us.length:Int))),(7,V.d (D.int .i64 (IntKind.i64.wrap (i+(1:Int)))))] [(0,Ob.val 1 (V.d (D.sl 1 (List.map (λ u=>D.sl 1 (nI u)) us)))),(1,Ob.val 1 (V.slo 2 1 B.length)),(2,Ob.row B)] (AK cx (bK 54 zet p mkB (CK.plain zo)) n 53 3 2 (EK cx 53 3))
  | x=>none)) else none
 | x=>none) else some (Out.ret (V.d (D.int .i64 (Int.negSucc 0))),[(0,Ob.val 1 (V.d (D.sl 1 (List.map (λ u=>D.sl 1 (nI u)) us)))),(1,Ob.val 1 (V.slo 2 1 B.length)),(2,Ob.row B)]):=by kernel_rfl
theorem yii(v:D→Option (List D×Int))(nx:D→List D→Option Int)(n:Nat)(l:List T):zn cx (zr7 v nx) n 26 [.d (.sl 5 (T.ds l))] []=zc (v (D.sl 5 (T.ds l))) λ b=>bif !decide (b.snd=(0:Int)) then some (Out.ret (V.tup [V.d (D.sl 1 []),V.d (D.int .i64 b.snd)]),[]) else zb (decide ((↑(T.ds l).length:Int)≤(↑(T.ds l).length:Int))&&decide ((↑(T.ds l).length:Int)≤4294967296)&&true&&true&&true) (LP cx (zr7 v nx) n 26 0 7 n [(0,V.d (D.sl 5 (T.ds l))),(6,V.sl 1 [] 6),(7,V.ptr 7 0),(8,V.func 53 [V.ptr 4 0,V.ptr 7 0])] [(6,Ob.tok 0),(7,Ob.val 1 (V.slo 20 1 (↑(T.ds l).length:Int).toNat)),(20,Ob.row (List.replicate (↑(T.ds l).length:Int).toNat (qe cx.P 4 [D.bool false]))),(4,Ob.val 1 (V.d (D.sl 1 b.1)))] (AK cx (zr7 v nx) n 26 0 7 (EK cx 26 0))):=by kernel_rfl
theorem yfw(v:D→Option (List D×Int))(nx:D→List D→Option Int)(n k:Nat)(l:List T)(us L B:List D):LP cx (zr7 v nx) n 26 0 7 (k+1) [(0,V.d (D.sl 5 (T.ds l))),(6,V.sl 1 L 6),(7,V.ptr 7 0),(8,V.func 53 [V.ptr 4 0,V.ptr 7 0])] [(6,Ob.tok L.length),(7,Ob.val 1 (V.slo 20 1 B.length)),(20,Ob.row B),(4,Ob.val 1 (V.d (D.sl 1 us)))] (AK cx (zr7 v nx) n 26 0 7 (EK cx 26 0))=bif decide ((↑L.length:Int)<(↑(T.ds l).length:Int)) then zc (nx (D.sl 1 us,B,B.length).fst (D.sl 1 us,B,B.length).snd.fst) λ i=>zb ((D.sl 1 us,B,B.length).snd.snd.beq (D.sl 1 us,B,B.length).snd.fst.length) (bif decide (i<(0:Int)) then some (Out.ret (V.tup [V.d (D.sl 1 []),V.d (D.int .i64 (272:Int))]),[]) else zb (decide (0≤i)&&decide (i<(↑(D.sl 1 us,B,B.length).snd.fst.length:Int))) (zb ((D.sl 1 us,B,B.length).snd.fst.length.beq B.length&&true&&true) (zb (decide (L.length=L.length)&&decide (L.length+[D.int .i64 i].length≤4294967296)) (LP cx (zr7 v nx) n 26 0 7 k [(0,V.d (D.sl 5 (T.ds l))),(6,V.sl 1 (L++[D.int .i64 i]) 6),(7,V.ptr 7 0),(8,V.func 53 [V.ptr 4 0,V.ptr 7 0])] [(6,Ob.tok (L.length+[D.int .i64 i].length)),(7,Ob.val 1 (V.slo 20 1 (D.sl 1 us,B,B.length).snd.fst.length)),(20,Ob.row (B.set i.toNat (D.bool true))),(4,Ob.val 1 (V.d (D.sl 1 us)))] (AK cx (zr7 v nx) n 26 0 7 (EK cx 26 0)))))) else some (Out.ret (V.tup [V.d (D.sl 1 L),V.d (D.int .i64 (0:Int))]),[]):=by kernel_rfl
theorem zsp{σ:St}{B:List D}{n:Nat}(h:z74 σ=some (B,n))(hn:Nat.beq n B.length=true):σ=zj9 B:=by
 unfold z74 at h;split at h
 ·cases h;obtain rfl:=pj hn;rfl
 ·cases h
theorem zxv{a:List V}{σ:St}{i:Int}{B:List D}{n:Nat}(h:zeo a σ=some (i,(B,n)))(hn:Nat.beq n B.length=true):a=[.d (.int .i64 i),.ptr 0 0]∧σ=zj9 B:=by
 unfold zeo at h;split at h
 ·obtain ⟨q,hq,h⟩:=zd h;cases h;exact ⟨rfl,zsp hq hn⟩
 ·cases h
theorem zqm{a:List V}{σ:St}{x:D}{B:List D}{n:Nat}(h:zet a σ=some (x,(B,n)))(hn:Nat.beq n B.length=true):a=[.d x,.func 55 [.ptr 0 0]]∧σ=zj9 B:=by
 unfold zet at h;split at h
 ·obtain ⟨q,hq,h⟩:=zd h;cases h;exact ⟨rfl,zsp hq hn⟩
 ·cases h
theorem zq4{α β:Type}{f:Nat}{dec:List V→St→Option (α×(List D×Nat))}{p:α→List D→Option β}{mk:β→V}{S:CK R1}(hS:knows cx S.S (zj cx))
  (hf:∀ a σ q B n b,dec a σ=some (q,(B,n))→Nat.beq n B.length=true→p q B=some b→zj cx f a σ=some (.ret (mk b),zj9 B)):knows cx (bK f dec p mk S).S (zj cx):=v8 hS λ a σ q r hd h=>by
 obtain ⟨q,B,n⟩:=q;obtain ⟨b,hb,h⟩:=zd h;obtain ⟨hn,h⟩:=zf h;cases h;exact hf a σ q B n b hd hn hb
def zjg:List D→Option (List Bool)
 | []=>some []
 | .bool b::r=>zc (zjg r) λ l=>some (b::l)
 | _=>none
theorem zej:∀ {l:List D} {r:List Bool},zjg l=some r→l=bD r
 | [],r,h=>by cases h; rfl
 | .bool b::l,r,h=>by
  obtain ⟨q,hq,h⟩:=zd h;cases h;rw [zej hq]; rfl
theorem zg0:∀ B:List Bool,zjg (bD B)=some B
 | []=>rfl
 | b::B=>by
  show zc (zjg (bD B)) _=_;rw [zg0 B]; rfl
theorem yg5(B:List Bool)(i:Nat)(b:Bool)(hb:B[i]?=some b):zj cx 55 [.d (.int .i64 i),.ptr 0 0] (zj9 (bD B))=some (.ret (mkB (!b)),zj9 (bD B)):=by
 refine zm zp (N:=0) ?_;have hbi:∀ {R:Type} {K:D→Option R},za (bD B) (i:Int).toNat K=K (.bool b):=λ {R K}=>zex (by rw [po]; unfold bD; rw [List.getElem?_map,hb]; rfl)
 have hi:=(pn.1 hb).1;rw [yh5,y8,yf (by rw [zvk]; exact hi),Bool.and_self,xm,Nat.beq_refl,xm,hbi]
 rfl
def p55(i:Int)(L:List D):Option Bool:=zc (zjg L) λ B=>zb (decide (0≤i)) (zc B[i.toNat]? λ b=>some (!b))
theorem yap{B:List Bool}{i:Nat}{b:Bool}(hb:B[i]?=some b):p55 (i:Int) (bD B)=some (!b):=by
 unfold p55;rw [zg0,ww,y8,xm,po,hb]; rfl
theorem z0a:knows cx (bK 55 zeo p55 mkB (CK.plain zo)).S (zj cx):=zq4 zp λ a σ i L n b hd hn hb=>by
 obtain ⟨rfl,rfl⟩:=zxv hd hn;obtain ⟨B,hB,hb⟩:=zd hb;obtain ⟨h0,hb⟩:=zf hb;obtain ⟨c,hc,hb⟩:=zd hb;cases hb;rw [zej hB];have:=yg5 B i.toNat c hc;rw [Int.toNat_of_nonneg (pc h0)] at this;exact this
theorem m91(B:List Bool)(l:List Nat)(hl:l.length<4294967296)(hB:∀ k∈l,k<B.length):zj cx 91 [.d (.sl 1 (nI l)),.func 55 [.ptr 0 0]] (zj9 (bD B))=some (.ret (mkI (wi (λ k=>!B.getD k false) l)),zj9 (bD B)):=by
 refine zm z0a (N:=l.length+1) ?_;rw [yhy,show (List.map (λ k:Nat=>D.int .i64 (k:Int)) l).length=l.length from ph _]
 have h:=vr (λ k i=>LP cx (bK 55 zeo p55 mkB (CK.plain zo)) (l.length+1) 91 2 2 k [(0,V.d (D.sl 1 (nI l))),(1,V.func 55 [V.ptr 0 0]),(7,V.d (D.int .i64 (l.length:Int))),(8,V.d (D.int .i64 i))] [(0,Ob.val 1 (V.slo 1 1 (bD B).length)),(1,Ob.row (bD B))] (AK cx (bK 55 zeo p55 mkB (CK.plain zo)) (l.length+1) 91 2 2 (EK cx 91 2)))
  l (λ k=>!B.getD k false) (λ j=>some (.ret (mkI j),zj9 (bD B))) (some (.ret (mkI (-1)),zj9 (bD B))) hl
  (λ k j x hj hx=>by
   refine (yfk p55 (l.length+1) k l (bD B) j).trans ?_;have hlx:∀ {R:Type} {K:D→Option R},za (List.map (λ k:Nat=>D.int .i64 (k:Int)) l) (j:Int).toNat K=K (.int .i64 (x:Int)):=λ {R K}=>by
    have:=zhj (l:=l) (i:=(j:Int).toNat) (K:=K);rw [po,hx] at this;rw [po];exact this
   have hxB:=p4 (hB x (pq hx));generalize B[x]'(hB x (pq hx))=b at hxB;have hg:B.getD x false=b:=by rw [List.getD_eq_getElem?_getD,hxB]; rfl
   rw [yf hj,pw,y8,show (List.map (λ k:Nat=>D.int .i64 (k:Int)) l).length=l.length from ph _,yf hj,Bool.and_self,xm,hlx,zmg,xu];simp only [decide_true,pw];rw [yap hxB,ww,Nat.beq_refl,xm,hg];rfl)
  (λ k=>by
   refine (yfk p55 (l.length+1) k l (bD B) l.length).trans ?_;rw [yw,px]; rfl) (k:=l.length+1) (Nat.lt_succ_self _)
 refine Eq.trans ?_ (h.trans ?_)
 ·rfl
 ·unfold wi;cases xh (λ k=>!B.getD k false) l 0 <;> rfl
def p91(x:D)(L:List D):Option Int:=zc (zjg L) λ B=>(match x with | .sl 1 X=>zc (zil X) λ l=>zb (yn l&&l.all λ k=>decide (k<B.length)) (some (wi (λ k=>!B.getD k false) l)) | _=>none)
theorem yan{B:List Bool}{l:List Nat}(hl:yn l=true)(hB:∀ k∈l,k<B.length):p91 (.sl 1 (nI l)) (bD B)=some (wi (λ k=>!B.getD k false) l):=by
 unfold p91;rw [zg0,ww];show zc (zil (nI l)) _=_;rw [zi4,ww,hl,show (l.all λ k=>decide (k<B.length))=true from List.all_eq_true.2 λ k hk=>pa (hB k hk)];rfl
theorem z33:knows cx (bK 91 zet p91 mkI (CK.plain zo)).S (zj cx):=zq4 zp λ a σ x L n b hd hn hb=>by
 obtain ⟨rfl,rfl⟩:=zqm hd hn;obtain ⟨B,hB,hb⟩:=zd hb;split at hb
 ·obtain ⟨l,hl,hb⟩:=zd hb;obtain ⟨h1,hb⟩:=zf hb;cases hb;rw [pm] at h1;rw [zej hB,zfi hl];exact m91 B l (yp h1.1) λ k hk=>pc (List.all_eq_true.1 h1.2 k hk)
 ·cases hb
theorem m54(B:List Bool)(l:List Nat)(hl:yn l=true)(hB:∀ k∈l,k<B.length):zj cx 54 [.d (.sl 1 (nI l)),.func 55 [.ptr 0 0]] (zj9 (bD B))=some (.ret (mkB (l.any λ k=>!B.getD k false)),zj9 (bD B)):=by
 refine zm z33 (N:=0) ?_;refine (yh6 p91 0 l (bD B)).trans ?_;show zc (p91 (.sl 1 (nI l)) (bD B)) _=_;rw [yan hl hB,ww];show zb (Nat.beq (bD B).length (bD B).length) _=_;rw [Nat.beq_refl,xm,zhp];rfl
def p54(x:D)(L:List D):Option Bool:=zc (zjg L) λ B=>(match x with | .sl 1 X=>zc (zil X) λ l=>zb (yn l&&l.all λ k=>decide (k<B.length)) (some (l.any λ k=>!B.getD k false)) | _=>none)
theorem yaq{B:List Bool}{l:List Nat}(hl:yn l=true)(hB:∀ k∈l,k<B.length):p54 (.sl 1 (nI l)) (bD B)=some (l.any λ k=>!B.getD k false):=by
 unfold p54;rw [zg0,ww];show zc (zil (nI l)) _=_;rw [zi4,ww,hl,show (l.all λ k=>decide (k<B.length))=true from List.all_eq_true.2 λ k hk=>pa (hB k hk)];rfl
theorem z34:knows cx (bK 54 zet p54 mkB (CK.plain zo)).S (zj cx):=zq4 zp λ a σ x L n b hd hn hb=>by
 obtain ⟨rfl,rfl⟩:=zqm hd hn;obtain ⟨B,hB,hb⟩:=zd hb;split at hb
 ·obtain ⟨l,hl,hb⟩:=zd hb;obtain ⟨h1,hb⟩:=zf hb;cases hb;rw [pm] at h1;rw [zej hB,zfi hl];exact m54 B l h1.1 λ k hk=>pc (List.all_eq_true.1 h1.2 k hk)
 ·cases hb
def zov:List D→Option (List (List Nat))
 | []=>some []
 | .sl 1 L::r=>zc (zil L) λ u=>zc (zov r) λ l=>some (u::l)
 | _=>none
theorem zou:∀ {l:List D} {r:List (List Nat)},zov l=some r→l=wc r
 | [],r,h=>by cases h; rfl
 | x::l,r,h=>by
  unfold zov at h;split at h
  ·rename_i he; cases he
  ·rename_i L r' he;cases he;obtain ⟨u,hu,h⟩:=zd h;obtain ⟨q,hq,h⟩:=zd h;cases h;rw [zou hq,zfi hu]; rfl
  ·cases h
theorem z0l:∀ us:List (List Nat),zov (wc us)=some us
 | []=>rfl
 | u::us=>by
  show zc (zil (nI u)) _=_;rw [zi4,ww];show zc (zov (wc us)) _=_;rw [z0l us]; rfl
def zvs(us:List (List Nat))(B:List Bool)(i:Nat):Bool:=!B.getD i false&&!(zdk us i).any λ k=>!B.getD k false
def zjn(us:List (List Nat))(B:List Bool):Nat→Nat→Option Nat
 | 0,_=>none
 | d+1,i=>bif zvs us B i then some i else zjn us B d (i+1)
def z77:Option Nat→Int | some i=>i | none=>-1
theorem m53(us:List (List Nat))(B:List Bool)(hul:us.length<4294967296)(hB:B.length=us.length)(hU:zii us)(hs:∀ u∈us,yn u=true):zj cx 53 [.ptr 0 0,.ptr 1 0] (psO (.sl 1 (wc us)) (bD B))=some (.ret (mkI (z77 (zjn us B us.length 0))),psO (.sl 1 (wc us)) (bD B)):=by
 refine zm z34 (N:=us.length+1) ?_;obtain ⟨N,hN⟩:∃ N,N=us.length+1:=⟨_,rfl⟩;rw [yh7,show (List.map (λ u=>D.sl 1 (nI u)) us).length=us.length from ph _,←hN]
 have key:∀ (d i k:Nat),i+d=us.length→d<k→LP cx (bK 54 zet p54 mkB (CK.plain zo)) N 53 3 2 k [(1,V.ptr 1 0),(5,V.d (D.sl 1 (wc us))),(6,V.d (D.int .i64 (us.length:Int))),(7,V.d (D.int .i64 (i:Int)))] [(0,Ob.val 1 (V.d (D.sl 1 (wc us)))),(1,Ob.val 1 (V.slo 2 1 (bD B).length)),(2,Ob.row (bD B))] (AK cx (bK 54 zet p54 mkB (CK.plain zo)) N 53 3 2 (EK cx 53 3)) =
   some (.ret (mkI (z77 (zjn us B d i))),psO (.sl 1 (wc us)) (bD B)):=by
  intro d
  induction d with
  | zero=>
   intro i k hi hk;obtain ⟨k,rfl⟩:∃ k',k=k'+1:=⟨k - 1,by omega⟩
   obtain rfl:i=us.length:=by omega
   refine (yfo p54 N k us (bD B) us.length).trans ?_;rw [yw,px];rfl
  | succ d ih=>
   intro i k hi hk;obtain ⟨k,rfl⟩:∃ k',k=k'+1:=⟨k - 1,by omega⟩
   have hil:i<us.length:=by omega
   have hih:=ih (i+1) k (by omega) (by omega)
   have hBi:=p4 (show i<B.length by omega)
   generalize B[i]'(show i<B.length by omega)=b at hBi
   have g1:B.getD i false=b:=by rw [List.getD_eq_getElem?_getD,hBi]; rfl
   have hui:=p4 hil;have hmem:=List.getElem_mem hil;generalize us[i]=u at hui hmem;have g3:zdk us i=u:=by unfold zdk; rw [List.getD_eq_getElem?_getD,hui]; rfl
   have hbi:∀ {R:Type} {K:D→Option R},za (bD B) (i:Int).toNat K=K (.bool b):=λ {R K}=>zex (by rw [po]; unfold bD; rw [List.getElem?_map,hBi]; rfl)
   have hul2:∀ {R:Type} {K:D→Option R},za (List.map (λ u=>D.sl 1 (nI u)) us) (i:Int).toNat K=K (.sl 1 (nI u)):=λ {R K}=>zex (by rw [po]; exact zvu hui)
   have hud:(List.map (λ u=>D.sl 1 (nI u)) us).length=us.length:=ph _;have d1:decide ((i:Int)<((bD B).length:Int))=true:=yf (by rw [zvk]; omega)
   refine (yfo p54 N k us (bD B) i).trans ?_;rw [yf hil,pw,y8,hud,yf hil,Bool.and_self,xm,hul2,z1p,xu];simp only [cells3,Bool.true_or,pw];rw [d1,Bool.and_self,xm,Nat.beq_refl,xm,hbi,yb8,xu];simp only;unfold zjn zvs;rw [g1,g3];cases b
   ·rw [Bool.not_false,pw,yaq (hs u hmem) (λ k hk=>by rw [hB]; exact hU u hmem k hk),ww,xm,Bool.true_and]
    cases u.any λ k=>!B.getD k false
    ·rfl
    ·rw [Bool.not_true,px,px,w9 hil hul];exact hih
   ·rw [Bool.not_true,px,Bool.false_and,px,w9 hil hul];exact hih
 refine Eq.trans ?_ (key us.length 0 N (by omega) (by omega))
 rfl
def zyc(B:List Bool)(o:List Nat):Prop:=∀ k,k<B.length→B.getD k false=decide (k∈o)
theorem z8b{us:List (List Nat)}(hU:zii us){B:List Bool}(hB:B.length=us.length){o:List Nat}(h:zyc B o){i:Nat}(hi:i<us.length):zvs us B i=zfr us o i:=by
 unfold zvs zfr;rw [h i (by omega)]
 congr 1;have:∀ u:List Nat,(∀ k∈u,k<us.length)→(!u.any λ k=>!B.getD k false)=u.all λ k=>decide (k∈o):=λ u=>by
  induction u with
  | nil=>intro _; rfl
  | cons a u ih=>
   intro hu;have ih:=ih λ k hk=>hu k (pr _ hk);rw [List.any_cons,List.all_cons,←ih,h a (by rw [hB]; exact hu a (pp ..))]
   cases decide (a∈o) <;> simp
 exact this _ λ k hk=>hU.row hk
theorem z02{us:List (List Nat)}(hU:zii us){B:List Bool}(hB:B.length=us.length){o:List Nat}(h:zyc B o):∀ (d i:Nat),i+d≤us.length→zjn us B d i=zby us o d i
 | 0,_,_=>rfl
 | d+1,i,hi=>by
  unfold zjn zby;rw [z8b hU hB h (by omega),z02 hU hB h d (i+1) (by omega)]
theorem z12{B:List Bool}{o:List Nat}(h:zyc B o){i:Nat}(_hi:i<B.length):zyc (B.set i true) (o++[i]):=by
 intro k hk;rw [List.length_set] at hk;rw [List.getD_eq_getElem?_getD,List.getElem?_set];by_cases e:i=k
 ·subst e;rw [if_pos rfl,if_pos hk];simp
 ·rw [if_neg e,←List.getD_eq_getElem?_getD,h k hk];simp only [List.mem_append,List.mem_singleton];rw [Bool.eq_iff_iff,decide_eq_true_iff,decide_eq_true_iff];constructor
  ·exact .inl
  ·rintro (h | h)
   ·exact h
   ·exact absurd h.symm e
def zbm(l:List T):List Nat×Int:=bif decide (v7 l=0) then zvr (zep l) else ([],v7 l)
def zyv(x:D)(L:List D):Option Int:=zc (zjg L) λ B=>(match x with | .sl 1 X=>zc (zov X) λ us=>zb (decide (us.length<4294967296)&&decide (B.length=us.length)&&us.all λ u=>yn u&&u.all λ k=>decide (k<us.length)) (some (z77 (zjn us B us.length 0))) | _=>none)
theorem zpz{us:List (List Nat)}:(us.all λ u=>yn u&&u.all λ k=>decide (k<us.length))=true↔zii us∧∀ u∈us,yn u=true:=by
 rw [List.all_eq_true];constructor
 ·intro h;refine ⟨λ u hu k hk=>?_,λ u hu=>?_⟩
  ·have:=h u hu;rw [pm] at this;exact pc (List.all_eq_true.1 this.2 k hk)
  ·have:=h u hu;rw [pm] at this;exact this.1
 ·rintro ⟨h1,h2⟩ u hu;rw [h2 u hu,Bool.true_and];exact List.all_eq_true.2 λ k hk=>pa (h1 u hu k hk)
theorem z8c{us:List (List Nat)}{B:List Bool}(h1:us.length<4294967296)(hB:B.length=us.length)(hU:zii us)(hs:∀ u∈us,yn u=true):zyv (.sl 1 (wc us)) (bD B)=some (z77 (zjn us B us.length 0)):=by
 unfold zyv;rw [zg0,ww];show zc (zov (wc us)) _=_;rw [z0l,ww,pa h1,pa hB,zpz.2 ⟨hU,hs⟩];rfl
theorem zzu{a:List V}{σ:St}{x:D}{B:List D}{n:Nat}(h:z6u a σ=some (x,(B,n)))(hn:Nat.beq n B.length=true):a=[.ptr 0 0,.ptr 1 0]∧σ=psO x B:=by
 unfold z6u at h;split at h
 ·unfold pdO at h;split at h
  ·cases h;obtain rfl:=pj hn;exact ⟨rfl,rfl⟩
  ·cases h
 ·cases h
theorem z4a:knows cx (zr7 u24 zyv).S (zj cx):=zk (v8 zp λ a σ q r hd h=>by
  obtain ⟨x,B,n⟩:=q;obtain ⟨i,hi,h⟩:=zd h;obtain ⟨hn,h⟩:=zf h;cases h;obtain ⟨rfl,rfl⟩:=zzu hd hn;obtain ⟨C,hC,hi⟩:=zd hi;split at hi
  ·obtain ⟨us,hus,hi⟩:=zd hi;obtain ⟨h1,hi⟩:=zf hi;cases hi;rename_i X heq _ _ _;obtain rfl:x=.sl 1 X:=heq;rw [pm,pm,zpz] at h1;have hC:B=bD C:=zej hC;subst hC;rw [zou hus];exact m53 us C (pc h1.1.1) (pc h1.1.2) h1.2.1 h1.2.2
  ·cases hi) λ a q b hd h hb=>z10 h hb
theorem z5q(N:Nat)(l:List T)(us:List (List Nat))(hl:l.length<4294967295)(hul:us.length=l.length)(hU:zii us)(hs:∀ u∈us,yn u=true):∀ (d k:Nat) (o:List Nat) (B:List Bool),o.length+d=us.length→d<k→B.length=us.length→zyc B o →
  LP cx (zr7 u24 zyv) N 26 0 7 k [(0,V.d (D.sl 5 (T.ds l))),(6,V.sl 1 (nI o) 6),(7,V.ptr 7 0),(8,V.func 53 [V.ptr 4 0,V.ptr 7 0])] [(6,Ob.tok (nI o).length),(7,Ob.val 1 (V.slo 20 1 (bD B).length)),(20,Ob.row (bD B)),(4,Ob.val 1 (V.d (D.sl 1 (wc us))))] (AK cx (zr7 u24 zyv) N 26 0 7 (EK cx 26 0)) =
  some (.ret (match zdl us us.length d o with | some o=>mk2 (nI o,0) | none=>mk2 ([],272)),[])
 | 0,k,o,B,ho,hk,hB,ht=>by
  obtain ⟨k,rfl⟩:∃ k',k=k'+1:=⟨k - 1,by omega⟩
  refine (yfw u24 zyv N k l (wc us) (nI o) (bD B)).trans ?_;rw [zu,zfj,show o.length=l.length by omega,yw,px]
  rfl
 | d+1,k,o,B,ho,hk,hB,ht=>by
  obtain ⟨k,rfl⟩:∃ k',k=k'+1:=⟨k - 1,by omega⟩
  refine (yfw u24 zyv N k l (wc us) (nI o) (bD B)).trans ?_;rw [zu,pa (p:=((nI o).length:Int)<(l.length:Int)) (by rw [zfj]; omega),pw]
  rw [z8c (by omega) hB hU hs,ww,Nat.beq_refl,xm,z02 hU hB ht us.length 0 (by omega)]
  unfold zdl;cases hx:zby us o us.length 0 with
  | none=>rfl
  | some i=>
   obtain ⟨_,h2,h3⟩:=zpj hx;have hiB:i<B.length:=by omega
   have e0:decide ((i:Int)<0)=false:=pb (by omega)
   have h4:nI (o++[i])=nI o++[D.int .i64 (i:Int)]:=by unfold nI; rw [List.map_append]; rfl
   have ih:=z5q N l us hl hul hU hs d k (o++[i]) (B.set i true) (by simp; omega) (by omega) (by simp [hB]) (z12 ht hiB)
   rw [h4,←ycb,List.length_set,pe] at ih;show (bif decide ((i:Int)<0) then _ else zb (decide (0≤(i:Int))&&decide ((i:Int)<((bD B).length:Int))) (zb (true&&true&&true) (zb (decide ((nI o).length=(nI o).length)&&decide ((nI o).length+[D.int .i64 (i:Int)].length≤4294967296)) _)))=_;rw [e0,px,y8,yf (by rw [zvk]; exact hiB),Bool.and_self,xm,Bool.and_self,xm,pa (p:=(nI o).length=(nI o).length) rfl,pa (p:=(nI o).length+[D.int .i64 (i:Int)].length≤4294967296) (by rw [zfj]; simp only [py,pz]; omega),Bool.and_self,xm]
   exact ih
theorem m26(l:List T)(hg:zbl l=true):zj cx 26 [.d (.sl 5 (T.ds l))] []=some (.ret (mk2 (nI (zbm l).1,(zbm l).2)),[]):=by
 unfold zbm;obtain ⟨h1,h2,h3⟩:=vp.1 hg;have hlb:=zgr l;have hl:l.length≤65536:=by omega
 have hul:=zjq l;refine zm z4a (N:=l.length+1) ?_;rw [yii,z4n hg,ww];unfold zdj;cases hw:decide (v7 l=0)
 ·simp only [px,hw,Bool.not_false,pw];rfl
 ·have hl2:decide ((l.length:Int)≤4294967296)=true:=pa (by omega)
  simp only [pw,decide_true,Bool.not_true,px,zu,Int.le_refl,hl2,Bool.and_self,xm,po,ycy,ycc];have h:=z5q (l.length+1) l (zep l) (by omega) hul (zw4 l) (z1x (by omega)) l.length (l.length+1) [] (List.replicate l.length false) (by simp [hul]) (by omega) (by simp [hul]) (λ k hk=>by
   rw [List.length_replicate] at hk;rw [List.getD_eq_getElem?_getD,List.getElem?_replicate,if_pos hk];simp)
  rw [zvk,List.length_replicate] at h;refine Eq.trans ?_ (h.trans ?_)
  ·rfl
  ·unfold zvr;rw [hul];cases zdl (zep l) l.length l.length [] <;> rfl
theorem yig(v:D→Option (List D×Int))(h:D→Int→Option Bool)(n:Nat)(l:List T):zn cx (xg v h) n 34 [.d (.sl 5 (T.ds l))] []=zc (v (D.sl 5 (T.ds l))) λ b=>bif !decide (b.snd=(0:Int)) then some (Out.ret (V.tup [V.d (D.sl 1 []),V.d (D.int .i64 b.snd)]),[]) else LP cx (xg v h) n 34 0 5 n [(0,V.d (D.sl 5 (T.ds l))),(4,V.d (D.sl 1 b.1)),(6,V.sl 1 [] 6)] [(6,Ob.tok 0)] (AK cx (xg v h) n 34 0 5 (EK cx 34 0)):=by kernel_rfl
theorem yfu(v:D→Option (List D×Int))(h:D→Int→Option Bool)(n k:Nat)(l:List T)(us:List (List Nat))(L:List D):LP cx (xg v h) n 34 0 5 (k+1) [(0,V.d (D.sl 5 (T.ds l))),(4,V.d (D.sl 1 (wc us))),(6,V.sl 1 L 6)] [(6,Ob.tok L.length)] (AK cx (xg v h) n 34 0 5 (EK cx 34 0))=bif decide ((↑L.length:Int)<(↑(T.ds l).length:Int)) then LP cx (xg v h) n 34 0 8 n [(0,V.d (D.sl 5 (T.ds l))),(4,V.d (D.sl 1 (List.map (λ u=>D.sl 1 (nI u)) us))),(6,V.sl 1 L 6),(7,V.d (D.int .i64 (Int.negSucc 0))),(8,V.d (D.int .i64 (IntKind.i64.wrap ((↑(T.ds l).length:Int) - (1:Int)))))] [(6,Ob.tok L.length)] (AL cx (xg v h) n 34 0 5 8 (inK cx (xg v h) n 34 0 5 k (AK cx (xg v h) n 34 0 5 (EK cx 34 0)))) else some (Out.ret (V.tup [V.d (D.sl 1 L),V.d (D.int .i64 (0:Int))]),[]):=by kernel_rfl
theorem z99(v:D→Option (List D×Int))(h:D→Int→Option Bool)(n k m:Nat)(l:List T)(us:List (List Nat))(L:List D)(x i:Int):LP cx (xg v h) n 34 0 8 (m+1) [(0,V.d (D.sl 5 (T.ds l))),(4,V.d (D.sl 1 (wc us))),(6,V.sl 1 L 6),(7,V.d (D.int .i64 x)),(8,V.d (D.int .i64 i))] [(6,Ob.tok L.length)] (AL cx (xg v h) n 34 0 5 8 (inK cx (xg v h) n 34 0 5 k (AK cx (xg v h) n 34 0 5 (EK cx 34 0))))=bif decide ((0:Int)≤i) then zc (h (D.sl 1 L,i).fst (D.sl 1 L,i).snd) λ b=>LP cx (xg v h) n 34 0 12 n [(0,V.d (D.sl 5 (T.ds l))),(4,V.d (D.sl 1 (List.map (λ u=>D.sl 1 (nI u)) us))),(6,V.sl 1 L 6),(7,V.d (D.int .i64 x)),(8,V.d (D.int .i64 i)),(9,V.d (D.bool !b)),(10,V.d (D.int .i64 (0:Int)))] [(6,Ob.tok L.length)] (AL cx (xg v h) n 34 0 8 12 (inK cx (xg v h) n 34 0 8 m (AL cx (xg v h) n 34 0 5 8 (inK cx (xg v h) n 34 0 5 k (AK cx (xg v h) n 34 0 5 (EK cx 34 0)))))) else bif decide (x<(0:Int)) then some (Out.ret (V.tup [V.d (D.sl 1 []),V.d (D.int .i64 (272:Int))]),[]) else zb (decide (L.length=L.length)&&decide (L.length+[D.int .i64 x].length≤4294967296)) (LP cx (xg v h) n 34 0 5 k [(0,V.d (D.sl 5 (T.ds l))),(4,V.d (D.sl 1 (List.map (λ u=>D.sl 1 (nI u)) us))),(6,V.sl 1 (L++[D.int .i64 x]) 6)] [(6,Ob.tok (L.length+[D.int .i64 x].length))] (AK cx (xg v h) n 34 0 5 (EK cx 34 0))):=by kernel_rfl
theorem z98(v:D→Option (List D×Int))(h:D→Int→Option Bool)(n k m p:Nat)(l:List T)(us:List (List Nat))(L:List D)(x i j:Int)(a:Bool):LP cx (xg v h) n 34 0 12 (p+1) [(0,V.d (D.sl 5 (T.ds l))),(4,V.d (D.sl 1 (wc us))),(6,V.sl 1 L 6),(7,V.d (D.int .i64 x)),(8,V.d (D.int .i64 i)),(9,V.d (D.bool a)),(10,V.d (D.int .i64 j))] [(6,Ob.tok L.length)] (AL cx (xg v h) n 34 0 8 12 (inK cx (xg v h) n 34 0 8 m (AL cx (xg v h) n 34 0 5 8 (inK cx (xg v h) n 34 0 5 k (AK cx (xg v h) n 34 0 5 (EK cx 34 0))))))=zb (decide (0≤i)&&decide (i<(↑(List.map (λ u=>D.sl 1 (nI u)) us).length:Int))) (za (List.map (λ u=>D.sl 1 (nI u)) us) i.toNat λ y=>za y.cells 0 λ c=>match c with
 | D.sl s l_1=>bif s.beq (cx.P.cellsOf 3)||l_1.isEmpty then bif decide (j<(↑l_1.length:Int)) then bif a then zb (decide (0≤i)&&decide (i<(↑(List.map (λ u=>D.sl 1 (nI u)) us).length:Int))) (za (List.map (λ u=>D.sl 1 (nI u)) us) i.toNat λ y=>za y.cells 0 λ c=>match c with
  | D.sl s l_2=>bif s.beq (cx.P.cellsOf 3)||l_2.isEmpty then zb (decide (0≤j)&&decide (j<(↑l_2.length:Int))) (za l_2 j.toNat λ y=>za y.cells 0 λ c=>match c with
   | D.int k' n_1=>bif decide (k'=IntKind.i64) then zc (h (D.sl 1 L,n_1).fst (D.sl 1 L,n_1).snd) λ b=>LP cx (xg v h) n 34 0 12 p [(0,V.d (D.sl 5 (T.ds l))),(4,V.d (D.sl 1 (List.map (λ u=>D.sl 1 (nI u)) us))),(6,V.sl 1 L 6),(7,V.d (D.int .i64 x)),(8,V.d (D.int .i64 i)),(9,V.d (D.bool b)),(10,V.d (D.int .i64 (IntKind.i64.wrap (j+(1:Int)))))] [(6,Ob.tok L.length)] (AL cx (xg v h) n 34 0 8 12 (inK cx (xg v h) n 34 0 8 m (AL cx (xg v h) n 34 0 5 8 (inK cx (xg v h) n 34 0 5 k (AK cx (xg v h) n 34 0 5 (EK cx 34 0)))))) else none
   | x=>none) else none
  | x=>none) else LP cx (xg v h) n 34 0 12 p [(0,V.d (D.sl 5 (T.ds l))),(4,V.d (D.sl 1 (List.map (λ u=>D.sl 1 (nI u)) us))),(6,V.sl 1 L 6),(7,V.d (D.int .i64 x)),(8,V.d (D.int .i64 i)),(9,V.d (D.bool false)),(10,V.d (D.int .i64 (IntKind.i64.wrap (j+(1:Int)))))] [(6,Ob.tok L.length)] (AL cx (xg v h) n 34 0 8 12 (inK cx (xg v h) n 34 0 8 m (AL cx (xg v h) n 34 0 5 8 (inK cx (xg v h) n 34 0 5 k (AK cx (xg v h) n 34 0 5 (EK cx 34 0)))))) else bif a then LP cx (xg v h) n 34 0 8 m [(0,V.d (D.sl 5 (T.ds l))),(4,V.d (D.sl 1 (List.map (λ u=>D.sl 1 (nI u)) us))),(6,V.sl 1 L 6),(7,V.d (D.int .i64 i)),(8,V.d (D.int .i64 (IntKind.i64.wrap (i - (1:Int)))))] [(6,Ob.tok L.length)] (AL cx (xg v h) n 34 0 5 8 (inK cx (xg v h) n 34 0 5 k (AK cx (xg v h) n 34 0 5 (EK cx 34 0)))) else LP cx (xg v h) n 34 0 8 m [(0,V.d (D.sl 5 (T.ds l))),(4,V.d (D.sl 1 (List.map (λ u=>D.sl 1 (nI u)) us))),(6,V.sl 1 L 6),(7,V.d (D.int .i64 x)),(8,V.d (D.int .i64 (IntKind.i64.wrap (i - (1:Int)))))] [(6,Ob.tok L.length)] (AL cx (xg v h) n 34 0 5 8 (inK cx (xg v h) n 34 0 5 k (AK cx (xg v h) n 34 0 5 (EK cx 34 0)))) else none
 | x=>none):=by kernel_rfl
theorem yc8{l:List Nat}{j x:Nat}(hx:l[j]?=some x){R:Type}{K:D→Option R}:za (nI l) (j:Int).toNat K=K (.int .i64 (x:Int)):=by
 rw [zhj,po,hx]; rfl
theorem z4l{us:List (List Nat)}{j:Nat}{u:List Nat}(hu:us[j]?=some u){R:Type}{K:D→Option R}:za (wc us) (j:Int).toNat K=K (.sl 1 (nI u)):=zex (by rw [po]; exact zvu hu)
def L34(N k:Nat)(l:List T)(us:List (List Nat))(o:List Nat):Option R1:=
 LP cx (xg u24 h50) N 34 0 5 k [(0,V.d (D.sl 5 (T.ds l))),(4,V.d (D.sl 1 (wc us))),(6,V.sl 1 (nI o) 6)] [(6,Ob.tok (nI o).length)] (AK cx (xg u24 h50) N 34 0 5 (EK cx 34 0))
def zz9(N k m:Nat)(l:List T)(us:List (List Nat))(o:List Nat)(x i:Int):Option R1:=
 LP cx (xg u24 h50) N 34 0 8 m [(0,V.d (D.sl 5 (T.ds l))),(4,V.d (D.sl 1 (wc us))),(6,V.sl 1 (nI o) 6),(7,V.d (D.int .i64 x)),(8,V.d (D.int .i64 i))] [(6,Ob.tok (nI o).length)] (AL cx (xg u24 h50) N 34 0 5 8 (inK cx (xg u24 h50) N 34 0 5 k (AK cx (xg u24 h50) N 34 0 5 (EK cx 34 0))))
def z7n(N k m p:Nat)(l:List T)(us:List (List Nat))(o:List Nat)(x i j:Int)(a:Bool):Option R1:=
 LP cx (xg u24 h50) N 34 0 12 p [(0,V.d (D.sl 5 (T.ds l))),(4,V.d (D.sl 1 (wc us))),(6,V.sl 1 (nI o) 6),(7,V.d (D.int .i64 x)),(8,V.d (D.int .i64 i)),(9,V.d (D.bool a)),(10,V.d (D.int .i64 j))] [(6,Ob.tok (nI o).length)] (AL cx (xg u24 h50) N 34 0 8 12 (inK cx (xg u24 h50) N 34 0 8 m (AL cx (xg u24 h50) N 34 0 5 8 (inK cx (xg u24 h50) N 34 0 5 k (AK cx (xg u24 h50) N 34 0 5 (EK cx 34 0))))))
def yc6(o:Option Nat)(x:Int):Int:=match o with | some i=>(i:Int) | none=>x
theorem zr8{i:Nat}(h:i<4294967296):IntKind.i64.wrap ((i:Int) - 1)=(i:Int) - 1:=IntWalk.i64_in _ (by omega)
theorem z03(N k m:Nat)(l:List T)(us:List (List Nat))(o:List Nat)(ho:yn o=true)(x:Int)(i:Nat)(hi:i<4294967296)(u:List Nat)(hu:us[i]?=some u)(hs:u.length<4294967296):∀ (r:List Nat) (j p:Nat) (a:Bool),u.drop j=r→j≤u.length→r.length<p →
  z7n N k m p l us o x i j a=zz9 N k m l us o (bif a&&r.all (λ k=>decide (k∈o)) then (i:Int) else x) ((i:Int) - 1)
 | [],j,p,a,hd,hj,hp=>by
  obtain ⟨p,rfl⟩:∃ k',p=k'+1:=⟨p - 1,by omega⟩
  have:u.length≤j:=by simpa using hd
  obtain rfl:j=u.length:=by omega
  have hil:=(pn.1 hu).1;unfold z7n;refine (z98 u24 h50 N k m p l us (nI o) x i u.length a).trans ?_;rw [y8,show (List.map (λ u=>D.sl 1 (nI u)) us).length=us.length from ph _,yf hil,Bool.and_self,xm];refine (z4l hu).trans ?_;rw [z1p,xu];simp only [cells3,Bool.true_or,pw];rw [zfj u,yw,px,zr8 hi];cases a <;> rfl
 | y::r,j,p,a,hd,hj,hp=>by
  obtain ⟨p,rfl⟩:∃ k',p=k'+1:=⟨p - 1,by omega⟩
  obtain ⟨h1,h2,h3⟩:=za0 hd;have hil:=(pn.1 hu).1;have ih:=z03 N k m l us o ho x i hi u hu hs r (j+1) p (a&&decide (y∈o)) h3 h1 (by simp at hp; omega)
  unfold z7n;refine (z98 u24 h50 N k m p l us (nI o) x i j a).trans ?_;rw [y8,show (List.map (λ u=>D.sl 1 (nI u)) us).length=us.length from ph _,yf hil,Bool.and_self,xm];refine (z4l hu).trans ?_;rw [z1p,xu];simp only [cells3,Bool.true_or,pw];rw [zfj u,yf h1,pw,List.all_cons,w9 h1 hs];cases a
  ·rw [Bool.false_and] at ih;rw [Bool.false_and] at ih;rw [Bool.false_and];exact ih
  ·rw [pw,xm];refine (z4l hu).trans ?_;rw [z1p,xu];simp only [cells3,Bool.true_or,pw];rw [zfj u,yf h1,y8,Bool.and_self,xm,yc8 h2,zmg,xu];simp only [decide_true,pw];rw [z59 ho,ww,zws,Bool.true_and];rw [Bool.true_and] at ih;exact ih
theorem zwl(us:List (List Nat))(o:List Nat):∀ (d i:Nat),zby us o (d+1) i=match zby us o d i with | some j=>some j | none=>bif zfr us o (i+d) then some (i+d) else none
 | 0,i=>by
  unfold zby;rfl
 | d+1,i=>by
  have ih:=zwl us o d (i+1);rw [zby,ih,zby];cases zfr us o i
  ·rw [px,px,show i+1+d=i+(d+1) by omega]
  ·rfl
theorem z04(N k:Nat)(l:List T)(us:List (List Nat))(o:List Nat)(hul:us.length<4294967296)(ho:yn o=true)(hoL:o.length<4294967295)(hs:∀ u∈us,u.length<N)(hN:N≤4294967296):∀ (d m:Nat) (x:Int),d≤us.length→d<m →
  zz9 N k m l us o x ((d:Int) - 1)=bif decide (yc6 (zby us o d 0) x<0) then some (.ret (mk2 ([],272)),[]) else
   LP cx (xg u24 h50) N 34 0 5 k [(0,V.d (D.sl 5 (T.ds l))),(4,V.d (D.sl 1 (wc us))),(6,V.sl 1 (nI o++[D.int .i64 (yc6 (zby us o d 0) x)]) 6)] [(6,Ob.tok ((nI o).length+1))] (AK cx (xg u24 h50) N 34 0 5 (EK cx 34 0))
 | 0,m,x,hd,hm=>by
  obtain ⟨m,rfl⟩:∃ k',m=k'+1:=⟨m - 1,by omega⟩
  unfold zz9;refine (z99 u24 h50 N k m l us (nI o) x (((0:Nat):Int) - 1)).trans ?_;rw [pb (p:=(0:Int)≤((0:Nat):Int) - 1) (by omega),px]
  rw [pa (p:=(nI o).length=(nI o).length) rfl,pa (p:=(nI o).length+[D.int .i64 x].length≤4294967296) (by rw [zfj]; simp only [py,pz]; omega),Bool.and_self,xm]
  rfl
 | d+1,m,x,hd,hm=>by
  obtain ⟨m,rfl⟩:∃ k',m=k'+1:=⟨m - 1,by omega⟩
  have hdl:d<us.length:=by omega
  have hu:=p4 hdl;have hmem:=List.getElem_mem hdl;generalize us[d]=u at hu hmem;have g3:zdk us d=u:=by unfold zdk; rw [List.getD_eq_getElem?_getD,hu]; rfl
  have e1:(((d+1:Nat):Int) - 1)=(d:Int):=by omega
  have hN2:=hs u hmem;have e2:zz9 N k (m+1) l us o x (d:Int)=z7n N k m N l us o x d 0 (!decide (d∈o)):=by
   unfold zz9 z7n;refine (z99 u24 h50 N k m l us (nI o) x d).trans ?_;rw [y8,pw,z59 ho,ww,zws];rfl
  rw [e1,e2];refine (z03 N k m l us o ho x d (by omega) u hu (by omega) u 0 N (!decide (d∈o)) rfl (Nat.zero_le _) hN2).trans ?_
  rw [z04 N k l us o hul ho hoL hs hN d m _ (by omega) (by omega),zwl,Nat.zero_add]
  have e3:zfr us o d=(!decide (d∈o)&&u.all λ k=>decide (k∈o)):=by unfold zfr; rw [g3]
  rw [e3];cases zby us o d 0 with
  | some i=>rfl
  | none=>cases (!decide (d∈o)&&u.all λ k=>decide (k∈o)) <;> rfl
theorem z5p(N:Nat)(l:List T)(us:List (List Nat))(hl:us.length=l.length)(hul:us.length<4294967295)(hs:∀ u∈us,u.length<N)(hN:N≤4294967296)(hlN:us.length<N):∀ (d k:Nat) (o:List Nat),o.length+d=us.length→d<k →
  L34 N k l us o=some (.ret (match zdl us us.length d o with | some o=>mk2 (nI o,0) | none=>mk2 ([],272)),[])
 | 0,k,o,ho,hk=>by
  obtain ⟨k,rfl⟩:∃ k',k=k'+1:=⟨k - 1,by omega⟩
  unfold L34;refine (yfu u24 h50 N k l us (nI o)).trans ?_;rw [zu,zfj,show o.length=l.length by omega,yw,px]
  rfl
 | d+1,k,o,ho,hk=>by
  obtain ⟨k,rfl⟩:∃ k',k=k'+1:=⟨k - 1,by omega⟩
  have e:L34 N (k+1) l us o=zz9 N k N l us o (-1) ((us.length:Int) - 1):=by
   unfold L34 zz9;refine (yfu u24 h50 N k l us (nI o)).trans ?_;rw [zu,pa (p:=((nI o).length:Int)<(l.length:Int)) (by rw [zfj]; omega),pw,←hl,zr8 (by omega)]
   rfl
  rw [e,z04 N k l us o (by omega) (zha (by omega)) (by omega) hs hN us.length N (-1) (Nat.le_refl _) hlN]
  unfold zdl;cases hx:zby us o us.length 0 with
  | none=>rfl
  | some i=>
   have e0:decide ((i:Int)<0)=false:=pb (by omega)
   have h4:nI (o++[i])=nI o++[D.int .i64 (i:Int)]:=by unfold nI; rw [List.map_append]; rfl
   have ih:=z5p N l us hl hul hs hN hlN d k (o++[i]) (by simp; omega) (by omega)
   unfold L34 at ih;rw [h4,pe] at ih;show (bif decide ((i:Int)<0) then _ else _)=_;rw [e0,px];exact ih
theorem m34(l:List T)(hg:zbl l=true):zj cx 34 [.d (.sl 5 (T.ds l))] []=some (.ret (mk2 (nI (zbm l).1,(zbm l).2)),[]):=by
 unfold zbm;obtain ⟨h1,h2,h3⟩:=vp.1 hg;have hlb:=zgr l;have hl:l.length≤65536:=by omega
 have hul:=zjq l;refine zm z4b (N:=l.length+1) ?_;rw [yig,z4n hg,ww];unfold zdj;cases hw:decide (v7 l=0)
 ·simp only [px,hw,Bool.not_false,pw];rfl
 ·simp only [pw,decide_true,Bool.not_true,px];have hus:∀ u∈zep l,u.length<l.length+1:=λ u hu=>by
   obtain ⟨t,_,rfl⟩:=List.mem_map.1 hu;have:=zuf (λ k=>y4 ((nmL l).getD k []) (wa [] [] t.kids)) (nmL l).length;exact Nat.lt_of_le_of_lt this (by rw [zf5]; omega)
  have h:=z5p (l.length+1) l (zep l) hul (by omega) hus (by omega) (by omega) (zep l).length (l.length+1) [] (by simp) (by omega)
  refine Eq.trans ?_ (h.trans ?_)
  ·rfl
  ·unfold zvr;cases zdl (zep l) (zep l).length (zep l).length [] <;> rfl
def o26(x:D):Option (List D×Int):=zc (zis x) λ l=>some (nI (zbm l).1,(zbm l).2)
theorem zsx{f:Nat}(hf:∀ l,zbl l=true→zj cx f [.d (.sl 5 (T.ds l))] []=some (.ret (mk2 (nI (zbm l).1,(zbm l).2)),[])){S:CK R1}(hS:knows cx S.S (zj cx)) :
  knows cx (z7 f qx o26 mk2 S).S (zj cx):=zk hS λ a q b hd h hb=>by
 obtain ⟨m,hm,hb⟩:=zd hb;cases hb;obtain ⟨h0,h1⟩:=zb0 hm;rw [xv h,h0];exact hf m h1
def zI(l:List Int):List D:=l.map (.int .i64)
abbrev D5:=D×(D×(D×(D×D)))
def mk5(q:D5):V:=.d (.agg [q.1,q.2.1,q.2.2.1,q.2.2.2.1,q.2.2.2.2])
def zr6(pl:D→Option (List D×List D))(h:D→Int→Option Bool)(c:D→Option D5):CK R1:=z7 51 qx pl mkM (z7 48 zdf (λ q=>h q.1 q.2) mkB (z7 61 qx c mk5 (CK.plain zo)))
def z89(pl:D→Option Int):CK R1:=z7 51 qx pl z5i (CK.plain zo)
def zr5(w:D→Option Int)(h:D→Int→Option Bool):CK R1:=z7 56 qx w mkI (z7 50 zdf (λ q=>h q.1 q.2) mkB (CK.plain zo))
def zr3(cl:D→Option (List D))(c:D→Option D5):CK R1:=z7 99 qx cl (λ l=>.d (.sl 1 l)) (z7 61 qx c mk5 (CK.plain zo))
def z1m:List V→Option (D×(D×Bool)) | [.d x,.d y,.d (.bool w)]=>some (x,(y,w)) | _=>none
def zig(p:D→D→Bool→Option Bool):CK R1:=z7 62 z1m (λ q=>p q.1 q.2.1 q.2.2) mkB (CK.plain zo)
def ygk(g:D→Option Bool)(w:Option Bool)(o v:D→Option (List D×Int))(c d:D→D→Option (List D×Int))(i:D→D→Option Bool)(s:D→D→Bool→Option Bool):CK R1:=
 z7 17 qx g mkB (z7 18 z6z (λ _=>w) mkB (z7 26 qx o mk2 (z7 34 qx v mk2 (z7 35 zzw (λ q=>c q.1 q.2) (λ q=>.tup [.d (.sl 5 q.1),.d (.int .i64 q.2)]) (z7 36 zzw (λ q=>d q.1 q.2) (λ q=>.tup [.d (.sl 5 q.1),.d (.int .i64 q.2)]) (z7 23 zzw (λ q=>i q.1 q.2) mkB (z7 37 z1m (λ q=>s q.1 q.2.1 q.2.2) mkB (CK.plain zo))))))))
theorem yf3(n:Nat)(l:List Int)(i:Int):zn cx (CK.plain zo) n 84 [.d (.sl 1 (zI l)),.d (.int .i64 i)] []=LP cx (CK.plain zo) n 84 0 2 n [(0,V.d (D.sl 1 (List.map (D.int .i64) l))),(1,V.d (D.int .i64 i)),(7,V.d (D.int .i64 (↑(List.map (D.int .i64) l).length:Int))),(8,V.d (D.int .i64 (0:Int)))] [] (AK cx (CK.plain zo) n 84 0 2 (EK cx 84 0)):=by kernel_rfl
theorem z93(n k:Nat)(l:List Int)(a i:Int):LP cx (CK.plain zo) n 84 0 2 (k+1) [(0,V.d (D.sl 1 (zI l))),(1,V.d (D.int .i64 a)),(7,V.d (D.int .i64 (l.length:Int))),(8,V.d (D.int .i64 i))] [] (AK cx (CK.plain zo) n 84 0 2 (EK cx 84 0))=bif decide (i<(↑l.length:Int)) then zb (decide (0≤i)&&decide (i<(↑(List.map (D.int .i64) l).length:Int))) (za (List.map (D.int .i64) l) i.toNat λ y=>za y.cells 0 λ c=>match c with
 | D.int k' n_1=>bif decide (k'=IntKind.i64) then bif decide (a=n_1) then some (Out.ret (V.d (D.int .i64 i)),[]) else LP cx (CK.plain zo) n 84 0 2 k [(0,V.d (D.sl 1 (List.map (D.int .i64) l))),(1,V.d (D.int .i64 a)),(7,V.d (D.int .i64 (↑l.length:Int))),(8,V.d (D.int .i64 (IntKind.i64.wrap (i+(1:Int)))))] [] (AK cx (CK.plain zo) n 84 0 2 (EK cx 84 0)) else none
 | x=>none) else some (Out.ret (V.d (D.int .i64 (Int.negSucc 0))),[]):=by kernel_rfl
theorem yf6(c:D→Int→Option Int)(n:Nat)(l:List Int)(i:Int):zn cx (z7 84 zdf (λ q=>c q.1 q.2) mkI (CK.plain zo)) n 48 [.d (.sl 1 (zI l)),.d (.int .i64 i)] []=zc (c (D.sl 1 (List.map (D.int .i64) l),i).fst (D.sl 1 (List.map (D.int .i64) l),i).snd) λ b=>some (Out.ret (V.d (D.bool (decide ((0:Int)≤b)))),[]):=by kernel_rfl
theorem yf5(n:Nat)(l:List Int)(i:Int):zn cx (CK.plain zo) n 50 [.d (.sl 1 (zI l)),.d (.int .i64 i)] []=LP cx (CK.plain zo) n 50 0 2 n [(0,V.d (D.sl 1 (List.map (D.int .i64) l))),(1,V.d (D.int .i64 i)),(5,V.d (D.int .i64 (0:Int)))] [] (AK cx (CK.plain zo) n 50 0 2 (EK cx 50 0)):=by kernel_rfl
theorem z97(n k:Nat)(l:List Int)(a i:Int):LP cx (CK.plain zo) n 50 0 2 (k+1) [(0,V.d (D.sl 1 (zI l))),(1,V.d (D.int .i64 a)),(5,V.d (D.int .i64 i))] [] (AK cx (CK.plain zo) n 50 0 2 (EK cx 50 0))=bif decide (i<(↑(List.map (D.int .i64) l).length:Int)) then zb (decide (0≤i)&&decide (i<(↑(List.map (D.int .i64) l).length:Int))) (za (List.map (D.int .i64) l) i.toNat λ y=>za y.cells 0 λ c=>match c with
 | D.int k' n_1=>bif decide (k'=IntKind.i64) then bif decide (n_1=a) then some (Out.ret (V.d (D.bool true)),[]) else LP cx (CK.plain zo) n 50 0 2 k [(0,V.d (D.sl 1 (List.map (D.int .i64) l))),(1,V.d (D.int .i64 a)),(5,V.d (D.int .i64 (IntKind.i64.wrap (i+(1:Int)))))] [] (AK cx (CK.plain zo) n 50 0 2 (EK cx 50 0)) else none
 | x=>none) else some (Out.ret (V.d (D.bool false)),[]):=by kernel_rfl
theorem yie(w:D→Option Int)(h:D→Int→Option Bool)(n:Nat)(l:List T)(z:List Int):zn cx (zr5 w h) n 36 [.d (.sl 5 (T.ds l)),.d (.sl 1 (zI z))] []=zc (w (D.sl 5 (T.ds l))) λ b=>bif !decide (b=(0:Int)) then some (Out.ret (V.tup [V.d (D.sl 5 []),V.d (D.int .i64 b)]),[]) else LP cx (zr5 w h) n 36 0 6 n [(0,V.d (D.sl 5 (T.ds l))),(1,V.d (D.sl 1 (List.map (D.int .i64) z))),(7,V.sl 5 [] 7),(8,V.d (D.int .i64 (0:Int)))] [(7,Ob.tok 0)] (AK cx (zr5 w h) n 36 0 6 (EK cx 36 0)):=by kernel_rfl
theorem yfs(w:D→Option Int)(h:D→Int→Option Bool)(n k:Nat)(l:List T)(z:List Int)(L:List D)(i:Int):LP cx (zr5 w h) n 36 0 6 (k+1) [(0,V.d (D.sl 5 (T.ds l))),(1,V.d (D.sl 1 (zI z))),(7,V.sl 5 L 7),(8,V.d (D.int .i64 i))] [(7,Ob.tok L.length)] (AK cx (zr5 w h) n 36 0 6 (EK cx 36 0))=bif decide (i<(↑(List.map (D.int .i64) z).length:Int)) then zb (decide (0≤i)&&decide (i<(↑(List.map (D.int .i64) z).length:Int))) (za (List.map (D.int .i64) z) i.toNat λ y=>za y.cells 0 λ c=>match c with
 | D.int k' n_1=>bif decide (k'=IntKind.i64) then bif decide (n_1<(0:Int)) then some (Out.ret (V.tup [V.d (D.sl 5 []),V.d (D.int .i64 (90:Int))]),[]) else zb (decide (0≤i)&&decide (i<(↑(List.map (D.int .i64) z).length:Int))) (za (List.map (D.int .i64) z) i.toNat λ y=>za y.cells 0 λ c=>match c with
  | D.int k' n_2=>bif decide (k'=IntKind.i64) then bif decide ((↑(T.ds l).length:Int)≤n_2) then some (Out.ret (V.tup [V.d (D.sl 5 []),V.d (D.int .i64 (90:Int))]),[]) else zb (decide (0≤i)&&decide (i≤(↑(List.map (D.int .i64) z).length:Int))) (zb (decide (0≤i)&&decide (i<(↑(List.map (D.int .i64) z).length:Int))) (za (List.map (D.int .i64) z) i.toNat λ y=>za y.cells 0 λ c=>match c with
   | D.int k' n_3=>bif decide (k'=IntKind.i64) then zc (h (D.sl 1 (List.drop 0 (List.take i.toNat (List.map (D.int .i64) z))),n_3).fst (D.sl 1 (List.drop 0 (List.take i.toNat (List.map (D.int .i64) z))),n_3).snd) λ b=>bif b then some (Out.ret (V.tup [V.d (D.sl 5 []),V.d (D.int .i64 (90:Int))]),[]) else zb (decide (0≤i)&&decide (i<(↑(List.map (D.int .i64) z).length:Int))) (za (List.map (D.int .i64) z) i.toNat λ y=>za y.cells 0 λ c=>match c with
    | D.int k' n_4=>bif decide (k'=IntKind.i64) then zb (decide (0≤n_4)&&decide (n_4<(↑(T.ds l).length:Int))) (za (T.ds l) n_4.toNat λ y=>za y.cells 0 λ c=>za y.cells 1 λ c_1=>za y.cells 2 λ c_2=>za y.cells 3 λ c_3=>za y.cells 4 λ c_4=>zb (decide (L.length=L.length)&&decide (L.length+[D.agg [c,c_1,c_2,c_3,c_4]].length≤4294967296)) (LP cx (zr5 w h) n 36 0 6 k [(0,V.d (D.sl 5 (T.ds l))),(1,V.d (D.sl 1 (List.map (D.int .i64) z))),(7,V.sl 5 (L++[D.agg [c,c_1,c_2,c_3,c_4]]) 7),(8,V.d (D.int .i64 (IntKind.i64.wrap (i+(1:Int)))))] [(7,Ob.tok (L.length+[D.agg [c,c_1,c_2,c_3,c_4]].length))] (AK cx (zr5 w h) n 36 0 6 (EK cx 36 0)))) else none
    | x=>none) else none
   | x=>none)) else none
  | x=>none) else none
 | x=>none) else some (Out.ret (V.tup [V.d (D.sl 5 L),V.d (D.int .i64 (0:Int))]),[]):=by kernel_rfl
theorem zas(l:List Int):(List.map (D.int .i64) l).length=l.length:=ph _
theorem z0k{l:List Int}{j:Nat}{x:Int}(hx:l[j]?=some x){R:Type}{K:D→Option R}:za (zI l) (j:Int).toNat K=K (.int .i64 x):=zex (by rw [po]; unfold zI; rw [List.getElem?_map,hx]; rfl)
theorem zl3:∀ l:List Int,zef (zI l)=some l
 | []=>rfl
 | x::l=>by
  show (match zef (zI l) with | some l=>some (x::l) | none=>none)=_
  rw [zl3 l]
theorem z1t(l:List Int)(a:Int):(l.any λ x:Int=>decide (a=x))=decide (a∈l):=by
 rw [Bool.eq_iff_iff,List.any_eq_true,decide_eq_true_iff];constructor
 ·rintro ⟨x,hx,he⟩;rw [pc he]; exact hx
 ·intro h; exact ⟨a,h,pa rfl⟩
theorem yg3(l:List Int)(a:Int)(hl:l.length<4294967296):zj cx 84 [.d (.sl 1 (zI l)),.d (.int .i64 a)] []=some (.ret (mkI (wi (λ x:Int=>decide (a=x)) l)),[]):=by
 refine zm zp (N:=l.length+1) ?_;rw [yf3,zas]
 have h:=vr (λ k i=>LP cx (CK.plain zo) (l.length+1) 84 0 2 k [(0,V.d (D.sl 1 (zI l))),(1,V.d (D.int .i64 a)),(7,V.d (D.int .i64 (l.length:Int))),(8,V.d (D.int .i64 i))] [] (AK cx (CK.plain zo) (l.length+1) 84 0 2 (EK cx 84 0)))
  l (λ x=>decide (a=x)) (λ j=>some (Out.ret (V.d (D.int .i64 j)),[])) (some (Out.ret (V.d (D.int .i64 (Int.negSucc 0))),[])) hl
  (λ k j x hj hx=>by
   refine (z93 (l.length+1) k l a j).trans ?_;rw [yf hj,pw,y8,zas,yf hj,Bool.and_self,xm];refine (z0k hx).trans ?_;rw [zmg,xu];simp only [decide_true,pw];rfl)
  (λ k=>by
   refine (z93 (l.length+1) k l a l.length).trans ?_;rw [yw,px]) (k:=l.length+1) (Nat.lt_succ_self _)
 refine h.trans ?_;unfold wi;cases xh (λ x:Int=>decide (a=x)) l 0 <;> rfl
def z4f(x:D)(a:Int):Option Int:=match x with | .sl 1 L=>zc (zef L) λ l=>zb (yn l) (some (wi (λ x:Int=>decide (a=x)) l)) | _=>none
theorem yg7(l:List Int)(a:Int)(hl:yn l=true):zj cx 48 [.d (.sl 1 (zI l)),.d (.int .i64 a)] []=some (.ret (mkB (decide (a∈l))),[]):=by
 have hk:knows cx (z7 84 zdf (λ q=>z4f q.1 q.2) mkI (CK.plain zo)).S (zj cx):=zk zp λ q x b hd h hb=>by
  unfold z4f at hb;split at hb
  ·rename_i L hL;obtain ⟨l,hl,hb⟩:=zd hb;obtain ⟨h1,hb⟩:=zf hb;cases hb;rw [zaz h,hL,zgs hl];exact yg3 l x.2 (yp h1)
  ·cases hb
 refine zm hk (N:=0) ?_;refine (yf6 z4f 0 l a).trans ?_;have e:z4f (.sl 1 (zI l)) a=some (wi (λ x:Int=>decide (a=x)) l):=by
  show zc (zef (zI l)) _=_;rw [zl3,ww,hl]; rfl
 show zc (z4f (.sl 1 (zI l)) a) _=_;rw [e,ww,zhp,z1t];rfl
theorem yg6(l:List Int)(a:Int)(hl:l.length<4294967296):zj cx 50 [.d (.sl 1 (zI l)),.d (.int .i64 a)] []=some (.ret (mkB (decide (a∈l))),[]):=by
 refine zm zp (N:=l.length+1) ?_;rw [yf5]
 have h:=vr (λ k i=>LP cx (CK.plain zo) (l.length+1) 50 0 2 k [(0,V.d (D.sl 1 (zI l))),(1,V.d (D.int .i64 a)),(5,V.d (D.int .i64 i))] [] (AK cx (CK.plain zo) (l.length+1) 50 0 2 (EK cx 50 0)))
  l (λ x=>decide (a=x)) (λ _=>some (Out.ret (mkB true),[])) (some (Out.ret (mkB false),[])) hl
  (λ k j x hj hx=>by
   refine (z97 (l.length+1) k l a j).trans ?_;rw [zas,yf hj,pw,y8,Bool.and_self,xm];refine (z0k hx).trans ?_;rw [zmg,xu];simp only [decide_true,pw];have e:decide (x=a)=decide (a=x):=by rw [Bool.eq_iff_iff,decide_eq_true_iff,decide_eq_true_iff]; exact eq_comm
   rw [e];rfl)
  (λ k=>by
   refine (z97 (l.length+1) k l a l.length).trans ?_;rw [zas,yw,px];rfl) (k:=l.length+1) (Nat.lt_succ_self _)
 refine Eq.trans ?_ (h.trans ?_)
 ·rfl
 ·rw [←z1t,←zbh l 0];cases xh (λ x:Int=>decide (a=x)) l 0 <;> rfl
def zkw(x:D)(a:Int):Option Bool:=match x with | .sl 1 L=>zc (zef L) λ l=>zb (yn l) (some (decide (a∈l))) | _=>none
theorem z1f{l:List Int}{a:Int}(h:l.length<4294967296):zkw (.sl 1 (zI l)) a=some (decide (a∈l)):=by
 show zc (zef (zI l)) _=_;rw [zl3,ww,zha h]; rfl
theorem zp1{f:Nat}(hf:∀ (l:List Int) (a:Int),yn l=true→zj cx f [.d (.sl 1 (zI l)),.d (.int .i64 a)] []=some (.ret (mkB (decide (a∈l))),[])){S:CK R1}(hS:knows cx S.S (zj cx)):knows cx (z7 f zdf (λ q=>zkw q.1 q.2) mkB S).S (zj cx):=zk hS λ a q b hd h hb=>by
 unfold zkw at hb;split at hb
 ·rename_i L hL;obtain ⟨l,hl,hb⟩:=zd hb;obtain ⟨h1,hb⟩:=zf hb;cases hb;rw [zaz h,hL,zgs hl];exact hf l q.2 h1
 ·cases hb
def zcp(l:List T):List Int→List Int→List T→List T×Int
 | _,[],out=>(out,0)
 | pre,i::r,out=>bif decide (i<0)||decide ((l.length:Int)≤i)||decide (i∈pre) then ([],90) else match l[i.toNat]? with | some t=>zcp l (pre++[i]) r (out++[t]) | none=>([],90)
def za3(l:List T)(z:List Int):List T×Int:=bif decide (v7 l=0) then zcp l [] z [] else ([],v7 l)
def z5h(q:List D×Int):V:=.tup [.d (.sl 5 q.1),.d (.int .i64 q.2)]
theorem z38:knows cx (zr5 w29 zkw).S (zj cx):=zk (zp1 (λ l a h=>yg6 l a (yp h)) zp) λ a q b hd h hb=>by
 obtain ⟨l,hl,hb⟩:=zd hb;cases hb;obtain ⟨h0,hg⟩:=zb0 hl;rw [xv h,h0];exact m56 l hg
theorem zva(l:List T)(t:T):T.ds (l++[t])=T.ds l++[t.d]:=by rw [zk0,zk0,List.map_append]; rfl
theorem zle(z:List Int)(i:Nat):List.drop 0 (List.take i (List.map (D.int .i64) z))=zI (z.take i):=by unfold zI; rw [List.map_take]; rfl
theorem take_snoc{z:List Int}{j:Nat}{x:Int}(h:z[j]?=some x):z.take j++[x]=z.take (j+1):=by
 rw [List.take_add_one,h]; rfl
theorem z5n(N:Nat)(l:List T)(z:List Int)(hl:l.length<4294967296)(hz:z.length<4294967295):∀ (r:List Int) (i k:Nat) (out:List T),z.drop i=r→i≤z.length→out.length=i→r.length<k →
  LP cx (zr5 w29 zkw) N 36 0 6 k [(0,V.d (D.sl 5 (T.ds l))),(1,V.d (D.sl 1 (zI z))),(7,V.sl 5 (T.ds out) 7),(8,V.d (D.int .i64 (i:Int)))] [(7,Ob.tok (T.ds out).length)] (AK cx (zr5 w29 zkw) N 36 0 6 (EK cx 36 0)) =
   some (.ret (z5h (T.ds (zcp l (z.take i) r out).1,(zcp l (z.take i) r out).2)),[])
 | [],i,k,out,hd,hi,ho,hk=>by
  obtain ⟨k,rfl⟩:∃ k',k=k'+1:=⟨k - 1,by omega⟩
  have:z.length≤i:=by simpa using hd
  obtain rfl:i=z.length:=by omega
  refine (yfs w29 zkw N k l z (T.ds out) z.length).trans ?_;rw [zas,yw,px];rfl
 | x::r,i,k,out,hd,hi,ho,hk=>by
  obtain ⟨k,rfl⟩:∃ k',k=k'+1:=⟨k - 1,by omega⟩
  obtain ⟨h1,h2,h3⟩:=za0 hd;refine (yfs w29 zkw N k l z (T.ds out) i).trans ?_;have hle:decide ((i:Int)≤(z.length:Int))=true:=pa (by omega)
  have hat:∀ {R:Type} {K:D→Option R},za (List.map (D.int .i64) z) (i:Int).toNat K=K (.int .i64 x):=λ {R K}=>z0k h2;have hmem:zkw (.sl 1 (zI (z.take i))) x=some (decide (x∈z.take i)):=z1f (by rw [List.length_take]; omega)
  rw [zas,yf h1,pw,y8,Bool.and_self,xm,hat,zmg,xu];simp only [decide_true,pw];unfold zcp;cases hx0:decide (x<0)
  ·rw [px,xm,hat,zmg,xu];simp only [decide_true,pw];rw [zu];cases hx1:decide ((l.length:Int)≤x)
   ·rw [px,hle,Bool.and_self,xm,xm,hat,zmg,xu];simp only [decide_true,pw];rw [po,zle,hmem,ww];cases hx2:decide (x∈z.take i)
    ·have x0:=of_decide_eq_false hx0;have x1:=of_decide_eq_false hx1;have hxl:x.toNat<l.length:=by omega
     have ht:=p4 hxl;generalize l[x.toNat]=t at ht;have hat2:∀ {R:Type} {K:D→Option R},za (List.map (D.int .i64) z) i K=K (.int .i64 x):=λ {R K}=>by have:=hat (R:=R) (K:=K); rwa [po] at this
     have ih:=z5n N l z hl hz r (i+1) k (out++[t]) h3 h1 (by simp [ho]) (by simp at hk; omega)
     rw [zva,pe] at ih;rw [px,xm,hat2,zmg,xu];simp only [decide_true,pw];have d0:decide ((0:Int)≤x)=true:=pa (by omega)
     have d1:decide (x<(l.length:Int))=true:=pa (by omega)
     have htd:∀ {R:Type} {K:D→Option R},za (T.ds l) x.toNat K=K t.d:=λ {R K}=>zex (by rw [zk0,List.getElem?_map,ht]; rfl)
     rw [d0,d1,Bool.and_self,xm,htd];simp only [yk,xu,vk,vj,vi,vh,we];have d2:decide ((T.ds out).length+[t.d].length≤4294967296)=true:=pa (by rw [zu]; simp only [py,pz]; omega)
     rw [d2,Bool.and_self,xm,w9 h1 (by omega)]
     simp only [Bool.or_self,px,ht];rw [take_snoc h2];exact ih
    ·rfl
   ·rfl
  ·rfl
theorem m36(l:List T)(hg:zbl l=true)(z:List Int)(hz:z.length<4294967295):zj cx 36 [.d (.sl 5 (T.ds l)),.d (.sl 1 (zI z))] []=some (.ret (z5h (T.ds (za3 l z).1,(za3 l z).2)),[]):=by
 unfold za3;refine zm z38 (N:=z.length+1) ?_;have e:w29 (.sl 5 (T.ds l))=some (v7 l):=by unfold w29; rw [zik hg]; rfl
 rw [yie,e,ww];cases hw:decide (v7 l=0)
 ·rfl
 ·rw [Bool.not_true,px,pw];exact z5n (z.length+1) l z (yp (vp.1 hg).1) hz z 0 (z.length+1) [] rfl (Nat.zero_le _) rfl (Nat.lt_succ_self _)
theorem yh0(p:D→D→Bool→Option Bool)(n:Nat)(k:Int)(nm:List UInt8)(kids:List T)(nms:List (List UInt8))(pl:Int):zn cx (zig p) n 62 [.d (T.mk k nm kids nms pl).d,.d (T.mk k nm kids nms pl).d,.d (.bool true)] []=bif !decide (k=k) then some (Out.ret (V.d (D.bool false)),[]) else bif !decide (nm=nm) then some (Out.ret (V.d (D.bool false)),[]) else bif !decide ((↑(T.ds kids).length:Int)=(↑(T.ds kids).length:Int)) then some (Out.ret (V.d (D.bool false)),[]) else bif !decide ((↑(List.map D.str nms).length:Int)=(↑(List.map D.str nms).length:Int)) then some (Out.ret (V.d (D.bool false)),[]) else bif !decide (pl=pl) then some (Out.ret (V.d (D.bool false)),[]) else LP cx (zig p) n 62 0 4 n [(2,V.d (D.bool true)),(3,V.ptr 3 0),(4,V.ptr 4 0),(7,V.d (D.int .i64 (0:Int)))] [(3,Ob.val 5 (V.d (D.agg [D.int .i64 k,D.str nm,D.sl 5 (T.ds kids),D.sl 1 (List.map D.str nms),D.int .i64 pl]))),(4,Ob.val 5 (V.d (D.agg [D.int .i64 k,D.str nm,D.sl 5 (T.ds kids),D.sl 1 (List.map D.str nms),D.int .i64 pl])))] (AK cx (zig p) n 62 0 4 (EK cx 62 0)):=by kernel_rfl
theorem yfm(p:D→D→Bool→Option Bool)(n m:Nat)(k:Int)(nm:List UInt8)(kids:List T)(nms:List (List UInt8))(pl i:Int):LP cx (zig p) n 62 0 4 (m+1) [(2,V.d (D.bool true)),(3,V.ptr 3 0),(4,V.ptr 4 0),(7,V.d (D.int .i64 i))] [(3,Ob.val 5 (V.d (T.mk k nm kids nms pl).d)),(4,Ob.val 5 (V.d (T.mk k nm kids nms pl).d))] (AK cx (zig p) n 62 0 4 (EK cx 62 0))=bif decide (i<(↑(List.map D.str nms).length:Int)) then zb (decide (0≤i)&&decide (i<(↑(List.map D.str nms).length:Int))) (za (List.map D.str nms) i.toNat λ y=>za y.cells 0 λ c=>match c with
 | D.str s=>zb (decide (0≤i)&&decide (i<(↑(List.map D.str nms).length:Int))) (za (List.map D.str nms) i.toNat λ y=>za y.cells 0 λ c=>match c with
  | D.str s_1=>bif !decide (s=s_1) then some (Out.ret (V.d (D.bool false)),[]) else LP cx (zig p) n 62 0 4 m [(2,V.d (D.bool true)),(3,V.ptr 3 0),(4,V.ptr 4 0),(7,V.d (D.int .i64 (IntKind.i64.wrap (i+(1:Int)))))] [(3,Ob.val 5 (V.d (D.agg [D.int .i64 k,D.str nm,D.sl 5 (T.ds kids),D.sl 1 (List.map D.str nms),D.int .i64 pl]))),(4,Ob.val 5 (V.d (D.agg [D.int .i64 k,D.str nm,D.sl 5 (T.ds kids),D.sl 1 (List.map D.str nms),D.int .i64 pl])))] (AK cx (zig p) n 62 0 4 (EK cx 62 0))
  | x=>none)
 | x=>none) else LP cx (zig p) n 62 0 9 n [(2,V.d (D.bool true)),(3,V.ptr 3 0),(4,V.ptr 4 0),(8,V.d (D.int .i64 (0:Int)))] [(3,Ob.val 5 (V.d (D.agg [D.int .i64 k,D.str nm,D.sl 5 (T.ds kids),D.sl 1 (List.map D.str nms),D.int .i64 pl]))),(4,Ob.val 5 (V.d (D.agg [D.int .i64 k,D.str nm,D.sl 5 (T.ds kids),D.sl 1 (List.map D.str nms),D.int .i64 pl])))] (AK cx (zig p) n 62 0 9 (EK cx 62 0)):=by kernel_rfl
theorem z94(p:D→D→Bool→Option Bool)(n m:Nat)(k:Int)(nm:List UInt8)(kids:List T)(nms:List (List UInt8))(pl i:Int):LP cx (zig p) n 62 0 9 (m+1) [(2,V.d (D.bool true)),(3,V.ptr 3 0),(4,V.ptr 4 0),(8,V.d (D.int .i64 i))] [(3,Ob.val 5 (V.d (T.mk k nm kids nms pl).d)),(4,Ob.val 5 (V.d (T.mk k nm kids nms pl).d))] (AK cx (zig p) n 62 0 9 (EK cx 62 0))=bif decide (i<(↑(T.ds kids).length:Int)) then zb (decide (0≤i)&&decide (i<(↑(T.ds kids).length:Int))) (za (T.ds kids) i.toNat λ y=>za y.cells 0 λ c=>za y.cells 1 λ c_1=>za y.cells 2 λ c_2=>za y.cells 3 λ c_3=>za y.cells 4 λ c_4=>zb (decide (0≤i)&&decide (i<(↑(T.ds kids).length:Int))) (za (T.ds kids) i.toNat λ y=>za y.cells 0 λ c_5=>za y.cells 1 λ c_6=>za y.cells 2 λ c_7=>za y.cells 3 λ c_8=>za y.cells 4 λ c_9=>zc (p (D.agg [c,c_1,c_2,c_3,c_4],D.agg [c_5,c_6,c_7,c_8,c_9],true).fst (D.agg [c,c_1,c_2,c_3,c_4],D.agg [c_5,c_6,c_7,c_8,c_9],true).snd.fst (D.agg [c,c_1,c_2,c_3,c_4],D.agg [c_5,c_6,c_7,c_8,c_9],true).snd.snd) λ b=>bif !b then some (Out.ret (V.d (D.bool false)),[]) else LP cx (zig p) n 62 0 9 m [(2,V.d (D.bool true)),(3,V.ptr 3 0),(4,V.ptr 4 0),(8,V.d (D.int .i64 (IntKind.i64.wrap (i+(1:Int)))))] [(3,Ob.val 5 (V.d (D.agg [D.int .i64 k,D.str nm,D.sl 5 (T.ds kids),D.sl 1 (List.map D.str nms),D.int .i64 pl]))),(4,Ob.val 5 (V.d (D.agg [D.int .i64 k,D.str nm,D.sl 5 (T.ds kids),D.sl 1 (List.map D.str nms),D.int .i64 pl])))] (AK cx (zig p) n 62 0 9 (EK cx 62 0)))) else some (Out.ret (V.d (D.bool true)),[]):=by kernel_rfl
theorem yid(p:D→D→Bool→Option Bool)(n:Nat)(l:List T):zn cx (zig p) n 37 [.d (.sl 5 (T.ds l)),.d (.sl 5 (T.ds l)),.d (.bool true)] []=zc (p (D.agg [D.int .i64 (0:Int),D.str [],D.sl 5 (T.ds l),D.sl 1 [],D.int .i64 (0:Int)],D.agg [D.int .i64 (0:Int),D.str [],D.sl 5 (T.ds l),D.sl 1 [],D.int .i64 (0:Int)],true).fst (D.agg [D.int .i64 (0:Int),D.str [],D.sl 5 (T.ds l),D.sl 1 [],D.int .i64 (0:Int)],D.agg [D.int .i64 (0:Int),D.str [],D.sl 5 (T.ds l),D.sl 1 [],D.int .i64 (0:Int)],true).snd.fst (D.agg [D.int .i64 (0:Int),D.str [],D.sl 5 (T.ds l),D.sl 1 [],D.int .i64 (0:Int)],D.agg [D.int .i64 (0:Int),D.str [],D.sl 5 (T.ds l),D.sl 1 [],D.int .i64 (0:Int)],true).snd.snd) λ b=>some (Out.ret (V.d (D.bool b)),[]):=by kernel_rfl
theorem z91(s:List UInt8):(D.str s).cells=[D.str s]:=rfl
theorem z0q{l:List (List UInt8)}{j:Nat}{x:List UInt8}(hx:l[j]?=some x){R:Type}{K:D→Option R}:za (List.map D.str l) (j:Int).toNat K=K (.str x):=zex (by rw [po,List.getElem?_map,hx]; rfl)
theorem z6l{l:List T}{j:Nat}{t:T}(hx:l[j]?=some t){R:Type}{K:D→Option R}:za (T.ds l) (j:Int).toNat K=K t.d:=zex (by rw [po,zk0,List.getElem?_map,hx]; rfl)
open Classical in
def p62(m:Nat)(x y:D)(w:Bool):Option Bool:=if ∃ t:T,t.ok=true∧t.depth≤m∧x=t.d∧y=t.d∧w=true then some true else none
theorem z5b{m:Nat}{t:T}(h1:t.ok=true)(h2:t.depth≤m):p62 m t.d t.d true=some true:=by
 unfold p62; rw [if_pos ⟨t,h1,h2,rfl,rfl,rfl⟩]
def z1a(m:Nat):Prop:=∀ t:T,t.depth≤m→t.ok=true→zj cx 62 [.d t.d,.d t.d,.d (.bool true)] []=some (.ret (mkB true),[])
theorem zqn{a:List V}{q}(h:z1m a=some q):a=[.d q.1,.d q.2.1,.d (.bool q.2.2)]:=by
 unfold z1m at h; split at h <;> cases h; rfl
theorem zt9{m:Nat}(hm:z1a m):knows cx (zig (p62 m)).S (zj cx):=zk zp λ a q b hd h hb=>by
 unfold p62 at hb;split at hb
 ·rename_i he;cases hb;obtain ⟨t,h1,h2,h3,h4,h5⟩:=he;rw [zqn h,h3,h4,h5];exact hm t h2 h1
 ·cases hb
theorem m62:∀ m,z1a m:=by
 intro m
 induction m with
 | zero=>
  intro t h;obtain ⟨k,nm,kids,nms,pl⟩:=t;simp only [T.depth] at h;omega
 | succ m ih=>
  intro t hdep hok;obtain ⟨k,nm,kids,nms,pl⟩:=t;simp only [T.depth] at hdep;simp only [T.ok,pm] at hok;have hkl:=yp hok.1.1.1.2;have hnl:nms.length<4294967296:=yp hok.1.1.2;obtain ⟨N,hN⟩:∃ N,N=kids.length+nms.length+1:=⟨_,rfl⟩;refine zm (zt9 ih) (N:=N) ?_;refine (yh0 (p62 m) N k nm kids nms pl).trans ?_;rw [pa (p:=k=k) rfl,pa (p:=nm=nm) rfl,pa (p:=((T.ds kids).length:Int)=((T.ds kids).length:Int)) rfl,pa (p:=((List.map D.str nms).length:Int)=((List.map D.str nms).length:Int)) rfl,pa (p:=pl=pl) rfl];simp only [Bool.not_true,px]
  have h2:=vr (λ q i=>LP cx (zig (p62 m)) N 62 0 9 q [(2,V.d (D.bool true)),(3,V.ptr 3 0),(4,V.ptr 4 0),(8,V.d (D.int .i64 i))] [(3,Ob.val 5 (V.d (T.mk k nm kids nms pl).d)),(4,Ob.val 5 (V.d (T.mk k nm kids nms pl).d))] (AK cx (zig (p62 m)) N 62 0 9 (EK cx 62 0)))
   kids (λ _=>false) (λ _=>none) (some (.ret (mkB true),[])) hkl
   (λ q j t hj hx=>by
    have htm:=pq hx;have htd:=zbv htm;refine (z94 (p62 m) N q k nm kids nms pl j).trans ?_;rw [zu,yf hj,pw,y8,Bool.and_self,xm,z6l hx];simp only [yk,xu,vk,vj,vi,vh,we,xm];rw [z6l hx];simp only [yk,xu,vk,vj,vi,vh,we];rw [z5b (wx hok.2 htm) (by omega),ww,Bool.not_true,px]
    rfl)
   (λ q=>by
    refine (z94 (p62 m) N q k nm kids nms pl kids.length).trans ?_;rw [zu,yw,px];rfl) (k:=N) (by omega)
  rw [zhq] at h2
  have h1:=vr (λ q i=>LP cx (zig (p62 m)) N 62 0 4 q [(2,V.d (D.bool true)),(3,V.ptr 3 0),(4,V.ptr 4 0),(7,V.d (D.int .i64 i))] [(3,Ob.val 5 (V.d (T.mk k nm kids nms pl).d)),(4,Ob.val 5 (V.d (T.mk k nm kids nms pl).d))] (AK cx (zig (p62 m)) N 62 0 4 (EK cx 62 0)))
   nms (λ _=>false) (λ _=>none) (some (.ret (mkB true),[])) hnl
   (λ q j s hj hx=>by
    refine (yfm (p62 m) N q k nm kids nms pl j).trans ?_;rw [show (List.map D.str nms).length=nms.length from ph _,yf hj,pw,y8,Bool.and_self,xm,z0q hx,z91,xu];simp only [xm];rw [z0q hx,z91,xu];simp only [decide_true,Bool.not_true,px];rfl)
   (λ q=>by
    refine (yfm (p62 m) N q k nm kids nms pl nms.length).trans ?_;rw [show (List.map D.str nms).length=nms.length from ph _,yw,px];exact h2) (k:=N) (by omega)
  rw [zhq] at h1;exact h1
theorem m37(l:List T)(h1:yn l=true)(h2:T.oks l=true):zj cx 37 [.d (.sl 5 (T.ds l)),.d (.sl 5 (T.ds l)),.d (.bool true)] []=some (.ret (mkB true),[]):=by
 refine zm (zt9 (m62 (znk l).depth)) (N:=0) ?_;refine (yid (p62 (znk l).depth) 0 l).trans ?_;show zc (p62 (znk l).depth (znk l).d (znk l).d true) _=_;rw [z5b (z1s h1 h2) (Nat.le_refl _),ww];rfl
theorem yh1(cl:D→Option (List D))(c:D→Option D5)(n:Nat)(k:Int)(nm:List UInt8)(kids:List T)(nms:List (List UInt8))(pl:Int):zn cx (zr3 cl c) n 61 [.d (T.mk k nm kids nms pl).d] []=zc (cl (D.sl 1 (List.map D.str nms))) λ b=>LP cx (zr3 cl c) n 61 0 4 n [(1,V.ptr 1 0),(2,V.ptr 2 0),(13,V.d (D.sl 5 (T.ds kids))),(14,V.d (D.int .i64 (↑(T.ds kids).length:Int))),(15,V.d (D.int .i64 (0:Int)))] [(1,Ob.val 5 (V.agg [V.d (D.int .i64 k),V.d (D.str nm),V.sl 5 [] 11,V.d (D.sl 1 b),V.d (D.int .i64 pl)])),(11,Ob.tok 0),(2,Ob.val 5 (V.agg [V.d (D.int .i64 (0:Int)),V.d (D.str []),V.sl 5 [] 86,V.sl 1 [] 114,V.d (D.int .i64 (0:Int))])),(86,Ob.tok 0),(114,Ob.tok 0)] (AK cx (zr3 cl c) n 61 0 4 (EK cx 61 0)):=by kernel_rfl
theorem yfn(cl:D→Option (List D))(c:D→Option D5)(n m:Nat)(k:Int)(nm:List UInt8)(kids:List T)(ns:List D)(L:List D)(pl i:Int):LP cx (zr3 cl c) n 61 0 4 (m+1) [(1,V.ptr 1 0),(2,V.ptr 2 0),(13,V.d (D.sl 5 (T.ds kids))),(14,V.d (D.int .i64 (kids.length:Int))),(15,V.d (D.int .i64 i))] [(1,Ob.val 5 (V.agg [V.d (D.int .i64 k),V.d (D.str nm),V.sl 5 L 11,V.d (D.sl 1 ns),V.d (D.int .i64 pl)])),(11,Ob.tok L.length),(2,Ob.val 5 (V.agg [V.d (D.int .i64 (0:Int)),V.d (D.str []),V.sl 5 [] 86,V.sl 1 [] 114,V.d (D.int .i64 (0:Int))])),(86,Ob.tok 0),(114,Ob.tok 0)] (AK cx (zr3 cl c) n 61 0 4 (EK cx 61 0))=bif decide (i<(↑kids.length:Int)) then zb (decide (0≤i)&&decide (i<(↑(T.ds kids).length:Int))) (za (T.ds kids) i.toNat λ y=>za y.cells 0 λ c_1=>za y.cells 1 λ c_2=>za y.cells 2 λ c_3=>za y.cells 3 λ c_4=>za y.cells 4 λ c_5=>zc (c (D.agg [c_1,c_2,c_3,c_4,c_5])) λ b=>zb (decide (L.length=L.length)&&decide (L.length+[D.agg [b.1,b.snd.1,b.snd.snd.1,b.snd.snd.snd.1,b.snd.snd.snd.2]].length≤4294967296)) (LP cx (zr3 cl c) n 61 0 4 m [(1,V.ptr 1 0),(2,V.ptr 2 0),(13,V.d (D.sl 5 (T.ds kids))),(14,V.d (D.int .i64 (↑kids.length:Int))),(15,V.d (D.int .i64 (IntKind.i64.wrap (i+(1:Int)))))] [(1,Ob.val 5 (V.agg [V.d (D.int .i64 k),V.d (D.str nm),V.sl 5 (L++[D.agg [b.1,b.snd.1,b.snd.snd.1,b.snd.snd.snd.1,b.snd.snd.snd.2]]) 11,V.d (D.sl 1 ns),V.d (D.int .i64 pl)])),(11,Ob.tok (L.length+[D.agg [b.1,b.snd.1,b.snd.snd.1,b.snd.snd.snd.1,b.snd.snd.snd.2]].length)),(2,Ob.val 5 (V.agg [V.d (D.int .i64 (0:Int)),V.d (D.str []),V.sl 5 [] 86,V.sl 1 [] 114,V.d (D.int .i64 (0:Int))])),(86,Ob.tok 0),(114,Ob.tok 0)] (AK cx (zr3 cl c) n 61 0 4 (EK cx 61 0)))) else some (Out.ret (V.d (D.agg [D.int .i64 k,D.str nm,D.sl 5 L,D.sl 1 ns,D.int .i64 pl])),[]):=by kernel_rfl
theorem yif(pl:D→Option (List D×List D))(h:D→Int→Option Bool)(c:D→Option D5)(n:Nat)(l:List T)(z:List Int):zn cx (zr6 pl h c) n 35 [.d (.sl 5 (T.ds l)),.d (.sl 1 (zI z))] []=zc (pl (D.sl 5 (T.ds l))) λ b=>LP cx (zr6 pl h c) n 35 0 6 n [(0,V.d (D.sl 5 (T.ds l))),(1,V.d (D.sl 1 (List.map (D.int .i64) z))),(8,V.sl 5 [] 8),(19,V.d (D.sl 1 (List.map (D.int .i64) z))),(20,V.d (D.int .i64 (↑(List.map (D.int .i64) z).length:Int))),(21,V.d (D.int .i64 (0:Int)))] [(8,Ob.tok 0)] (AK cx (zr6 pl h c) n 35 0 6 (EK cx 35 0)):=by kernel_rfl
theorem yf7(pl:D→Option Int)(n:Nat)(l:List T)(z:List Int):zn cx (z89 pl) n 35 [.d (.sl 5 (T.ds l)),.d (.sl 1 (zI z))] []=zc (pl (D.sl 5 (T.ds l))) λ b=>bif !decide (b=(0:Int)) then some (Out.ret (V.tup [V.d (D.sl 5 []),V.d (D.int .i64 b)]),[]) else LP cx (z89 pl) n 35 0 6 n [(0,V.d (D.sl 5 (T.ds l))),(1,V.d (D.sl 1 (List.map (D.int .i64) z))),(8,V.sl 5 [] 8),(19,V.d (D.sl 1 (List.map (D.int .i64) z))),(20,V.d (D.int .i64 (↑(List.map (D.int .i64) z).length:Int))),(21,V.d (D.int .i64 (0:Int)))] [(8,Ob.tok 0)] (AK cx (z89 pl) n 35 0 6 (EK cx 35 0)):=by kernel_rfl
theorem yft(pl:D→Option (List D×List D))(h:D→Int→Option Bool)(c:D→Option D5)(n k:Nat)(l:List T)(z:List Int)(L:List D)(i:Int):LP cx (zr6 pl h c) n 35 0 6 (k+1) [(0,V.d (D.sl 5 (T.ds l))),(1,V.d (D.sl 1 (zI z))),(8,V.sl 5 L 8),(19,V.d (D.sl 1 (zI z))),(20,V.d (D.int .i64 (z.length:Int))),(21,V.d (D.int .i64 i))] [(8,Ob.tok L.length)] (AK cx (zr6 pl h c) n 35 0 6 (EK cx 35 0))=bif decide (i<(↑z.length:Int)) then zb (decide (0≤i)&&decide (i<(↑(List.map (D.int .i64) z).length:Int))) (za (List.map (D.int .i64) z) i.toNat λ y=>za y.cells 0 λ c_1=>match c_1 with
 | D.int k' n_1=>bif decide (k'=IntKind.i64) then bif decide (n_1<(0:Int)) then some (Out.ret (V.tup [V.d (D.sl 5 []),V.d (D.int .i64 (90:Int))]),[]) else bif decide ((↑(T.ds l).length:Int)≤n_1) then some (Out.ret (V.tup [V.d (D.sl 5 []),V.d (D.int .i64 (90:Int))]),[]) else zb (decide (0≤i)&&decide (i≤(↑(List.map (D.int .i64) z).length:Int))) (zc (h (D.sl 1 (List.drop 0 (List.take i.toNat (List.map (D.int .i64) z))),n_1).fst (D.sl 1 (List.drop 0 (List.take i.toNat (List.map (D.int .i64) z))),n_1).snd) λ b=>bif b then some (Out.ret (V.tup [V.d (D.sl 5 []),V.d (D.int .i64 (90:Int))]),[]) else zb (decide (0≤n_1)&&decide (n_1<(↑(T.ds l).length:Int))) (za (T.ds l) n_1.toNat λ y=>za y.cells 0 λ c_2=>za y.cells 1 λ c_3=>za y.cells 2 λ c_4=>za y.cells 3 λ c_5=>za y.cells 4 λ c_6=>zc (c (D.agg [c_2,c_3,c_4,c_5,c_6])) λ b=>zb (decide (L.length=L.length)&&decide (L.length+[D.agg [b.1,b.snd.1,b.snd.snd.1,b.snd.snd.snd.1,b.snd.snd.snd.2]].length≤4294967296)) (LP cx (zr6 pl h c) n 35 0 6 k [(0,V.d (D.sl 5 (T.ds l))),(1,V.d (D.sl 1 (List.map (D.int .i64) z))),(8,V.sl 5 (L++[D.agg [b.1,b.snd.1,b.snd.snd.1,b.snd.snd.snd.1,b.snd.snd.snd.2]]) 8),(19,V.d (D.sl 1 (List.map (D.int .i64) z))),(20,V.d (D.int .i64 (↑z.length:Int))),(21,V.d (D.int .i64 (IntKind.i64.wrap (i+(1:Int)))))] [(8,Ob.tok (L.length+[D.agg [b.1,b.snd.1,b.snd.snd.1,b.snd.snd.snd.1,b.snd.snd.snd.2]].length))] (AK cx (zr6 pl h c) n 35 0 6 (EK cx 35 0))))) else none
 | x=>none) else some (Out.ret (V.tup [V.d (D.sl 5 L),V.d (D.int .i64 (0:Int))]),[]):=by kernel_rfl
theorem yin(g:D→Option Bool)(w:Option Bool)(o v:D→Option (List D×Int))(c d:D→D→Option (List D×Int))(i:D→D→Option Bool)(s:D→D→Bool→Option Bool)(n:Nat)(l:List T)(z:List Int):zn cx (ygk g w o v c d i s) n 10 [.d (.sl 5 (T.ds l)),.d (.sl 1 (zI z))] []=zc (g (D.sl 5 (T.ds l))) λ b=>bif b then zc w λ b=>some (Out.ret (V.d (D.bool b)),[]) else bif decide ((100:Int)<(↑(List.map (D.int .i64) z).length:Int)) then zc w λ b=>some (Out.ret (V.d (D.bool b)),[]) else zc (o (D.sl 5 (T.ds l))) λ b=>zc (v (D.sl 5 (T.ds l))) λ b_1=>zc (c (D.sl 5 (T.ds l),D.sl 1 (List.map (D.int .i64) z)).fst (D.sl 5 (T.ds l),D.sl 1 (List.map (D.int .i64) z)).snd) λ b_2=>zc (d (D.sl 5 (T.ds l),D.sl 1 (List.map (D.int .i64) z)).fst (D.sl 5 (T.ds l),D.sl 1 (List.map (D.int .i64) z)).snd) λ b_3=>zc (i (D.sl 1 b.1,D.sl 1 b_1.1).fst (D.sl 1 b.1,D.sl 1 b_1.1).snd) λ b_4=>bif b_4 then bif decide (b.snd=b_1.snd) then zc (s (D.sl 5 b_2.1,D.sl 5 b_3.1,true).fst (D.sl 5 b_2.1,D.sl 5 b_3.1,true).snd.fst (D.sl 5 b_2.1,D.sl 5 b_3.1,true).snd.snd) λ b=>bif b then bif decide (b_2.snd=b_3.snd) then zc w λ b=>some (Out.ret (V.d (D.bool b)),[]) else some (Out.ret (V.d (D.bool false)),[]) else some (Out.ret (V.d (D.bool false)),[]) else some (Out.ret (V.d (D.bool false)),[]) else some (Out.ret (V.d (D.bool false)),[]):=by kernel_rfl
theorem m99(l:List (List UInt8))(h:l.length≤4294967296):zj cx 99 [.d (.sl 1 (l.map .str))] []=some (.ret (.d (.sl 1 (l.map .str))),[]):=by
 refine zhm (n:=1) ?_;have e:zi5 [.d (.sl 1 (l.map .str))] []=some (.ret (.d (.sl 1 (l.map .str))),[]):=by
  show zb (decide ((l.map D.str).length≤4294967296)) (zc (zlg (l.map .str)) _)=_;rw [zsc,ww,pa (by rw [ph]; exact h)]
  rfl
 have e2:cx.nat 99 [.d (.sl 1 (l.map .str))] []=zi5 [.d (.sl 1 (l.map .str))] []:=rfl;unfold vz zbu;rw [e2,e]
def zx8(x:D):Option (List D):=zc (zbz x) λ l=>some (l.map .str)
def c61(m:Nat)(x:D):Option D5:=zc (zr x) λ t=>zb (decide (t.depth≤m)) (some (.int .i64 t.k,.str t.nm,.sl 5 (T.ds t.kids),.sl 1 (t.nms.map .str),.int .i64 t.pl))
theorem z64{m:Nat}{t:T}(h1:t.ok=true)(h2:t.depth≤m):c61 m t.d=some (.int .i64 t.k,.str t.nm,.sl 5 (T.ds t.kids),.sl 1 (t.nms.map .str),.int .i64 t.pl):=by
 unfold c61; rw [zij h1,ww,pa h2]; rfl
def zuz(m:Nat):Prop:=∀ t:T,t.depth≤m→t.ok=true→zj cx 61 [.d t.d] []=some (.ret (.d t.d),[])
theorem zt2{m:Nat}(hm:zuz m){S:CK R1}(hS:knows cx S.S (zj cx)):knows cx (z7 61 qx (c61 m) mk5 S).S (zj cx):=zk hS λ a q b hd h hb=>by
 obtain ⟨t,ht,hb⟩:=zd hb;obtain ⟨h1,hb⟩:=zf hb;cases hb;obtain ⟨h0,hg⟩:=wv ht;rw [xv h,h0,hm t (pc h1) hg];unfold mk5;rw [we]
theorem z30{m:Nat}(hm:zuz m):knows cx (zr3 zx8 (c61 m)).S (zj cx):=zk (zt2 hm zp) λ a q b hd h hb=>by
 obtain ⟨l,hl,hb⟩:=zd hb;cases hb;obtain ⟨h0,h1⟩:=za9 hl;rw [xv h,h0];exact m99 l (Nat.le_of_lt (yp h1))
theorem m61:∀ m,zuz m:=by
 intro m
 induction m with
 | zero=>
  intro t h;obtain ⟨k,nm,kids,nms,pl⟩:=t;simp only [T.depth] at h;omega
 | succ m ih=>
  intro t hdep hok;obtain ⟨k,nm,kids,nms,pl⟩:=t;simp only [T.depth] at hdep;simp only [T.ok,pm] at hok;have hkl:=yp hok.1.1.1.2;have hns:=hok.1.1.2;obtain ⟨N,hN⟩:∃ N,N=kids.length+1:=⟨_,rfl⟩;refine zm (z30 ih) (N:=N) ?_;refine (yh1 zx8 (c61 m) N k nm kids nms pl).trans ?_;have e:zx8 (.sl 1 (List.map D.str nms))=some (nms.map .str):=by unfold zx8; rw [zdb hns]; rfl
  rw [e,ww,zu]
  have key:∀ (r:List T) (i q:Nat) (p:List T),kids.drop i=r→i≤kids.length→p.length=i→r.length<q →
    LP cx (zr3 zx8 (c61 m)) N 61 0 4 q [(1,V.ptr 1 0),(2,V.ptr 2 0),(13,V.d (D.sl 5 (T.ds kids))),(14,V.d (D.int .i64 (kids.length:Int))),(15,V.d (D.int .i64 (i:Int)))] [(1,Ob.val 5 (V.agg [V.d (D.int .i64 k),V.d (D.str nm),V.sl 5 (T.ds p) 11,V.d (D.sl 1 (nms.map .str)),V.d (D.int .i64 pl)])),(11,Ob.tok (T.ds p).length),(2,Ob.val 5 (V.agg [V.d (D.int .i64 (0:Int)),V.d (D.str []),V.sl 5 [] 86,V.sl 1 [] 114,V.d (D.int .i64 (0:Int))])),(86,Ob.tok 0),(114,Ob.tok 0)] (AK cx (zr3 zx8 (c61 m)) N 61 0 4 (EK cx 61 0)) =
     some (.ret (.d (.agg [.int .i64 k,.str nm,.sl 5 (T.ds (p++r)),.sl 1 (nms.map .str),.int .i64 pl])),[]):=by
   intro r
   induction r with
   | nil=>
    intro i q p hd hi hp hq;obtain ⟨q,rfl⟩:∃ k',q=k'+1:=⟨q - 1,by omega⟩
    have:kids.length≤i:=by simpa using hd
    obtain rfl:i=kids.length:=by omega
    refine (yfn zx8 (c61 m) N q k nm kids (nms.map .str) (T.ds p) pl kids.length).trans ?_;rw [yw,px,List.append_nil]
   | cons t r ihr=>
    intro i q p hd hi hp hq;obtain ⟨q,rfl⟩:∃ k',q=k'+1:=⟨q - 1,by omega⟩
    obtain ⟨h1,h2,h3⟩:=za0 hd;have htm:=pq h2;have htd:=zbv htm;have ih2:=ihr (i+1) q (p++[t]) h3 h1 (by simp [hp]) (by simp at hq; omega)
    rw [zva,pe,List.append_assoc] at ih2;refine (yfn zx8 (c61 m) N q k nm kids (nms.map .str) (T.ds p) pl i).trans ?_;rw [yf h1,pw,y8,zu kids,yf h1,Bool.and_self,xm,z6l h2];simp only [yk,xu,vk,vj,vi,vh,we];rw [z64 (wx hok.2 htm) (by omega),ww]
    simp only [we];have d2:decide ((T.ds p).length+[t.d].length≤4294967296)=true:=pa (by rw [zu]; simp only [py,pz]; omega)
    rw [d2,decide_true,Bool.and_self,xm,w9 h1 hkl];exact ih2
  have h:=key kids 0 N [] rfl (Nat.zero_le _) rfl (by omega)
  exact h
theorem z39{m:Nat}:knows cx (zr6 zdp zkw (c61 m)).S (zj cx):=
 zk (zp1 (λ l a h=>yg7 l a h) (zt2 (m61 m) zp)) λ a q b hd h hb=>by
  obtain ⟨l,hl,hb⟩:=zd hb;obtain ⟨h1,hb⟩:=zf hb;cases hb;obtain ⟨h0,hg⟩:=zb0 hl;rw [xv h,h0,m51 l hg,h1];rfl
theorem z0d:knows cx (z89 zsn).S (zj cx):=zk zp λ a q b hd h hb=>by
 obtain ⟨l,hl,hb⟩:=zd hb;obtain ⟨h1,hb⟩:=zf hb;cases hb;obtain ⟨h0,hg⟩:=zb0 hl;have h2:decide (v7 l=0)=false:=by simpa using h1
 rw [xv h,h0,m51 l hg,h2];rfl
theorem z5o(m N:Nat)(l:List T)(z:List Int)(hl:l.length<4294967296)(hd:T.depths l≤m)(hok:T.oks l=true)(hz:z.length<4294967295):∀ (r:List Int) (i k:Nat) (out:List T),z.drop i=r→i≤z.length→out.length=i→r.length<k →
  LP cx (zr6 zdp zkw (c61 m)) N 35 0 6 k [(0,V.d (D.sl 5 (T.ds l))),(1,V.d (D.sl 1 (zI z))),(8,V.sl 5 (T.ds out) 8),(19,V.d (D.sl 1 (zI z))),(20,V.d (D.int .i64 (z.length:Int))),(21,V.d (D.int .i64 (i:Int)))] [(8,Ob.tok (T.ds out).length)] (AK cx (zr6 zdp zkw (c61 m)) N 35 0 6 (EK cx 35 0)) =
   some (.ret (z5h (T.ds (zcp l (z.take i) r out).1,(zcp l (z.take i) r out).2)),[])
 | [],i,k,out,hdr,hi,ho,hk=>by
  obtain ⟨k,rfl⟩:∃ k',k=k'+1:=⟨k - 1,by omega⟩
  have:z.length≤i:=by simpa using hdr
  obtain rfl:i=z.length:=by omega
  refine (yft zdp zkw (c61 m) N k l z (T.ds out) z.length).trans ?_;rw [yw,px];rfl
 | x::r,i,k,out,hdr,hi,ho,hk=>by
  obtain ⟨k,rfl⟩:∃ k',k=k'+1:=⟨k - 1,by omega⟩
  obtain ⟨h1,h2,h3⟩:=za0 hdr;refine (yft zdp zkw (c61 m) N k l z (T.ds out) i).trans ?_;have hle:decide ((i:Int)≤(z.length:Int))=true:=pa (by omega)
  have hat:∀ {R:Type} {K:D→Option R},za (List.map (D.int .i64) z) (i:Int).toNat K=K (.int .i64 x):=λ {R K}=>z0k h2;have hmem:zkw (.sl 1 (zI (z.take i))) x=some (decide (x∈z.take i)):=z1f (by rw [List.length_take]; omega)
  rw [yf h1,pw,y8,zas,yf h1,Bool.and_self,xm,hat,zmg,xu];simp only [decide_true,pw];unfold zcp;cases hx0:decide (x<0)
  ·rw [px,zu];cases hx1:decide ((l.length:Int)≤x)
   ·rw [px,hle,Bool.and_self,xm,po,zle,hmem,ww];cases hx2:decide (x∈z.take i)
    ·have x0:=of_decide_eq_false hx0;have x1:=of_decide_eq_false hx1;have hxl:x.toNat<l.length:=by omega
     have ht:=p4 hxl;have htm:=List.getElem_mem hxl;generalize l[x.toNat]=t at ht htm;have ih:=z5o m N l z hl hd hok hz r (i+1) k (out++[t]) h3 h1 (by simp [ho]) (by simp at hk; omega)
     rw [zva,pe] at ih;have d0:decide ((0:Int)≤x)=true:=pa (by omega)
     have d1:decide (x<(l.length:Int))=true:=pa (by omega)
     have htd:∀ {R:Type} {K:D→Option R},za (T.ds l) x.toNat K=K t.d:=λ {R K}=>zex (by rw [zk0,List.getElem?_map,ht]; rfl)
     have hdt:=zbv htm;rw [px,d0,d1,Bool.and_self,xm,htd];simp only [yk,xu,vk,vj,vi,vh,we];rw [z64 (wx hok htm) (by omega),ww]
     simp only [we];have d2:decide ((T.ds out).length+[t.d].length≤4294967296)=true:=pa (by rw [zu]; simp only [py,pz]; omega)
     rw [d2,Bool.and_self,xm,w9 h1 (by omega)]
     simp only [Bool.or_self,px,ht];rw [take_snoc h2];exact ih
    ·rfl
   ·rfl
  ·rfl
theorem m35(l:List T)(hg:zbl l=true)(z:List Int)(hz:z.length<4294967295):zj cx 35 [.d (.sl 5 (T.ds l)),.d (.sl 1 (zI z))] []=some (.ret (z5h (T.ds (za3 l z).1,(za3 l z).2)),[]):=by
 unfold za3;cases hw:decide (v7 l=0)
 ·refine zm z0d (N:=0) ?_;have e:zsn (.sl 5 (T.ds l))=some (v7 l):=by
   unfold zsn; rw [zik hg,ww,hw]; rfl
  rw [yf7,e,ww,hw];rfl
 ·obtain ⟨h1,h2,h3⟩:=vp.1 hg;refine zm (z39 (m:=T.depths l)) (N:=z.length+1) ?_;have e:zdp (.sl 5 (T.ds l))=some ((nmL l).map .str,nI (List.range l.length)):=by
   unfold zdp; rw [zik hg,ww,hw]; rfl
  rw [yif,e,ww,pw,zas];exact z5o (T.depths l) (z.length+1) l z (yp h1) (Nat.le_refl _) h2 hz z 0 (z.length+1) [] rfl (Nat.zero_le _) rfl (Nat.lt_succ_self _)
def zr0(x y:D):Option (List D×Int):=zc (zis x) λ l=>(match y with | .sl 1 L=>zc (zef L) λ z=>zb (decide (z.length<4294967295)) (some (T.ds (za3 l z).1,(za3 l z).2)) | _=>none)
theorem z83{l:List T}(hg:zbl l=true){z:List Int}(hz:z.length<4294967295):zr0 (.sl 5 (T.ds l)) (.sl 1 (zI z))=some (T.ds (za3 l z).1,(za3 l z).2):=by
 unfold zr0;rw [zik hg,ww];show zc (zef (zI z)) _=_;rw [zl3,ww,pa hz]; rfl
theorem z26{x y:D}{b:List D×Int}(h:zr0 x y=some b):∃ (l:List T) (z:List Int),zbl l=true∧z.length<4294967295∧x=.sl 5 (T.ds l)∧y=.sl 1 (zI z)∧b=(T.ds (za3 l z).1,(za3 l z).2):=by
 unfold zr0 at h;obtain ⟨m,hm,q⟩:=zd h;clear h;obtain ⟨h0,hg⟩:=zb0 hm;split at q
 ·rename_i L;obtain ⟨z,hz,q2⟩:=zd q;clear q;obtain ⟨h1,q3⟩:=zf q2;cases q3;exact ⟨m,z,hg,pc h1,h0,by rw [zgs hz]; rfl,rfl⟩
 ·cases q
theorem zqr{f:Nat}(hf:∀ (l:List T) (z:List Int),zbl l=true→z.length<4294967295→zj cx f [.d (.sl 5 (T.ds l)),.d (.sl 1 (zI z))] []=some (.ret (z5h (T.ds (za3 l z).1,(za3 l z).2)),[])){S:CK R1}(hS:knows cx S.S (zj cx)) :
  knows cx (z7 f zzw (λ q=>zr0 q.1 q.2) (λ q=>.tup [.d (.sl 5 q.1),.d (.int .i64 q.2)]) S).S (zj cx):=zk hS λ a q b hd h hb=>by
 obtain ⟨l,z,hg,hz,h1,h2,rfl⟩:=z26 hb;rw [zty h,h1,h2];exact hf l z hg hz
open Classical in
def s37(x y:D)(w:Bool):Option Bool:=if ∃ l:List T,yn l=true∧T.oks l=true∧x=.sl 5 (T.ds l)∧y=.sl 5 (T.ds l)∧w=true then some true else none
theorem yai{l:List T}(h1:yn l=true)(h2:T.oks l=true):s37 (.sl 5 (T.ds l)) (.sl 5 (T.ds l)) true=some true:=by
 unfold s37; rw [if_pos ⟨l,h1,h2,rfl,rfl,rfl⟩]
theorem z1n{l:List T}(hok:T.oks l=true):∀ (r pre:List Int) (out:List T),T.oks out=true→T.oks (zcp l pre r out).1=true∧(zcp l pre r out).1.length≤out.length+r.length
 | [],pre,out,h=>⟨h,by simp [zcp]⟩
 | i::r,pre,out,h=>by
  unfold zcp;cases decide (i<0)||decide ((l.length:Int)≤i)||decide (i∈pre)
  ·rw [px];cases ht:l[i.toNat]? with
   | none=>exact ⟨rfl,Nat.zero_le _⟩
   | some t=>
    have ho:T.oks (out++[t])=true:=by
     have:∀ out:List T,T.oks out=true→T.oks (out++[t])=true:=λ out=>by
      induction out with
      | nil=>intro _; simp only [List.nil_append,T.oks,wx hok (pq ht)]; rfl
      | cons a out ih=>
       intro h;simp only [T.oks,pm] at h;simp only [List.cons_append,T.oks,h.1,ih h.2]; rfl
     exact this out h
    obtain ⟨a1,a2⟩:=z1n hok r (pre++[i]) (out++[t]) ho;refine ⟨a1,?_⟩;simp only [pe,py,pz] at a2 ⊢;omega
  ·exact ⟨rfl,Nat.zero_le _⟩
theorem pure_sliceOrders(l:List T)(h1:yn l=true)(h2:T.oks l=true)(z:List Int)(_hz:yn z=true):zj cx 10 [.d (.sl 5 (T.ds l)),.d (.sl 1 (z.map (D.int .i64)))] []=some (.ret (mkB true),[]):=by
 have hk:knows cx (ygk g17 (some true) o26 o26 zr0 zr0 p23 s37).S (zj cx):=
  zk (zk (zsx m26 (zsx m34 (zqr (λ l z hg hz=>m35 l hg z hz) (zqr (λ l z hg hz=>m36 l hg z hz) (zk (zk zp λ a q b hd h hb=>by
    unfold s37 at hb;split at hb
    ·rename_i he;cases hb;obtain ⟨l,h1,h2,h3,h4,h5⟩:=he;rw [zqn h,h3,h4,h5];exact m37 l h1 h2
    ·cases hb) λ a q b hd h hb=>z2e h hb))))) λ a q b hd h hb=>z1w h hb) λ a q b hd h hb=>z2t h hb
 refine zm hk (N:=0) ?_;refine (yin g17 (some true) o26 o26 zr0 zr0 p23 s37 0 l z).trans ?_;rw [yb2 h1 h2,ww,zas];cases hgr:zfs l
 ·rw [px];cases hzl:decide ((100:Int)<(z.length:Int))
  ·have hzl:=of_decide_eq_false hzl;obtain ⟨hg,hl,hb⟩:=zza h1 h2 hgr;have e1:o26 (.sl 5 (T.ds l))=some (nI (zbm l).1,(zbm l).2):=by unfold o26; rw [zik hg]; rfl
   have e2:zr0 (.sl 5 (T.ds l)) (.sl 1 (List.map (D.int .i64) z))=some (T.ds (za3 l z).1,(za3 l z).2):=z83 hg (by omega)
   have hol:(zbm l).1.length≤l.length:=by
    unfold zbm;cases decide (v7 l=0)
    ·exact Nat.zero_le _
    ·rw [pw];unfold zvr;cases ho:zdl (zep l) (zep l).length (zep l).length [] with
     | none=>exact Nat.zero_le _
     | some o=>
      obtain ⟨_,_,h7⟩:=zst ho List.nodup_nil trivial;rw [zjq] at h7;show o.length≤l.length;rw [h7]; simp
   have hcut:T.oks (za3 l z).1=true∧(za3 l z).1.length≤z.length:=by
    unfold za3;cases decide (v7 l=0)
    ·exact ⟨rfl,Nat.zero_le _⟩
    ·have:=z1n h2 z [] [] rfl;simpa using this
   rw [px,e1,ww,ww];simp only [];rw [e2,ww,ww,yar (zha (by omega)),ww,pw,pa rfl,pw,yai (zha (by omega)) hcut.1,ww,pw,decide_true]
   rfl
  ·rfl
 ·rfl
open Go.Proofs.YtmolcgfhgdhgoaaGreatDoor in
theorem glob_says:zw7 cx.P cx.glob Rows.sliceUsesRow.laid:=by
 intro g x h
 match g,h with
 | 0, h => cases h; exact ⟨"hypercube/lex.signs", Rows.laid_hypercube_lex_signs, by simp [Rows.sliceUsesRow], by kernel_rfl, by kernel_rfl⟩
 | 1, h => cases h; exact ⟨"unicode/utf8.first", Rows.laid_unicode_utf8_first, by simp [Rows.sliceUsesRow], by kernel_rfl, by kernel_rfl⟩
 | 2, h => cases h; exact ⟨"unicode/utf8.acceptRanges", Rows.laid_unicode_utf8_acceptRanges, by simp [Rows.sliceUsesRow], by kernel_rfl, by kernel_rfl⟩
 | n+3,h=>cases h
theorem no_routines:x5 cx.P:=by
 have h : (cx.P.funcs.all λ fn => fn.name != "runtime.NumGoroutine") = true := by kernel_rfl
 intro f fn hf;have:=Array.all_eq_true_iff_forall_mem.1 h fn (Array.mem_of_getElem? hf);simpa using this
theorem mixed:cx.P.follows .mixedOrders=true:=by kernel_rfl
def lits:D→Value
 | .int k n=>.int k n
 | .str s=>.string (wg s)
 | _=>undef
def laidWorld(os:Os):World:=
 { World.holding Tryz.prog os ⟨#[],#[],[]⟩ with heap:=(((((World.holding Tryz.prog os ⟨#[],#[],[]⟩).heap.modify 0 fun
   | .cells _ t frozen=>.cells (qd.cells.map lits).toArray t frozen
   | o=>o).modify 1 fun
   | .cells _ t frozen=>.cells ((unW Go.Pinned.utf8First).map lits).toArray t frozen
   | o=>o).modify 2 fun
   | .cells _ t frozen=>.cells (acc.cells.map lits).toArray t frozen
   | o=>o).modify 4 fun
   | .cells _ t frozen=>.cells ((unW (Go.Proofs.YtmolcgfhgdhgoaaGreatDoor.Rows.laid_math_bits_deBruijn32tab (H:=Unit))).map lits).toArray t frozen
   | o=>o) }
open Go.Proofs Go.Proofs.YtmolcgfhgdhgoaaGreatDoor
theorem bulks_len:∀ l:List T,l.length≤Sp.bulks l
 | []=>Nat.le_refl _
 | .mk k nm kids nms pl::l=>by
  have:=bulks_len l;simp only [py,Sp.bulks,xa]; omega
theorem zww:∀ l:List (List UInt8),l.length≤w7 l
 | []=>Nat.le_refl _
 | x::l=>by have:=zww l; simp only [py,w7]; omega
theorem zwx:∀ l:List (List UInt8),w7 l<4294967296→l.all yn=true
 | [],_=>rfl
 | x::l,h=>by
  simp only [w7] at h;rw [List.all_cons,zwx l (by omega),Bool.and_true]
  exact pa (by omega)
mutual
theorem z78:∀ t:T,xa t<4294967296→t.ok=true
 | .mk k nm kids nms pl,h=>by
  simp only [xa] at h;have h1:=bulks_len kids;have h2:=zww nms;simp only [T.ok,oks_bulk kids (by omega),zwx nms (by omega),Bool.and_true,pm]
  exact ⟨⟨pa (by omega),pa (by omega)⟩,pa (by omega)⟩
theorem oks_bulk:∀ l:List T,Sp.bulks l<4294967296→T.oks l=true
 | [],_=>rfl
 | t::l,h=>by
  simp only [Sp.bulks] at h;simp only [T.oks,z78 t (by omega),oks_bulk l (by omega)]; rfl
end
theorem z3m(t:T):D.agg t.d.cells=t.d:=by cases t; rfl
section
variable {H:Type} {enc:TypeId×Value→H} {W:World} {base:Nat} {spare:Nat→Bool} {held:Bool}
theorem ztu{m:Nat}:∀ (es:List (DataW H×List MemPlace)),(∀ y∈es,∃ t:T,xp Tryz.prog m 26 y.1=some t.d.cells∧xa t≤Rows.uptoBulk y.1) →
  ∃ l:List T,za8 true (xp Tryz.prog m 26) (es.map (·.1))=some (T.ds l)∧Sp.bulks l≤Rows.uptoBulkAll (es.map (·.1))
 | [],_=>⟨[],rfl,Nat.le_refl _⟩
 | y::es,h=>by
  obtain ⟨t,h1,h2⟩:=h y (pp ..);obtain ⟨l,h3,h4⟩:=ztu es λ z hz=>h z (pr _ hz);refine ⟨t::l,?_,?_⟩
  ·simp only [List.map_cons,za8,h1,h3,T.ds,elemOf,pw,z3m]
  ·simp only [List.map_cons,Sp.bulks,Rows.uptoBulkAll]; omega
theorem zxs{m:Nat}:∀ (es:List (DataW H×List MemPlace)),(∀ y∈es,∃ s:List UInt8,y.1=.lit (.string s)) →
  ∃ l:List (List UInt8),za8 false (xp Tryz.prog (m+1) 9) (es.map (·.1))=some (l.map .str)∧w7 l≤Rows.uptoBulkAll (es.map (·.1))
 | [],_=>⟨[],rfl,Nat.le_refl _⟩
 | y::es,h=>by
  obtain ⟨s,h1⟩:=h y (pp ..);obtain ⟨l,h3,h4⟩:=zxs (m:=m) es λ z hz=>h z (pr _ hz);refine ⟨s::l,?_,?_⟩
  ·have e:xp Tryz.prog (m+1) 9 y.1=some [.str s]:=by rw [h1]; simp only [xp,Tryz.underlying9]
   simp only [List.map_cons,za8,e,h3];rfl
  ·simp only [List.map_cons,w7,Rows.uptoBulkAll,h1,Rows.uptoBulk]; omega
theorem zc8{P:Program}{n t e:Nat}{els sp:List (DataW H)}(h:P.underlying t=some (.slice e)) :
  xp P (n+1) t (.slice els sp)=bif Nat.beq (P.cellsOf e) 0 then none else (za8 (wo P e) (xp P n e) els).map λ l=>[.sl (P.cellsOf e) l]:=by
 simp only [xp,h]
theorem zrp{P:Program}{n t:Nat}{fs:Array Field}{ps:List (DataW H)}(h:P.underlying t=some (.struct fs)) :
  xp P (n+1) t (.agg ps)=bif zgc P 0 fs.toList (P.cellsOf t) then qu (xp P n) fs.toList ps else none:=by
 simp only [xp,h]
theorem yfz:wo Tryz.prog 26=true:=by kernel_rfl
theorem yhv:wo Tryz.prog 9=false:=by kernel_rfl
theorem cells26:Tryz.prog.cellsOf 26=5:=by kernel_rfl
theorem cells9:Tryz.prog.cellsOf 9=1:=by kernel_rfl
theorem zk6{α β:Type}{o:Option α}{f:α→Option β}{y:β}(h:o.bind f=some y):∃ a,f a=some y:=by
 cases o with
 | none=>cases h
 | some a=>exact ⟨a,h⟩
theorem trod_trees{n:Nat}{cs:List Value}{x:DataW H×List MemPlace}(ih:∀ m,m<n→∀ cs x,DataW.trod enc Tryz.prog W base spare held m 26 cs=some x→∃ t:T,xp Tryz.prog m 26 x.1=some t.d.cells∧xa t≤Rows.uptoBulk x.1)
  (h:DataW.trod enc Tryz.prog W base spare held n 24 cs=some x):∃ l:List T,xp Tryz.prog n 24 x.1=some [.sl 5 (T.ds l)]∧Sp.bulks l+1≤Rows.uptoBulk x.1:=by
 have hn:∃ k,n=k+1:=by
  cases n with
  | zero=>simp [DataW.trod] at h
  | succ k=>exact ⟨k,rfl⟩
 obtain ⟨k,rfl⟩:=hn;rcases DataW.trod_slice Tryz.underlying24 h with ⟨_,rfl⟩ | ⟨a,len,cap,elems,rest,m,hm,_,rfl,_,_,_,hl,he,_⟩
 ·refine ⟨[],?_,Nat.le_refl _⟩;simp only [xp,Tryz.underlying24,cells26];rfl
 ·cases hm;obtain ⟨l,h1,h2⟩:=ztu (m:=k) elems λ y hy=>by
   obtain ⟨i,hi⟩:=List.getElem?_of_mem hy;have:=he i (by have:=(pn.1 hi).1; omega)
   rw [hi] at this;obtain ⟨c,hc⟩:=zk6 this;exact ih k (Nat.lt_succ_self _) c y hc
  refine ⟨l,?_,?_⟩
  ·have e:Nat.beq (Tryz.prog.cellsOf 26) 0=false:=by rw [cells26]; rfl
   rw [zc8 Tryz.underlying24,e,px,yfz,h1,cells26];rfl
  ·simp only [Rows.uptoBulk]; omega
theorem z11{n:Nat}{cs:List Value}{x:DataW H×List MemPlace}(h:DataW.trod enc Tryz.prog W base spare held n 23 cs=some x):∃ l:List (List UInt8),xp Tryz.prog n 23 x.1=some [.sl 1 (l.map .str)]∧w7 l+1≤Rows.uptoBulk x.1:=by
 have hn:∃ k,n=k+1:=by
  cases n with
  | zero=>simp [DataW.trod] at h
  | succ k=>exact ⟨k,rfl⟩
 obtain ⟨k,rfl⟩:=hn;rcases DataW.trod_slice Tryz.underlying23 h with ⟨_,rfl⟩ | ⟨a,len,cap,elems,rest,m,hm,_,rfl,_,_,_,hl,he,_⟩
 ·refine ⟨[],?_,Nat.le_refl _⟩;simp only [xp,Tryz.underlying23,cells9];rfl
 ·cases hm;have hel:∀ y∈elems,∃ c,DataW.trod enc Tryz.prog W base spare held k 9 c=some y:=λ y hy=>by
   obtain ⟨i,hi⟩:=List.getElem?_of_mem hy;have:=he i (by have:=(pn.1 hi).1; omega)
   rw [hi] at this;exact zk6 this
  have e:Nat.beq (Tryz.prog.cellsOf 9) 0=false:=by rw [cells9]; rfl
  cases k with
  | zero=>
   have:elems=[]:=by
    cases elems with
    | nil=>rfl
    | cons y es=>obtain ⟨c,hc⟩:=hel y (pp ..); simp [DataW.trod] at hc
   subst this;refine ⟨[],?_,?_⟩
   ·rw [zc8 Tryz.underlying23,e,px,cells9];rfl
   ·simp only [Rows.uptoBulk,w7]; omega
  | succ k=>
   obtain ⟨l,h1,h2⟩:=zxs (m:=k) elems λ y hy=>by
    obtain ⟨c,hc⟩:=hel y hy;obtain ⟨s,_,rfl,_⟩:=DataW.trod_string Tryz.underlying9 hc;exact ⟨_,rfl⟩
   refine ⟨l,?_,?_⟩
   ·rw [zc8 Tryz.underlying23,e,px,yhv,h1,cells9];rfl
   ·simp only [Rows.uptoBulk]; omega
theorem trod_tree:∀ (n:Nat) (cs:List Value) (x:DataW H×List MemPlace),DataW.trod enc Tryz.prog W base spare held n 26 cs=some x→∃ t:T,xp Tryz.prog n 26 x.1=some t.d.cells∧xa t≤Rows.uptoBulk x.1:=by
 intro n
 induction n using Nat.strongRecOn with
 | ind n ih=>
  intro cs x h;obtain ⟨xs,m,rfl,rfl,hlen,hxs,hf⟩:=DataW.trod_struct Tryz.underlying26 h;obtain ⟨x0,x1,x2,x3,x4,rfl⟩:∃ x0 x1 x2 x3 x4,xs=[x0,x1,x2,x3,x4]:=by
   match xs,hxs with
   | [a,b,c,d,e],_=>exact ⟨a,b,c,d,e,rfl⟩
  have f0:=hf 0 _ rfl;have f1:=hf 1 _ rfl;have f2:=hf 2 _ rfl;have f3:=hf 3 _ rfl;have f4:=hf 4 _ rfl;simp only [List.getElem?_cons_zero,List.getElem?_cons_succ] at f0 f1 f2 f3 f4;obtain ⟨k,_,rfl,_⟩:=DataW.trod_int Tryz.underlying3 f0;obtain ⟨s,_,rfl,_⟩:=DataW.trod_string Tryz.underlying9 f1;obtain ⟨l,hl1,hl2⟩:=trod_trees (λ m' hm'=>ih m' (Nat.lt_succ_of_lt hm')) f2;obtain ⟨ns,hn1,hn2⟩:=z11 f3;obtain ⟨p,_,rfl,_⟩:=DataW.trod_int Tryz.underlying3 f4;have hm:∃ q,m=q+1:=by
   cases m with
   | zero=>simp [DataW.trod] at f0
   | succ k=>exact ⟨k,rfl⟩
  obtain ⟨q,rfl⟩:=hm;refine ⟨.mk k s.data.toList l ns p,?_,?_⟩
  ·rw [zrp Tryz.underlying26];have e1:∀ z:Int,xp Tryz.prog (q+1) 3 (DataW.lit (H:=H) (.int .i64 z))=some [.int .i64 z]:=λ z=>by simp only [xp,Tryz.underlying3]
   have e2:∀ z:List UInt8,xp Tryz.prog (q+1) 9 (DataW.lit (H:=H) (.string z))=some [.str z]:=λ z=>by simp only [xp,Tryz.underlying9]
   have e0:∀ fs,zgc Tryz.prog 0 fs (Tryz.prog.cellsOf 26)=true→(bif zgc Tryz.prog 0 fs (Tryz.prog.cellsOf 26) then qu (xp (H:=H) Tryz.prog (q+1)) fs [.lit (.int .i64 k),.lit (.string s.data.toList),x2.1,x3.1,.lit (.int .i64 p)] else none)=qu (xp Tryz.prog (q+1)) fs [.lit (.int .i64 k),.lit (.string s.data.toList),x2.1,x3.1,.lit (.int .i64 p)]:=λ fs h=>by rw [h]; rfl
   refine (e0 _ (by kernel_rfl)).trans ?_
   simp only [qu,e1,e2,hl1,hn1];rfl
  ·simp only [List.map_cons,List.map_nil,Rows.uptoBulk,Rows.uptoBulkAll,xa];omega
end
theorem same_kept{W W':World}(h:Kept W zes W'){p:MemPlace}(hp:p.block<W.heap.size):W.sameAt W' p:=by
 cases p with
 | cell b o=>exact World.cell?_of_block (w:=W) (h.blk b hp λ _ h=>h)
 | map b=>exact h.blk b hp λ _ h=>h
section
variable {H:Type} {enc:TypeId×Value→H} {W:World} {base:Nat} {spare:Nat→Bool} {held:Bool}
theorem zxt{m:Nat}:∀ (es:List (DataW H×List MemPlace)),(∀ y∈es,∃ n:Int,y.1=.lit (.int .i64 n)) →
  ∃ l:List Int,za8 false (xp Tryz.prog (m+1) 3) (es.map (·.1))=some (l.map (D.int .i64))∧l.length≤Rows.uptoBulkAll (es.map (·.1))
 | [],_=>⟨[],rfl,Nat.le_refl _⟩
 | y::es,h=>by
  obtain ⟨n,h1⟩:=h y (pp ..);obtain ⟨l,h3,h4⟩:=zxt (m:=m) es λ z hz=>h z (pr _ hz);refine ⟨n::l,?_,?_⟩
  ·have e:xp Tryz.prog (m+1) 3 y.1=some [.int .i64 n]:=by rw [h1]; simp only [xp,Tryz.underlying3]
   simp only [List.map_cons,za8,e,h3];rfl
  ·simp only [List.map_cons,py,Rows.uptoBulkAll,h1,Rows.uptoBulk]; omega
theorem yhw:wo Tryz.prog 3=false:=by kernel_rfl
theorem zoq:Tryz.prog.cellsOf 3=1:=by kernel_rfl
theorem trod_ints{n:Nat}{cs:List Value}{x:DataW H×List MemPlace}(h:DataW.trod enc Tryz.prog W base spare held n 47 cs=some x):∃ l:List Int,xp Tryz.prog n 47 x.1=some [.sl 1 (l.map (D.int .i64))]∧l.length≤Rows.uptoBulk x.1:=by
 have hn:∃ k,n=k+1:=by
  cases n with
  | zero=>simp [DataW.trod] at h
  | succ k=>exact ⟨k,rfl⟩
 obtain ⟨k,rfl⟩:=hn;rcases DataW.trod_slice Tryz.underlying47 h with ⟨_,rfl⟩ | ⟨a,len,cap,elems,rest,m,hm,_,rfl,_,_,_,hl,he,_⟩
 ·refine ⟨[],?_,Nat.zero_le _⟩;simp only [xp,Tryz.underlying47,zoq];rfl
 ·cases hm;have hel:∀ y∈elems,∃ c,DataW.trod enc Tryz.prog W base spare held k 3 c=some y:=λ y hy=>by
   obtain ⟨i,hi⟩:=List.getElem?_of_mem hy;have:=he i (by have:=(pn.1 hi).1; omega)
   rw [hi] at this;exact zk6 this
  have e:Nat.beq (Tryz.prog.cellsOf 3) 0=false:=by rw [zoq]; rfl
  cases k with
  | zero=>
   have:elems=[]:=by
    cases elems with
    | nil=>rfl
    | cons y es=>obtain ⟨c,hc⟩:=hel y (pp ..); simp [DataW.trod] at hc
   subst this;refine ⟨[],?_,Nat.zero_le _⟩;rw [zc8 Tryz.underlying47,e,px,zoq];rfl
  | succ k=>
   obtain ⟨l,h1,h2⟩:=zxt (m:=k) elems λ y hy=>by
    obtain ⟨c,hc⟩:=hel y hy;obtain ⟨s,_,rfl,_⟩:=DataW.trod_int Tryz.underlying3 hc;exact ⟨_,rfl⟩
   refine ⟨l,?_,?_⟩
   ·rw [zc8 Tryz.underlying47,e,px,yhw,h1,zoq];rfl
   ·simp only [Rows.uptoBulk]; omega
end
theorem hgrow:∀ g e,cx.grow g=some e→g=165∧e=9:=λ g e h=>by
 have h:(bif Nat.beq g 165 then some 9 else none)=some e:=h;cases hb:Nat.beq g 165 <;> rw [hb] at h
 ·cases h
 ·cases h; exact ⟨pj hb,rfl⟩
end Go.Vai
end

/-
  Slice: what is needed: the small functions. To: Slice: what the frames of the laws stand on.
-/
import Derived.Test.YtmolcgfhgdhgoaaGreatDoorSliPart4
import Derived.ReadAgain
import Derived.OpenShut
set_option linter.all false
noncomputable section
namespace Go.Vai
open Go.Proofs
theorem ybd(c:Int→List D→Option Int)(n:Nat)(l:List D)(i:Int):zk cx (z4h 84 c mkI (CK.plain zo)) n 48 [.slo 0 1 l.length,.d (.int .i64 i)] [(0,.row l)]=zd (c (i,l,l.length).fst (i,l,l.length).snd.fst) λ b=>za ((i,l,l.length).snd.snd.beq (i,l,l.length).snd.fst.length) (some (Out.ret (V.d (D.bool (decide ((0:Int)≤b)))),[(0,Ob.row l)])):=by kernel_rfl
theorem ybe(c:Int→List D→Option Bool)(n:Nat)(l:List D)(i:Int):zk cx (z4h 48 c mkB (CK.plain zo)) n 47 [.d (.int .i64 i),.ptr 0 0] (psI l)=zd (c (i,l,l.length).fst (i,l,l.length).snd.fst) λ b=>za ((i,l,l.length).snd.snd.beq (i,l,l.length).snd.fst.length) (bif !b then za (l.length.beq l.length&&decide (l.length+[D.int .i64 i].length≤4294967296)) (some (Out.ret (V.tup []),[(0,Ob.val 1 (V.slo 1 1 (l.length+[D.int .i64 i].length))),(1,Ob.row (l++[D.int .i64 i]))])) else some (Out.ret (V.tup []),[(0,Ob.val 1 (V.slo 1 1 l.length)),(1,Ob.row l)])):=by kernel_rfl
theorem zn1{a:List V}{σ:St}{i:Int}{l:List D}{n:Nat}(h:z2b a σ=some (i,(l,n))):a=[.slo 0 1 n,.d (.int .i64 i)]∧σ=[(0,.row l)]:=by
 unfold z2b at h;split at h
 ·cases h; exact ⟨rfl,rfl⟩
 ·cases h
def zjf:List D→Option (List Nat)
 | []=>some []
 | .int .i64 n::r=>zd (zjf r) λ l=>za (decide (0≤n)) (some (n.toNat::l))
 | _=>none
theorem zdj:∀ {l:List D} {r:List Nat},zjf l=some r→l=nI r
 | [],r,h=>by cases h; rfl
 | .int .i64 n::l,r,h=>by
  obtain ⟨q,hq,h⟩:=zb h;obtain ⟨h1,h⟩:=zc h;cases h;rw [zdj hq];have:=pc h1;show D.int .i64 n::nI q=D.int .i64 ((n.toNat:Nat):Int)::nI q;rw [Int.toNat_of_nonneg this]
theorem zgm:∀ us:List Nat,zjf (nI us)=some us
 | []=>rfl
 | u::us=>by
  show zd (zjf (nI us)) _=_;rw [zgm us];show za (decide ((0:Int)≤(u:Int))) _=_;rw [pa (by omega)]; rfl
def c84(a:Int)(L:List D):Option Int:=zd (zjf L) λ l=>za (yi l) (some (y4 (λ x:Nat=>decide (a=(x:Int))) l))
theorem m48(l:List Nat)(a:Int)(hl:yi l=true):zh cx 48 [.slo 0 1 (nI l).length,.d (.int .i64 a)] [(0,.row (nI l))]=some (.ret (mkB (v6 a l)),[(0,.row (nI l))]):=by
 have hk:knows cx (z4h 84 c84 mkI (CK.plain zo)).S (zh cx):=xp zq λ b σ q r hd h=>by
  obtain ⟨i,L,n⟩:=q;obtain ⟨x,hx,h⟩:=zb h;obtain ⟨hn,h⟩:=zc h;cases h;obtain ⟨rfl,rfl⟩:=zn1 hd;obtain ⟨m,hm,hx⟩:=zb hx;obtain ⟨h1,hx⟩:=zc hx;cases hx;have hn:n=L.length:=pg hn;have e:L=nI m:=zdj hm;subst e;subst hn;have:=yal m i h1;rw [show (nI m).length=m.length from by unfold nI; rw [pf]]
  exact this
 refine zl hk (N:=0) ?_;rw [ybd];show zd (c84 a (nI l)) _=_;unfold c84;rw [zgm];show zd (za (yi l) _) _=_;rw [hl];show za (Nat.beq (nI l).length (nI l).length) (some (Out.ret (mkB (decide ((0:Int)≤y4 (λ x:Nat=>decide (a=(x:Int))) l))),_))=_;rw [Nat.beq_refl,zhg];have:(l.any λ x:Nat=>decide (a=(x:Int)))=v6 a l:=by
  unfold v6;congr 1;funext x;by_cases h:a=(x:Int)
  ·rw [pa h,pa h.symm]
  ·rw [pb h,pb (λ e=>h e.symm)]
 rw [this];rfl
def c48(a:Int)(L:List D):Option Bool:=zd (zjf L) λ l=>za (yi l) (some (v6 a l))
theorem m47(l:List Nat)(i:Nat)(hl:l.length+1<4294967296):zh cx 47 [.d (.int .i64 i),.ptr 0 0] (psI (nI l))=some (.ret (.tup []),psI (nI (Sp.addN l i))):=by
 have hk:knows cx (z4h 48 c48 mkB (CK.plain zo)).S (zh cx):=xp zq λ b σ q r hd h=>by
  obtain ⟨i,L,n⟩:=q;obtain ⟨x,hx,h⟩:=zb h;obtain ⟨hn,h⟩:=zc h;cases h;obtain ⟨rfl,rfl⟩:=zn1 hd;obtain ⟨m,hm,hx⟩:=zb hx;obtain ⟨h1,hx⟩:=zc hx;cases hx;have hn:n=L.length:=pg hn;have e:L=nI m:=zdj hm;subst e;subst hn;exact m48 m i h1
 refine zl hk (N:=0) ?_;rw [ybe];have hs:yi l=true:=pa (by omega)
 have e:c48 i (nI l)=some (v6 i l):=by
  unfold c48;rw [zgm];show za (yi l) _=_;rw [hs]; rfl
 have hu:(nI l).length=l.length:=by unfold nI; rw [pf]
 show zd (c48 i (nI l)) _=_;rw [e];unfold Sp.addN;cases hm:v6 (i:Int) l
 ·have : ¬ i∈l:=λ h=>by rw [zjk.2 h] at hm; cases hm
  rw [if_neg this];show za (Nat.beq (nI l).length (nI l).length) (za (Nat.beq (nI l).length (nI l).length&&decide ((nI l).length+[D.int .i64 (i:Int)].length≤4294967296)) _)=_;rw [Nat.beq_refl,pa (p:=(nI l).length+[D.int .i64 (i:Int)].length≤4294967296) (by rw [hu]; simp only [List.length_cons,List.length_nil]; omega)]
  have h4:nI (l++[i])=nI l++[D.int .i64 (i:Int)]:=by unfold nI; rw [List.map_append]; rfl
  unfold psI;rw [h4,pe];rfl
 ·rw [if_pos (zjk.1 hm)];show za (Nat.beq (nI l).length (nI l).length) _=_;rw [Nat.beq_refl];rfl
def zac(v:D→Option (List D×Int))(h:D→Int→Option Bool):CK R1:=
 zy 29 zcj v mk2 (zy 50 zjw (λ q=>h q.1 q.2) mkB (CK.plain zo))
theorem z93(n:Nat)(k:Int)(nm:List UInt8)(kids:List T)(nms:List (List UInt8))(pl:Int)(s:List UInt8):zk cx (CK.plain zo) n 46 [.d (T.mk k nm kids nms pl).d,.ptr 0 0] (psT s)=some (Out.ret (V.d (D.bool (decide (nm=s)))),[(0,Ob.val 1 (V.d (D.str s)))]):=by kernel_rfl
theorem ybf(p:D→List UInt8→Option Bool)(n:Nat)(l:List T)(s:List UInt8):zk cx (txK 46 zge p mkB (CK.plain zo)) n 45 [.d (.sl 5 (T.ds l)),.func 46 [.ptr 0 0]] (psT s)=LP cx (txK 46 zge p mkB (CK.plain zo)) n 45 1 2 n [(0,V.d (D.sl 5 (T.ds l))),(1,V.func 46 [V.ptr 0 0]),(7,V.d (D.int .i64 (↑(T.ds l).length:Int))),(8,V.d (D.int .i64 (0:Int)))] [(0,Ob.val 1 (V.d (D.str s)))] (AK cx (txK 46 zge p mkB (CK.plain zo)) n 45 1 2 (EK cx 45 1)):=by kernel_rfl
theorem z9u(p:D→List UInt8→Option Bool)(n k:Nat)(l:List T)(s:List UInt8)(i:Int):LP cx (txK 46 zge p mkB (CK.plain zo)) n 45 1 2 (k+1) [(0,V.d (D.sl 5 (T.ds l))),(1,V.func 46 [V.ptr 0 0]),(7,V.d (D.int .i64 (l.length:Int))),(8,V.d (D.int .i64 i))] [(0,Ob.val 1 (V.d (D.str s)))] (AK cx (txK 46 zge p mkB (CK.plain zo)) n 45 1 2 (EK cx 45 1))=bif decide (i<(↑l.length:Int)) then za (decide (0≤i)&&decide (i<(↑(T.ds l).length:Int))) (ze (T.ds l) i.toNat λ y=>ze y.cells 0 λ c=>ze y.cells 1 λ c_1=>ze y.cells 2 λ c_2=>ze y.cells 3 λ c_3=>ze y.cells 4 λ c_4=>zd (p (D.agg [c,c_1,c_2,c_3,c_4],s).fst (D.agg [c,c_1,c_2,c_3,c_4],s).snd) λ b=>bif b then some (Out.ret (V.d (D.int .i64 i)),[(0,Ob.val 1 (V.d (D.str s)))]) else LP cx (txK 46 zge p mkB (CK.plain zo)) n 45 1 2 k [(0,V.d (D.sl 5 (T.ds l))),(1,V.func 46 [V.ptr 0 0]),(7,V.d (D.int .i64 (↑l.length:Int))),(8,V.d (D.int .i64 (IntKind.i64.wrap (i+(1:Int)))))] [(0,Ob.val 1 (V.d (D.str s)))] (AK cx (txK 46 zge p mkB (CK.plain zo)) n 45 1 2 (EK cx 45 1))) else some (Out.ret (V.d (D.int .i64 (Int.negSucc 0))),[(0,Ob.val 1 (V.d (D.str s)))]):=by kernel_rfl
theorem zs7{σ:St}{s:List UInt8}(h:pdT σ=some s):σ=psT s:=by
 unfold pdT at h;split at h <;> cases h;rfl
theorem zv8{a:List V}{σ:St}{q:D×List UInt8}(h:zge a σ=some q):a=[.d q.1,.ptr 0 0]∧σ=psT q.2:=by
 unfold zge at h;split at h
 ·obtain ⟨s,hs,h⟩:=zb h;cases h;exact ⟨rfl,zs7 hs⟩
 ·cases h
theorem zv9{a:List V}{σ:St}{q:D×List UInt8}(h:z2d a σ=some q):a=[.d q.1,.func 46 [.ptr 0 0]]∧σ=psT q.2:=by
 unfold z2d at h;split at h
 ·obtain ⟨s,hs,h⟩:=zb h;cases h;exact ⟨rfl,zs7 hs⟩
 ·cases h
theorem zph{β:Type}{f:Nat}{dec:List V→St→Option (D×List UInt8)}{p:D→List UInt8→Option β}{mk:β→V}{S:CK R1}(hS:knows cx S.S (zh cx))
  (hf:∀ a σ q b,dec a σ=some q→p q.1 q.2=some b→zh cx f a σ=some (.ret (mk b),psT q.2)):knows cx (txK f dec p mk S).S (zh cx):=xp hS λ a σ q r hd h=>by
 obtain ⟨b,hb,h⟩:=zb h;cases h;exact hf a σ q b hd hb
theorem m46(t:T)(s:List UInt8):zh cx 46 [.d t.d,.ptr 0 0] (psT s)=some (.ret (mkB (decide (t.nm=s))),psT s):=by
 obtain ⟨k,nm,kids,nms,pl⟩:=t;exact zl zq (N:=0) (z93 0 k nm kids nms pl s)
def p46(x:D)(s:List UInt8):Option Bool:=zd (Sp.toC x) λ t=>some (decide (t.nm=s))
theorem m45(l:List T)(s:List UInt8)(hl:yi l=true)(ho:T.oks l=true):zh cx 45 [.d (.sl 5 (T.ds l)),.func 46 [.ptr 0 0]] (psT s)=some (.ret (mkI (y4 (λ t:T=>decide (t.nm=s)) l)),psT s):=by
 have hk:knows cx (txK 46 zge p46 mkB (CK.plain zo)).S (zh cx):=zph zq λ a σ q b hd hb=>by
  obtain ⟨rfl,rfl⟩:=zv8 hd;obtain ⟨t,ht,hb⟩:=zb hb;cases hb;rw [(wl ht).1];exact m46 t q.2
 refine zl hk (N:=l.length+1) ?_;rw [ybf,yc]
 have h:=zby (λ k i=>LP cx (txK 46 zge p46 mkB (CK.plain zo)) (l.length+1) 45 1 2 k [(0,V.d (D.sl 5 (T.ds l))),(1,V.func 46 [V.ptr 0 0]),(7,V.d (D.int .i64 (l.length:Int))),(8,V.d (D.int .i64 i))] [(0,Ob.val 1 (V.d (D.str s)))] (AK cx (txK 46 zge p46 mkB (CK.plain zo)) (l.length+1) 45 1 2 (EK cx 45 1)))
  l (λ t=>decide (t.nm=s)) (λ j=>some (Out.ret (V.d (D.int .i64 j)),psT s)) (some (Out.ret (V.d (D.int .i64 (Int.negSucc 0))),psT s)) (y9 hl)
  (λ k j x hj hx=>by
   have e:p46 x.d s=some (decide (x.nm=s)):=by unfold p46; rw [zhv (vp ho (po hx))]; rfl
   refine (z9u p46 (l.length+1) k l s j).trans ?_;simp only [yq hj,yc,xi,Bool.and_self,zao,cond_true,yu,pm,hx,zci,xa,vq,zbm,zbt,zbs,zbr,za2,e];rfl)
  (λ k=>by rw [z9u,x6,cond_false]; rfl) (k:=l.length+1) (Nat.lt_succ_self _)
 refine h.trans ?_;unfold y4;cases yl (λ t:T=>decide (t.nm=s)) l 0 <;> rfl
def zse(l:List Bool):Nat:=(l.filter id).length
structure Behind (U:List (List Nat)) (s:Nat) (q r:List Bool×Bool):Prop where
 len:r.1.length=q.1.length
 up:∀ k,q.1.getD k false=true→r.1.getD k false=true
 wz:(∀ k,q.1.getD k false=true→Reach U s k)→∀ k,r.1.getD k false=true→Reach U s k
 more:q.2=true→r.2=true
 same:r.2=false→r=q
structure Grows (q r:List Bool×Bool):Prop where
 len:r.1.length=q.1.length
 le:zse q.1≤zse r.1
 lt:q.2=false→r.2=true→zse q.1<zse r.1
 up:q.2=true→r.2=true
theorem ybo(v:D→Option (List D×Int))(h:D→Int→Option Bool)(n k m p:Nat)(l:List T)(us:List (List Nat))(B:List D)(a:Bool)(i j:Int):LP cx (zac v h) n 20 0 20 (p+1) [(0,V.d (D.sl 5 (T.ds l))),(6,V.d (D.sl 1 (wt us))),(8,V.slo 26 1 B.length),(11,V.d (D.bool a)),(12,V.d (D.int .i64 i)),(13,V.d (D.int .i64 j))] [(26,Ob.row B)] (AL cx (zac v h) n 20 0 17 20 (inK cx (zac v h) n 20 0 17 m (AL cx (zac v h) n 20 0 14 17 (inK cx (zac v h) n 20 0 14 k (AK cx (zac v h) n 20 0 14 (EK cx 20 0))))))=bif decide (j<(↑(T.ds l).length:Int)) then za (decide (0≤i)&&decide (i<(↑B.length:Int))) (za (B.length.beq B.length) (ze B i.toNat λ x=>ze x.cells 0 λ c=>match c with
 | D.bool b=>bif b then za (decide (0≤i)&&decide (i<(↑(List.map (λ u=>D.sl 1 (nI u)) us).length:Int))) (ze (List.map (λ u=>D.sl 1 (nI u)) us) i.toNat λ y=>ze y.cells 0 λ c=>match c with
  | D.sl s l_1=>bif s.beq (cx.P.cellsOf 3)||l_1.isEmpty then zd (h (D.sl 1 l_1,j).fst (D.sl 1 l_1,j).snd) λ b=>bif b then za (decide (0≤j)&&decide (j<(↑B.length:Int))) (za (B.length.beq B.length) (ze B j.toNat λ x=>ze x.cells 0 λ c=>match c with
   | D.bool b=>bif !b then za (decide (0≤j)&&decide (j<(↑B.length:Int))) (za (B.length.beq B.length&&true&&true) (LP cx (zac v h) n 20 0 20 p [(0,V.d (D.sl 5 (T.ds l))),(6,V.d (D.sl 1 (List.map (λ u=>D.sl 1 (nI u)) us))),(8,V.slo 26 1 B.length),(11,V.d (D.bool true)),(12,V.d (D.int .i64 i)),(13,V.d (D.int .i64 (IntKind.i64.wrap (j+(1:Int)))))] [(26,Ob.row (B.set j.toNat (D.bool true)))] (AL cx (zac v h) n 20 0 17 20 (inK cx (zac v h) n 20 0 17 m (AL cx (zac v h) n 20 0 14 17 (inK cx (zac v h) n 20 0 14 k (AK cx (zac v h) n 20 0 14 (EK cx 20 0)))))))) else LP cx (zac v h) n 20 0 20 p [(0,V.d (D.sl 5 (T.ds l))),(6,V.d (D.sl 1 (List.map (λ u=>D.sl 1 (nI u)) us))),(8,V.slo 26 1 B.length),(11,V.d (D.bool a)),(12,V.d (D.int .i64 i)),(13,V.d (D.int .i64 (IntKind.i64.wrap (j+(1:Int)))))] [(26,Ob.row B)] (AL cx (zac v h) n 20 0 17 20 (inK cx (zac v h) n 20 0 17 m (AL cx (zac v h) n 20 0 14 17 (inK cx (zac v h) n 20 0 14 k (AK cx (zac v h) n 20 0 14 (EK cx 20 0))))))
   | x=>none)) else LP cx (zac v h) n 20 0 20 p [(0,V.d (D.sl 5 (T.ds l))),(6,V.d (D.sl 1 (List.map (λ u=>D.sl 1 (nI u)) us))),(8,V.slo 26 1 B.length),(11,V.d (D.bool a)),(12,V.d (D.int .i64 i)),(13,V.d (D.int .i64 (IntKind.i64.wrap (j+(1:Int)))))] [(26,Ob.row B)] (AL cx (zac v h) n 20 0 17 20 (inK cx (zac v h) n 20 0 17 m (AL cx (zac v h) n 20 0 14 17 (inK cx (zac v h) n 20 0 14 k (AK cx (zac v h) n 20 0 14 (EK cx 20 0)))))) else none
  | x=>none) else LP cx (zac v h) n 20 0 20 p [(0,V.d (D.sl 5 (T.ds l))),(6,V.d (D.sl 1 (List.map (λ u=>D.sl 1 (nI u)) us))),(8,V.slo 26 1 B.length),(11,V.d (D.bool a)),(12,V.d (D.int .i64 i)),(13,V.d (D.int .i64 (IntKind.i64.wrap (j+(1:Int)))))] [(26,Ob.row B)] (AL cx (zac v h) n 20 0 17 20 (inK cx (zac v h) n 20 0 17 m (AL cx (zac v h) n 20 0 14 17 (inK cx (zac v h) n 20 0 14 k (AK cx (zac v h) n 20 0 14 (EK cx 20 0))))))
 | x=>none)) else LP cx (zac v h) n 20 0 17 m [(0,V.d (D.sl 5 (T.ds l))),(6,V.d (D.sl 1 (List.map (λ u=>D.sl 1 (nI u)) us))),(8,V.slo 26 1 B.length),(11,V.d (D.bool a)),(12,V.d (D.int .i64 (IntKind.i64.wrap (i+(1:Int)))))] [(26,Ob.row B)] (AL cx (zac v h) n 20 0 14 17 (inK cx (zac v h) n 20 0 14 k (AK cx (zac v h) n 20 0 14 (EK cx 20 0)))):=by kernel_rfl
theorem z2m(l:List D):(D.sl 1 l).cells=[D.sl 1 l]:=rfl
theorem ztf(k:Nat)(l:List Nat):v6 (k:Int) l=decide (k∈l):=by
 by_cases h:k∈l
 ·rw [pa h,zjk.2 h]
 ·rw [pb h];cases hm:v6 (k:Int) l
  ·rfl
  ·exact absurd (zjk.1 hm) h
def h50(x:D)(a:Int):Option Bool:=match x with | .sl 1 L=>zd (zjf L) λ l=>za (yi l) (some (v6 a l)) | _=>none
theorem z1n{x:D}{a:Int}{b:Bool}(h:h50 x a=some b):∃ l:List Nat,x=.sl 1 (nI l)∧yi l=true∧b=v6 a l:=by
 unfold h50 at h;split at h
 ·obtain ⟨l,hl,h⟩:=zb h;obtain ⟨h1,h⟩:=zc h;cases h;exact ⟨l,by rw [zdj hl],h1,rfl⟩
 ·cases h
theorem z1o{l:List Nat}{a:Int}(h:yi l=true):h50 (.sl 1 (nI l)) a=some (v6 a l):=by
 show zd (zjf (nI l)) _=_;rw [zgm,zci,h]; rfl
open Classical in
def zcd(l:List T)(nm:List UInt8):List Nat×Int:=bif decide (Sp.wr l=0) then (match zb8 (nmL l) nm with | some s=>(zat (λ k=>decide (Reach (zcs l) s k)) l.length,0) | none=>([],90)) else ([],Sp.wr l)
theorem zj4(l:List T):(zcs l).length=l.length:=pf _
theorem zax(l:List T):zg3 (zcs l):=λ u hu k hk=>by
 obtain ⟨t,_,rfl⟩:=List.mem_map.1 hu;have:=(zmb.1 hk).1;rw [zj4]
 rwa [zhc] at this
theorem z2u{l:List T}{nm:List UInt8}(hn:(nmL l).Nodup):(l.any (λ t=>decide (t.nm=nm))=false∧zb8 (nmL l) nm=none)∨(l.any (λ t=>decide (t.nm=nm))=true∧∃ s,zb8 (nmL l) nm=some s∧s<l.length∧∀ k,(l.map λ t=>decide (t.nm=nm)).getD k false=true↔k=s):=by
 have hm:∀ k,(l.map λ t=>decide (t.nm=nm)).getD k false=true↔(nmL l)[k]?=some nm:=λ k=>by
  unfold nmL;rw [List.getD_eq_getElem?_getD,List.getElem?_map,List.getElem?_map];cases l[k]? with
  | none=>simp
  | some t=>simp
 cases ha:zb8 (nmL l) nm with
 | none=>
  left;refine ⟨?_,rfl⟩;rw [List.any_eq_false];intro t ht he;obtain ⟨k,hk⟩:=List.getElem?_of_mem ht;have:(nmL l)[k]?=some nm:=by unfold nmL; rw [List.getElem?_map,hk]; simpa using he
  rw [←ziu hn] at this;rw [ha] at this; cases this
 | some s=>
  right;have h1:=(ziu hn).1 ha;have h2:=(pj.1 h1).1;rw [zhc] at h2;refine ⟨?_,s,rfl,h2,λ k=>?_⟩
  ·rw [List.any_eq_true];refine ⟨l[s],List.getElem_mem h2,?_⟩;unfold nmL at h1;rw [List.getElem?_map,pr h2] at h1;simpa using h1
  ·rw [hm,←ziu hn,ha];simp [eq_comm]
theorem ybk(u:D→Option (List D×Int))(ix:D→List UInt8→Option Int)(ad:Int→List D→Option (List D))(s:List D→Option (List D))(n:Nat)(l:List T)(nm:List UInt8):zk cx (zcp u ix ad s) n 19 [.d (.sl 5 (T.ds l)),.d (.str nm)] []=zd (u (D.sl 5 (T.ds l))) λ b=>bif !decide (b.snd=(0:Int)) then some (Out.ret (V.tup [V.d (D.sl 1 []),V.d (D.int .i64 b.snd)]),[]) else zd (ix (D.sl 5 (T.ds l),nm).fst (D.sl 5 (T.ds l),nm).snd) λ b_1=>bif decide (b_1<(0:Int)) then some (Out.ret (V.tup [V.d (D.sl 1 []),V.d (D.int .i64 (90:Int))]),[]) else LP cx (zcp u ix ad s) n 19 0 10 n [(6,V.d (D.sl 1 b.1)),(9,V.ptr 9 0),(10,V.func 47 [V.ptr 9 0]),(11,V.d (D.int .i64 (0:Int)))] [(9,Ob.val 1 (V.slo 28 1 1)),(28,Ob.row [D.int .i64 b_1])] (AK cx (zcp u ix ad s) n 19 0 10 (EK cx 19 0)):=by kernel_rfl
theorem z9x(u:D→Option (List D×Int))(ix:D→List UInt8→Option Int)(ad:Int→List D→Option (List D))(s:List D→Option (List D))(n k:Nat)(us:List (List Nat))(L:List D)(i:Int) :
    LP cx (zcp u ix ad s) n 19 0 10 (k+1) [(6,V.d (D.sl 1 (wt us))),(9,V.ptr 9 0),(10,V.func 47 [V.ptr 9 0]),(11,V.d (D.int .i64 i))] [(9,Ob.val 1 (V.slo 28 1 L.length)),(28,Ob.row L)] (AK cx (zcp u ix ad s) n 19 0 10 (EK cx 19 0)) =
  bif decide (i<(↑L.length:Int)) then za (decide (0≤i)&&decide (i<(↑L.length:Int))) (za (L.length.beq L.length) (ze L i.toNat λ x=>ze x.cells 0 λ c=>
            match c with
            | D.int k' n_1=>
              bif decide (k'=IntKind.i64) then
                za (decide (0≤n_1)&&decide (n_1<(↑(List.map (λ u=>D.sl 1 (nI u)) us).length:Int)))
                  (ze (List.map (λ u=>D.sl 1 (nI u)) us) n_1.toNat λ y=>
                    ze y.cells 0 λ c=>
                      match c with
                      | D.sl s_1 l=>
                        bif s_1.beq (cx.P.cellsOf 3)||l.isEmpty then
                          LP cx (zcp u ix ad s) n 19 0 13 n [(6,V.d (D.sl 1 (List.map (λ u=>D.sl 1 (nI u)) us))),(9,V.ptr 9 0),(10,V.func 47 [V.ptr 9 0]),(11,V.d (D.int .i64 i)),(42,V.d (D.sl 1 l)),(43,V.d (D.int .i64 (↑l.length:Int))),(44,V.d (D.int .i64 (0:Int)))]
                            [(9,Ob.val 1 (V.slo 28 1 L.length)),(28,Ob.row L)] (AL cx (zcp u ix ad s) n 19 0 10 13 (inK cx (zcp u ix ad s) n 19 0 10 k (AK cx (zcp u ix ad s) n 19 0 10 (EK cx 19 0))))
                        else none
                      | x=>none)
              else none
            | x=>none))
  else zd (s L) λ l=>za (L.length.beq L.length) (match V.leave 0 [(9,Ob.val 1 (V.slo 28 1 L.length)),(28,Ob.row l)] (zdh [V.slo 28 1 L.length,V.d (D.int .i64 (0:Int))]),some [] with
        | some v,some s=>some (Out.ret v,s)
        | x,x_1=>none):=by kernel_rfl
theorem z44(u:D→Option (List D×Int))(ix:D→List UInt8→Option Int)(ad:Int→List D→Option (List D))(s:List D→Option (List D))(n k m:Nat)(us:List (List Nat))(w:List Nat)(L:List D)(i j:Int):LP cx (zcp u ix ad s) n 19 0 13 (m+1) [(6,V.d (D.sl 1 (wt us))),(9,V.ptr 9 0),(10,V.func 47 [V.ptr 9 0]),(11,V.d (D.int .i64 i)),(42,V.d (D.sl 1 (nI w))),(43,V.d (D.int .i64 (w.length:Int))),(44,V.d (D.int .i64 j))] [(9,Ob.val 1 (V.slo 28 1 L.length)),(28,Ob.row L)] (AL cx (zcp u ix ad s) n 19 0 10 13 (inK cx (zcp u ix ad s) n 19 0 10 k (AK cx (zcp u ix ad s) n 19 0 10 (EK cx 19 0))))=bif decide (j<(↑w.length:Int)) then za (decide (0≤j)&&decide (j<(↑(List.map (λ k:Nat=>D.int .i64 (k:Int)) w).length:Int))) (ze (List.map (λ k:Nat=>D.int .i64 (k:Int)) w) j.toNat λ y=>ze y.cells 0 λ c=>match c with
 | D.int k' n_1=>bif decide (k'=IntKind.i64) then zd (ad (n_1,L,L.length).fst (n_1,L,L.length).snd.fst) λ L'=>za ((n_1,L,L.length).snd.snd.beq (n_1,L,L.length).snd.fst.length) (LP cx (zcp u ix ad s) n 19 0 13 m [(6,V.d (D.sl 1 (List.map (λ u=>D.sl 1 (nI u)) us))),(9,V.ptr 9 0),(10,V.func 47 [V.ptr 9 0]),(11,V.d (D.int .i64 i)),(42,V.d (D.sl 1 (List.map (λ k:Nat=>D.int .i64 (k:Int)) w))),(43,V.d (D.int .i64 (↑w.length:Int))),(44,V.d (D.int .i64 (IntKind.i64.wrap (j+(1:Int)))))] [(9,Ob.val 1 (V.slo 28 1 L'.length)),(28,Ob.row L')] (AL cx (zcp u ix ad s) n 19 0 10 13 (inK cx (zcp u ix ad s) n 19 0 10 k (AK cx (zcp u ix ad s) n 19 0 10 (EK cx 19 0))))) else none
 | x=>none) else LP cx (zcp u ix ad s) n 19 0 10 k [(6,V.d (D.sl 1 (List.map (λ u=>D.sl 1 (nI u)) us))),(9,V.ptr 9 0),(10,V.func 47 [V.ptr 9 0]),(11,V.d (D.int .i64 (IntKind.i64.wrap (i+(1:Int)))))] [(9,Ob.val 1 (V.slo 28 1 L.length)),(28,Ob.row L)] (AK cx (zcp u ix ad s) n 19 0 10 (EK cx 19 0)):=by kernel_rfl
theorem zvi{l:List D}{m:Nat}{o:Ob}{x:D}(h:m=l.length):V.leave 0 [(9,o),(28,Ob.row l)] (zdh [V.slo 28 1 m,V.d x])=some (.tup [.d (.sl 1 l),.d x]):=by
 subst h;have e:V.leave 0 [(9,o),(28,Ob.row l)] (V.slo 28 1 l.length)=some (.d (.sl 1 l)):=by
  show (bif Nat.beq l.length l.length then some (V.d (.sl 1 l)) else none)=_;rw [Nat.beq_refl]; rfl
 show (match V.leaveL 0 [(9,o),(28,Ob.row l)] [V.slo 28 1 l.length,V.d x] with | some r=>some (V.tup r) | none=>none)=_
 unfold V.leaveL;rw [e];rfl
theorem zul(x:Int):(D.int .i64 x).cells=[D.int .i64 x]:=rfl
def zkt(x:D)(s:List UInt8):Option Int:=zd (zq2 x) λ l=>some (y4 (λ t:T=>decide (t.nm=s)) l)
def zj3(i:Int)(L:List D):Option (List D):=zd (zjf L) λ l=>za (decide (l.length+1<4294967296)&&decide (0≤i)) (some (nI (Sp.addN l i.toNat)))
theorem z4g{l:List Nat}{i:Nat}(h:l.length+1<4294967296):zj3 (i:Int) (nI l)=some (nI (Sp.addN l i)):=by
 unfold zj3;rw [zgm,zci,pa h,xi,pm]; rfl
theorem zv7{a:List V}{σ:St}{i:Int}{l:List D}{n:Nat}(h:z2c a σ=some (i,(l,n))):a=[.d (.int .i64 i),.ptr 0 0]∧σ=[(0,.val 1 (.slo 1 1 n)),(1,.row l)]:=by
 unfold z2c at h;split at h
 ·obtain ⟨q,hq,h⟩:=zb h;unfold pdI at hq;split at hq
  ·cases hq; cases h; exact ⟨rfl,rfl⟩
  ·cases hq
 ·cases h
theorem zzy{S:CK R1}(hS:knows cx S.S (zh cx)):knows cx (yaa zj3 S).S (zh cx):=xp hS λ a σ q r hd h=>by
 obtain ⟨i,L,n⟩:=q;obtain ⟨L',hL,h⟩:=zb h;obtain ⟨hn,h⟩:=zc h;cases h;obtain ⟨rfl,rfl⟩:=zv7 hd;obtain ⟨l,hl,hL⟩:=zb hL;obtain ⟨h1,hL⟩:=zc hL;cases hL;rw [ph] at h1;have hn:n=L.length:=pg hn;subst hn;have e:L=nI l:=zdj hl;subst e;have:=m47 l i.toNat (pc h1.1);rw [Int.toNat_of_nonneg (pc h1.2)] at this;exact this
theorem zwo:knows cx (zcp u24 zkt zj3 s49).S (zh cx):=
 zj (zph (zzy (zov zq)) λ a σ q b hd hb=>by
  obtain ⟨rfl,rfl⟩:=zv9 hd;obtain ⟨l,hl,hb⟩:=zb hb;cases hb;obtain ⟨h0,h1,h2⟩:=zq5 hl;rw [h0];exact m45 l q.2 h1 h2) λ a q b hd h hb=>zpg h hb
def zwn(N k:Nat)(us:List (List Nat))(o:List Nat)(i:Int):Option R1:=
 LP cx (zcp u24 zkt zj3 s49) N 19 0 10 k [(6,V.d (D.sl 1 (wt us))),(9,V.ptr 9 0),(10,V.func 47 [V.ptr 9 0]),(11,V.d (D.int .i64 i))] [(9,Ob.val 1 (V.slo 28 1 (nI o).length)),(28,Ob.row (nI o))] (AK cx (zcp u24 zkt zj3 s49) N 19 0 10 (EK cx 19 0))
theorem z9f(N k:Nat)(us:List (List Nat))(o:List Nat)(ho:o.length<4294967296):zwn N (k+1) us o o.length=some (.ret (mk2 ((we (o.map λ k:Nat=>(k:Int))).map (.int .i64),0)),[]):=by
 unfold zwn;refine (z9x u24 zkt zj3 s49 N k us (nI o) o.length).trans ?_;rw [zkm,x6,cond_false,z0p o (by omega),zci,Nat.beq_refl,zao]
 rw [zvi (by rw [pf,zj8,pf])]
 rfl
theorem z5b(N k:Nat)(hN:N≤4294967296)(us:List (List Nat))(hU:zg3 us)(hs:∀ u∈us,u.length<N)(hul:us.length<4294967295)(o:List Nat)(i j:Nat)(hi:o[i]?=some j)(hn:o.Nodup)(hl:∀ x∈o,x<us.length) :
  zwn N (k+1) us o i=zwn N k us (wy o (Sp.row us j)) (IntKind.i64.wrap ((i:Int)+1)):=by
 have hil:=(pj.1 hi).1;have hj:=hl j (po hi);have huj:=pr hj;have hmem:=List.getElem_mem hj;generalize us[j]=u at huj hmem;have g3:Sp.row us j=u:=by unfold Sp.row; rw [List.getD_eq_getElem?_getD,huj]; rfl
 have hoi:∀ {R:Type} {K:D→Option R},ze (nI o) (i:Int).toNat K=K (.int .i64 (j:Int)):=λ {R K}=>by rw [zfj,pm,hi]; rfl
 have huj2:∀ {R:Type} {K:D→Option R},ze (List.map (λ u=>D.sl 1 (nI u)) us) (j:Int).toNat K=K (.sl 1 (nI u)):=λ {R K}=>zrk (by rw [pm]; exact zsh huj)
 have hud:(List.map (λ u=>D.sl 1 (nI u)) us).length=us.length:=pf _;unfold zwn;refine (z9x u24 zkt zj3 s49 N k us (nI o) i).trans ?_;rw [zkm,yq hil,cond_true,xi,Bool.and_self,zao,Nat.beq_refl,zao,hoi,zul,vq];simp only [decide_true,cond_true,hud,yq hj,xi,Bool.and_self,zao];rw [huj2,z2m,vq];simp only [cells3,Bool.true_or,cond_true];rw [zkm u,g3]
 -- the inner loop
 have h:=zhh (λ m j (o:List Nat)=>LP cx (zcp u24 zkt zj3 s49) N 19 0 13 m [(6,V.d (D.sl 1 (wt us))),(9,V.ptr 9 0),(10,V.func 47 [V.ptr 9 0]),(11,V.d (D.int .i64 (i:Int))),(42,V.d (D.sl 1 (nI u))),(43,V.d (D.int .i64 (u.length:Int))),(44,V.d (D.int .i64 j))] [(9,Ob.val 1 (V.slo 28 1 (nI o).length)),(28,Ob.row (nI o))] (AL cx (zcp u24 zkt zj3 s49) N 19 0 10 13 (inK cx (zcp u24 zkt zj3 s49) N 19 0 10 k (AK cx (zcp u24 zkt zj3 s49) N 19 0 10 (EK cx 19 0)))))
  u Sp.addN (λ _ o=>o.Nodup∧∀ x∈o,x<us.length) (λ o=>zwn N k us o (IntKind.i64.wrap ((i:Int)+1))) (Nat.lt_of_lt_of_le (hs u hmem) hN)
  (λ m a x o ha hx hI=>by
   have hxl:x<us.length:=hU u hmem x (po hx);have hol:=zkj hI.1 hI.2;obtain ⟨a1,a2,_⟩:=zq1 (i:=x) hI.1;refine ⟨?_,a1,λ y hy=>?_⟩
   ·refine (z44 u24 zkt zj3 s49 N k m us u (nI o) i a).trans ?_;have hux:∀ {R:Type} {K:D→Option R},ze (List.map (λ k:Nat=>D.int .i64 (k:Int)) u) (a:Int).toNat K=K (.int .i64 (x:Int)):=λ {R K}=>by
     have:=zfj (l:=u) (i:=(a:Int).toNat) (K:=K);rw [pm,hx] at this;rw [pm];exact this
    have hul2:(List.map (λ k:Nat=>D.int .i64 (k:Int)) u).length=u.length:=pf _;simp only [yq ha,cond_true,hul2,xi,Bool.and_self,zao];rw [hux,zul,vq];simp only [decide_true,cond_true];rw [z4g (by omega),zci,Nat.beq_refl,zao]
    rfl
   ·rcases (a2 y).1 hy with h | h
    ·exact hI.2 y h
    ·omega)
  (λ m o=>by
   refine (z44 u24 zkt zj3 s49 N k m us u (nI o) i u.length).trans ?_;rw [x6,cond_false];rfl) (s:=o) ⟨hn,hl⟩ (k:=N) (hs u hmem)
 refine Eq.trans ?_ (h.trans ?_)
 ·rw [←zkm o];rfl
 ·have:∀ (u o:List Nat),u.foldl Sp.addN o=wy o u:=λ u=>by
   induction u with
   | nil=>intro o; rfl
   | cons a u ih=>intro o; exact ih _
  rw [this];rfl
theorem zw8(N:Nat)(hN:N≤4294967296)(us:List (List Nat))(hU:zg3 us)(hs:∀ u∈us,u.length<N)(hul:us.length<4294967295):∀ (f i k:Nat) (o:List Nat),us.length≤f+i→i≤o.length→o.Nodup→(∀ x∈o,x<us.length)→f<k →
  zwn N k us o i=some (.ret (mk2 ((we ((zdt us f i o).map λ k:Nat=>(k:Int))).map (.int .i64),0)),[])
 | f,i,k,o,hf,hi,hn,hl,hk=>by
  obtain ⟨k,rfl⟩:∃ k',k=k'+1:=⟨k - 1,by omega⟩
  have hol:=zkj hn hl;cases hj:o[i]? with
  | none=>
   have:o.length≤i:=List.getElem?_eq_none_iff.1 hj;obtain rfl:i=o.length:=by omega
   have e:zdt us f o.length o=o:=by
    cases f with
    | zero=>rfl
    | succ f=>unfold zdt; rw [hj]
   rw [e];exact z9f N k us o (by omega)
  | some j=>
   have hil:=(pj.1 hj).1;cases f with
   | zero=>omega
   | succ f=>
    have hjl:=hl j (po hj);obtain ⟨h1,h2,r,h3⟩:=zg0 (Sp.row us j) hn;rw [z5b N k hN us hU hs hul o i j hj hn hl,vh (show i<o.length from hil) (by omega)]
    have e:zdt us (f+1) i o=zdt us f (i+1) (wy o (Sp.row us j)):=by
     rw [zdt,hj]
    rw [e];exact zw8 N hN us hU hs hul f (i+1) k _ (by omega) (by rw [h3]; simp; omega) h1 (λ x hx=>by
     rcases (h2 x).1 hx with h | h
     ·exact hl x h
     ·exact hU.row h) (by omega)
theorem m19(l:List T)(nm:List UInt8)(hg:zd7 l=true):zh cx 19 [.d (.sl 5 (T.ds l)),.d (.str nm)] []=some (.ret (mk2 (nI (zcd l nm).1,(zcd l nm).2)),[]):=by
 unfold zcd;obtain ⟨h1,h2,h3⟩:=zbx.1 hg;have hlb:=zkq l;have hl:l.length≤65536:=by omega
 refine zl zwo (N:=l.length+1) ?_;rw [ybk,z0a hg,zci];unfold zc1;cases hw:decide (Sp.wr l=0)
 ·simp only [cond_false,hw,Bool.not_false,cond_true];rfl
 ·obtain ⟨hd,hn⟩:=wr0 (pc hw);have hix:zkt (.sl 5 (T.ds l)) nm=some (y4 (λ t:T=>decide (t.nm=nm)) l):=by unfold zkt; rw [z0c h1 h2]; rfl
  have hul:=zj4 l;have hix2:y4 (λ t:T=>decide (t.nm=nm)) l=match zb8 (nmL l) nm with | some s=>(s:Int) | none=>-1:=by
   unfold y4 zb8 nmL;have:∀ (l:List T) (i:Nat),yl (λ t:T=>decide (t.nm=nm)) l i=yl (λ t=>decide (nm=t)) (l.map T.nm) i:=λ l=>by
    induction l with
    | nil=>intro i; rfl
    | cons t l ih=>
     intro i;have e:decide (t.nm=nm)=decide (nm=t.nm):=by rw [Bool.eq_iff_iff,decide_eq_true_iff,decide_eq_true_iff]; exact eq_comm
     rw [List.map_cons,yl,yl,ih,e]
   rw [this];cases yl (λ t=>decide (nm=t)) (l.map T.nm) 0 <;> rfl
  simp only [cond_true,decide_true,Bool.not_true,cond_false];rw [hix,zci,hix2];rcases z2u (nm:=nm) hn with ⟨_,hb⟩ | ⟨_,s,hb,hs,_⟩
  ·rw [hb]; rfl
  ·rw [hb];have e0:decide ((s:Int)<0)=false:=pb (by omega)
   simp only [e0,cond_false];have hus:∀ u∈zcs l,u.length<l.length+1:=λ u hu=>by
    obtain ⟨t,_,rfl⟩:=List.mem_map.1 hu;have:=zra (λ k=>Sp.mem ((nmL l).getD k []) (wo [] [] t.kids)) (nmL l).length;exact Nat.lt_of_le_of_lt this (by rw [zhc]; omega)
   have hlt:∀ x∈[s],x<(zcs l).length:=λ x hx=>by rw [List.mem_singleton] at hx; rw [hul]; omega
   have h:=zw8 (l.length+1) (by omega) (zcs l) (zax l) hus (by omega) l.length 0 (l.length+1) [s] (by omega) (by simp) (by simp) hlt (by omega)
   refine Eq.trans ?_ (h.trans ?_)
   ·rfl
   ·obtain ⟨b1,b2⟩:=z2p (zax l) (s:=s) (by rw [hul]; exact hs) l.length 0 [s] (by omega) (by simp) (by simp) (by simp) (λ x hx=>by rw [List.mem_singleton] at hx; subst hx; exact .here) (λ i j hi=>by omega)
    have:=@zsx (zdt (zcs l) l.length 0 [s]) l.length (λ k=>@decide (Reach (zcs l) s k) (Classical.propDecidable _)) b1 (λ k=>by
     rw [b2 k,@decide_eq_true_iff _ (Classical.propDecidable _)];exact ⟨λ h=>⟨by have:=h.lt (zax l) (by rw [hul]; exact hs); rwa [hul] at this,h⟩,λ h=>h.2⟩)
    rw [this];unfold nI;rw [List.map_map];rfl
def u19(x:D)(s:List UInt8):Option (List D×Int):=zd (zl0 x) λ l=>some (nI (zcd l s).1,(zcd l s).2)
theorem zxu{f:Nat}(hf:∀ l nm,zd7 l=true→zh cx f [.d (.sl 5 (T.ds l)),.d (.str nm)] []=some (.ret (mk2 (nI (zcd l nm).1,(zcd l nm).2)),[])){S:CK R1}(hS:knows cx S.S (zh cx)) :
  knows cx (zy f zh1 (λ q=>u19 q.1 q.2) mk2 S).S (zh cx):=zj hS λ a q b hd h hb=>by
 obtain ⟨m,hm,hb⟩:=zb hb;cases hb;obtain ⟨h0,h1⟩:=ziz hm;rw [zin h,h0];exact hf m q.2 h1
inductive Way (U:List (List Nat)) (s:Nat):Nat→Prop
 | one {k:Nat} (h:k∈Sp.row U s):Way U s k
 | step {j k:Nat} (h:Way U s j) (hk:k∈Sp.row U j):Way U s k
theorem row_mem{U:List (List Nat)}{i:Nat}(h:i<U.length):Sp.row U i∈U:=by
 unfold Sp.row;rw [List.getD_eq_getElem?_getD,pr h];exact List.getElem_mem h
def K7n(w:Option Bool)(g:D→Option Bool)(u:D→List UInt8→Option (List D×Int))(v:D→Option (List D×Int))(h:D→Int→Option Bool):CK R1:=
 zy 18 z2h (λ _=>w) mkB (zy 17 zcj g mkB (zy 19 zh1 (λ q=>u q.1 q.2) mk2 (zy 24 zcj v mk2 (zy 25 zjw (λ q=>h q.1 q.2) mkB (CK.plain zo)))))
theorem z03{l:List Nat}{j x:Nat}(hx:l[j]?=some x){R:Type}{K:D→Option R}:ze (nI l) (j:Int).toNat K=K (.int .i64 (x:Int)):=by
 rw [zfj,pm,hx]; rfl
theorem z4k{us:List (List Nat)}{j:Nat}{u:List Nat}(hu:us[j]?=some u){R:Type}{K:D→Option R}:ze (wt us) (j:Int).toNat K=K (.sl 1 (nI u)):=zrk (by rw [pm]; exact zsh hu)
theorem ag7(w:Option Bool)(g:D→Option Bool)(u:D→List UInt8→Option (List D×Int))(v:D→Option (List D×Int))(h:D→Int→Option Bool)(n:Nat)(l:List T)(s:List UInt8):zk cx (K7n w g u v h) n 7 [.d (.sl 5 (T.ds l)),.d (.str s)] []=zd w λ b=>bif !b then some (Out.ret (V.d (D.bool false)),[]) else zd (g (D.sl 5 (T.ds l))) λ b=>bif b then some (Out.ret (V.d (D.bool true)),[]) else zd (u (D.sl 5 (T.ds l),s).fst (D.sl 5 (T.ds l),s).snd) λ b=>zd (v (D.sl 5 (T.ds l))) λ b_1=>bif !decide (b.snd=(0:Int)) then bif decide ((↑b.1.length:Int)=(0:Int)) then bif decide (b.snd=(61:Int)) then some (Out.ret (V.d (D.bool true)),[]) else bif decide (b.snd=(270:Int)) then some (Out.ret (V.d (D.bool true)),[]) else some (Out.ret (V.d (D.bool (decide (b.snd=(90:Int))))),[]) else some (Out.ret (V.d (D.bool false)),[]) else bif !decide (b_1.snd=(0:Int)) then bif decide ((↑b.1.length:Int)=(0:Int)) then bif decide (b.snd=(61:Int)) then some (Out.ret (V.d (D.bool true)),[]) else bif decide (b.snd=(270:Int)) then some (Out.ret (V.d (D.bool true)),[]) else some (Out.ret (V.d (D.bool (decide (b.snd=(90:Int))))),[]) else some (Out.ret (V.d (D.bool false)),[]) else bif !decide ((↑b_1.1.length:Int)=(↑(T.ds l).length:Int)) then bif decide ((↑b.1.length:Int)=(0:Int)) then bif decide (b.snd=(61:Int)) then some (Out.ret (V.d (D.bool true)),[]) else bif decide (b.snd=(270:Int)) then some (Out.ret (V.d (D.bool true)),[]) else some (Out.ret (V.d (D.bool (decide (b.snd=(90:Int))))),[]) else some (Out.ret (V.d (D.bool false)),[]) else LP cx (K7n w g u v h) n 7 0 10 n [(0,V.d (D.sl 5 (T.ds l))),(1,V.d (D.str s)),(5,V.d (D.sl 1 b.1)),(7,V.d (D.sl 1 b_1.1)),(59,V.d (D.sl 1 b.1)),(60,V.d (D.int .i64 (↑b.1.length:Int))),(61,V.d (D.int .i64 (0:Int)))] [] (AK cx (K7n w g u v h) n 7 0 10 (EK cx 7 0)):=by kernel_rfl
theorem al7(w:Option Bool)(g:D→Option Bool)(u:D→List UInt8→Option (List D×Int))(v:D→Option (List D×Int))(h:D→Int→Option Bool)(n k:Nat)(l:List T)(s:List UInt8)(nd:List Nat)(us:List (List Nat))(i:Int):LP cx (K7n w g u v h) n 7 0 10 (k+1) [(0,V.d (D.sl 5 (T.ds l))),(1,V.d (D.str s)),(5,V.d (D.sl 1 (nI nd))),(7,V.d (D.sl 1 (wt us))),(59,V.d (D.sl 1 (nI nd))),(60,V.d (D.int .i64 (nd.length:Int))),(61,V.d (D.int .i64 i))] [] (AK cx (K7n w g u v h) n 7 0 10 (EK cx 7 0))=bif decide (i<(↑nd.length:Int)) then za (decide (0≤i)&&decide (i<(↑(List.map (λ k:Nat=>D.int .i64 (k:Int)) nd).length:Int))) (ze (List.map (λ k:Nat=>D.int .i64 (k:Int)) nd) i.toNat λ y=>ze y.cells 0 λ c=>match c with
 | D.int k' n_1=>bif decide (k'=IntKind.i64) then bif decide (n_1<(0:Int)) then some (Out.ret (V.d (D.bool false)),[]) else bif decide ((↑(T.ds l).length:Int)≤n_1) then some (Out.ret (V.d (D.bool false)),[]) else za (decide (0≤n_1)&&decide (n_1<(↑(T.ds l).length:Int))) (ze (T.ds l) n_1.toNat λ y=>ze y.cells 1 λ c=>match c with
  | D.str s_1=>LP cx (K7n w g u v h) n 7 0 16 n [(0,V.d (D.sl 5 (T.ds l))),(1,V.d (D.str s)),(5,V.d (D.sl 1 (List.map (λ k:Nat=>D.int .i64 (k:Int)) nd))),(7,V.d (D.sl 1 (List.map (λ u=>D.sl 1 (nI u)) us))),(10,V.d (D.int .i64 n_1)),(11,V.d (D.bool (decide (s_1=s)))),(59,V.d (D.sl 1 (List.map (λ k:Nat=>D.int .i64 (k:Int)) nd))),(60,V.d (D.int .i64 (↑nd.length:Int))),(61,V.d (D.int .i64 i)),(80,V.d (D.sl 1 (List.map (λ k:Nat=>D.int .i64 (k:Int)) nd))),(81,V.d (D.int .i64 (↑(List.map (λ k:Nat=>D.int .i64 (k:Int)) nd).length:Int))),(82,V.d (D.int .i64 (0:Int)))] [] (AL cx (K7n w g u v h) n 7 0 10 16 (inK cx (K7n w g u v h) n 7 0 10 k (AK cx (K7n w g u v h) n 7 0 10 (EK cx 7 0))))
  | x=>none) else none
 | x=>none) else some (Out.ret (V.d (D.bool (decide ((0:Int)<(↑(List.map (λ k:Nat=>D.int .i64 (k:Int)) nd).length:Int))))),[]):=by kernel_rfl
theorem z9r(w:Option Bool)(g:D→Option Bool)(u:D→List UInt8→Option (List D×Int))(v:D→Option (List D×Int))(h:D→Int→Option Bool)(n k m:Nat)(l:List T)(s:List UInt8)(nd:List Nat)(us:List (List Nat))(i x j:Int)(a:Bool):LP cx (K7n w g u v h) n 7 0 16 (m+1) [(0,V.d (D.sl 5 (T.ds l))),(1,V.d (D.str s)),(5,V.d (D.sl 1 (nI nd))),(7,V.d (D.sl 1 (wt us))),(10,V.d (D.int .i64 x)),(11,V.d (D.bool a)),(59,V.d (D.sl 1 (nI nd))),(60,V.d (D.int .i64 (nd.length:Int))),(61,V.d (D.int .i64 i)),(80,V.d (D.sl 1 (nI nd))),(81,V.d (D.int .i64 (nd.length:Int))),(82,V.d (D.int .i64 j))] [] (AL cx (K7n w g u v h) n 7 0 10 16 (inK cx (K7n w g u v h) n 7 0 10 k (AK cx (K7n w g u v h) n 7 0 10 (EK cx 7 0))))=bif decide (j<(↑nd.length:Int)) then za (decide (0≤j)&&decide (j<(↑(List.map (λ k:Nat=>D.int .i64 (k:Int)) nd).length:Int))) (ze (List.map (λ k:Nat=>D.int .i64 (k:Int)) nd) j.toNat λ y=>ze y.cells 0 λ c=>match c with
 | D.int k' n_1=>bif decide (k'=IntKind.i64) then bif a then LP cx (K7n w g u v h) n 7 0 16 m [(0,V.d (D.sl 5 (T.ds l))),(1,V.d (D.str s)),(5,V.d (D.sl 1 (List.map (λ k:Nat=>D.int .i64 (k:Int)) nd))),(7,V.d (D.sl 1 (List.map (λ u=>D.sl 1 (nI u)) us))),(10,V.d (D.int .i64 x)),(11,V.d (D.bool true)),(59,V.d (D.sl 1 (List.map (λ k:Nat=>D.int .i64 (k:Int)) nd))),(60,V.d (D.int .i64 (↑nd.length:Int))),(61,V.d (D.int .i64 i)),(80,V.d (D.sl 1 (List.map (λ k:Nat=>D.int .i64 (k:Int)) nd))),(81,V.d (D.int .i64 (↑nd.length:Int))),(82,V.d (D.int .i64 (IntKind.i64.wrap (j+(1:Int)))))] [] (AL cx (K7n w g u v h) n 7 0 10 16 (inK cx (K7n w g u v h) n 7 0 10 k (AK cx (K7n w g u v h) n 7 0 10 (EK cx 7 0)))) else bif decide ((0:Int)≤n_1) then bif decide (n_1<(↑(List.map (λ u=>D.sl 1 (nI u)) us).length:Int)) then za (decide (0≤n_1)&&decide (n_1<(↑(List.map (λ u=>D.sl 1 (nI u)) us).length:Int))) (ze (List.map (λ u=>D.sl 1 (nI u)) us) n_1.toNat λ y=>ze y.cells 0 λ c=>match c with
  | D.sl s_1 l_1=>bif s_1.beq (cx.P.cellsOf 3)||l_1.isEmpty then zd (h (D.sl 1 l_1,x).fst (D.sl 1 l_1,x).snd) λ b=>LP cx (K7n w g u v h) n 7 0 16 m [(0,V.d (D.sl 5 (T.ds l))),(1,V.d (D.str s)),(5,V.d (D.sl 1 (List.map (λ k:Nat=>D.int .i64 (k:Int)) nd))),(7,V.d (D.sl 1 (List.map (λ u=>D.sl 1 (nI u)) us))),(10,V.d (D.int .i64 x)),(11,V.d (D.bool b)),(59,V.d (D.sl 1 (List.map (λ k:Nat=>D.int .i64 (k:Int)) nd))),(60,V.d (D.int .i64 (↑nd.length:Int))),(61,V.d (D.int .i64 i)),(80,V.d (D.sl 1 (List.map (λ k:Nat=>D.int .i64 (k:Int)) nd))),(81,V.d (D.int .i64 (↑nd.length:Int))),(82,V.d (D.int .i64 (IntKind.i64.wrap (j+(1:Int)))))] [] (AL cx (K7n w g u v h) n 7 0 10 16 (inK cx (K7n w g u v h) n 7 0 10 k (AK cx (K7n w g u v h) n 7 0 10 (EK cx 7 0)))) else none
  | x=>none) else LP cx (K7n w g u v h) n 7 0 16 m [(0,V.d (D.sl 5 (T.ds l))),(1,V.d (D.str s)),(5,V.d (D.sl 1 (List.map (λ k:Nat=>D.int .i64 (k:Int)) nd))),(7,V.d (D.sl 1 (List.map (λ u=>D.sl 1 (nI u)) us))),(10,V.d (D.int .i64 x)),(11,V.d (D.bool false)),(59,V.d (D.sl 1 (List.map (λ k:Nat=>D.int .i64 (k:Int)) nd))),(60,V.d (D.int .i64 (↑nd.length:Int))),(61,V.d (D.int .i64 i)),(80,V.d (D.sl 1 (List.map (λ k:Nat=>D.int .i64 (k:Int)) nd))),(81,V.d (D.int .i64 (↑nd.length:Int))),(82,V.d (D.int .i64 (IntKind.i64.wrap (j+(1:Int)))))] [] (AL cx (K7n w g u v h) n 7 0 10 16 (inK cx (K7n w g u v h) n 7 0 10 k (AK cx (K7n w g u v h) n 7 0 10 (EK cx 7 0)))) else LP cx (K7n w g u v h) n 7 0 16 m [(0,V.d (D.sl 5 (T.ds l))),(1,V.d (D.str s)),(5,V.d (D.sl 1 (List.map (λ k:Nat=>D.int .i64 (k:Int)) nd))),(7,V.d (D.sl 1 (List.map (λ u=>D.sl 1 (nI u)) us))),(10,V.d (D.int .i64 x)),(11,V.d (D.bool false)),(59,V.d (D.sl 1 (List.map (λ k:Nat=>D.int .i64 (k:Int)) nd))),(60,V.d (D.int .i64 (↑nd.length:Int))),(61,V.d (D.int .i64 i)),(80,V.d (D.sl 1 (List.map (λ k:Nat=>D.int .i64 (k:Int)) nd))),(81,V.d (D.int .i64 (↑nd.length:Int))),(82,V.d (D.int .i64 (IntKind.i64.wrap (j+(1:Int)))))] [] (AL cx (K7n w g u v h) n 7 0 10 16 (inK cx (K7n w g u v h) n 7 0 10 k (AK cx (K7n w g u v h) n 7 0 10 (EK cx 7 0)))) else none
 | x=>none) else bif !a then some (Out.ret (V.d (D.bool false)),[]) else za (decide (0≤x)&&decide (x<(↑(List.map (λ u=>D.sl 1 (nI u)) us).length:Int))) (ze (List.map (λ u=>D.sl 1 (nI u)) us) x.toNat λ y=>ze y.cells 0 λ c=>match c with
  | D.sl s_1 l_1=>bif s_1.beq (cx.P.cellsOf 3)||l_1.isEmpty then LP cx (K7n w g u v h) n 7 0 23 n [(0,V.d (D.sl 5 (T.ds l))),(1,V.d (D.str s)),(5,V.d (D.sl 1 (List.map (λ k:Nat=>D.int .i64 (k:Int)) nd))),(7,V.d (D.sl 1 (List.map (λ u=>D.sl 1 (nI u)) us))),(59,V.d (D.sl 1 (List.map (λ k:Nat=>D.int .i64 (k:Int)) nd))),(60,V.d (D.int .i64 (↑nd.length:Int))),(61,V.d (D.int .i64 i)),(111,V.d (D.sl 1 l_1)),(112,V.d (D.int .i64 (↑l_1.length:Int))),(113,V.d (D.int .i64 (0:Int)))] [] (AL cx (K7n w g u v h) n 7 0 10 23 (inK cx (K7n w g u v h) n 7 0 10 k (AK cx (K7n w g u v h) n 7 0 10 (EK cx 7 0)))) else none
  | x=>none):=by kernel_rfl
theorem z9q(w:Option Bool)(g:D→Option Bool)(u:D→List UInt8→Option (List D×Int))(v:D→Option (List D×Int))(h:D→Int→Option Bool)(n k m:Nat)(l:List T)(s:List UInt8)(nd z:List Nat)(us:List (List Nat))(i j:Int):LP cx (K7n w g u v h) n 7 0 23 (m+1) [(0,V.d (D.sl 5 (T.ds l))),(1,V.d (D.str s)),(5,V.d (D.sl 1 (nI nd))),(7,V.d (D.sl 1 (wt us))),(59,V.d (D.sl 1 (nI nd))),(60,V.d (D.int .i64 (nd.length:Int))),(61,V.d (D.int .i64 i)),(111,V.d (D.sl 1 (nI z))),(112,V.d (D.int .i64 (z.length:Int))),(113,V.d (D.int .i64 j))] [] (AL cx (K7n w g u v h) n 7 0 10 23 (inK cx (K7n w g u v h) n 7 0 10 k (AK cx (K7n w g u v h) n 7 0 10 (EK cx 7 0))))=bif decide (j<(↑z.length:Int)) then za (decide (0≤j)&&decide (j<(↑(List.map (λ k:Nat=>D.int .i64 (k:Int)) z).length:Int))) (ze (List.map (λ k:Nat=>D.int .i64 (k:Int)) z) j.toNat λ y=>ze y.cells 0 λ c=>match c with
 | D.int k' n_1=>bif decide (k'=IntKind.i64) then zd (h (D.sl 1 (List.map (λ k:Nat=>D.int .i64 (k:Int)) nd),n_1).fst (D.sl 1 (List.map (λ k:Nat=>D.int .i64 (k:Int)) nd),n_1).snd) λ b=>bif !b then some (Out.ret (V.d (D.bool false)),[]) else LP cx (K7n w g u v h) n 7 0 23 m [(0,V.d (D.sl 5 (T.ds l))),(1,V.d (D.str s)),(5,V.d (D.sl 1 (List.map (λ k:Nat=>D.int .i64 (k:Int)) nd))),(7,V.d (D.sl 1 (List.map (λ u=>D.sl 1 (nI u)) us))),(59,V.d (D.sl 1 (List.map (λ k:Nat=>D.int .i64 (k:Int)) nd))),(60,V.d (D.int .i64 (↑nd.length:Int))),(61,V.d (D.int .i64 i)),(111,V.d (D.sl 1 (List.map (λ k:Nat=>D.int .i64 (k:Int)) z))),(112,V.d (D.int .i64 (↑z.length:Int))),(113,V.d (D.int .i64 (IntKind.i64.wrap (j+(1:Int)))))] [] (AL cx (K7n w g u v h) n 7 0 10 23 (inK cx (K7n w g u v h) n 7 0 10 k (AK cx (K7n w g u v h) n 7 0 10 (EK cx 7 0)))) else none
 | x=>none) else LP cx (K7n w g u v h) n 7 0 10 k [(0,V.d (D.sl 5 (T.ds l))),(1,V.d (D.str s)),(5,V.d (D.sl 1 (List.map (λ k:Nat=>D.int .i64 (k:Int)) nd))),(7,V.d (D.sl 1 (List.map (λ u=>D.sl 1 (nI u)) us))),(59,V.d (D.sl 1 (List.map (λ k:Nat=>D.int .i64 (k:Int)) nd))),(60,V.d (D.int .i64 (↑nd.length:Int))),(61,V.d (D.int .i64 (IntKind.i64.wrap (i+(1:Int)))))] [] (AK cx (K7n w g u v h) n 7 0 10 (EK cx 7 0)):=by kernel_rfl
theorem zyr{S:CK R1}(hS:knows cx S.S (zh cx)):knows cx (zy 25 zjw (λ q=>h50 q.1 q.2) mkB S).S (zh cx):=zj hS λ a q b hd h hb=>by
 obtain ⟨l,h1,h2,rfl⟩:=z1n hb;rw [zio h,h1];exact m25 l q.2 h2
def K7:CK R1:=K7n (some true) g17 u19 u24 h50
theorem z2y:knows cx K7.S (zh cx):=
 zj (zj (zxu m19 (zj (zyr zq) λ a q b hd h hb=>zpg h hb)) λ a q b hd h hb=>zyt h hb) λ a q b hd h hb=>zxq h hb
def L7(N k:Nat)(l:List T)(s:List UInt8)(nd:List Nat)(us:List (List Nat))(i:Int):Option R1:=
 LP cx K7 N 7 0 10 k [(0,V.d (D.sl 5 (T.ds l))),(1,V.d (D.str s)),(5,V.d (D.sl 1 (nI nd))),(7,V.d (D.sl 1 (wt us))),(59,V.d (D.sl 1 (nI nd))),(60,V.d (D.int .i64 (nd.length:Int))),(61,V.d (D.int .i64 i))] [] (AK cx K7 N 7 0 10 (EK cx 7 0))
def L7b(N k m:Nat)(l:List T)(s:List UInt8)(nd:List Nat)(us:List (List Nat))(i x j:Int)(a:Bool):Option R1:=
 LP cx K7 N 7 0 16 m [(0,V.d (D.sl 5 (T.ds l))),(1,V.d (D.str s)),(5,V.d (D.sl 1 (nI nd))),(7,V.d (D.sl 1 (wt us))),(10,V.d (D.int .i64 x)),(11,V.d (D.bool a)),(59,V.d (D.sl 1 (nI nd))),(60,V.d (D.int .i64 (nd.length:Int))),(61,V.d (D.int .i64 i)),(80,V.d (D.sl 1 (nI nd))),(81,V.d (D.int .i64 (nd.length:Int))),(82,V.d (D.int .i64 j))] [] (AL cx K7 N 7 0 10 16 (inK cx K7 N 7 0 10 k (AK cx K7 N 7 0 10 (EK cx 7 0))))
def L7c(N k m:Nat)(l:List T)(s:List UInt8)(nd z:List Nat)(us:List (List Nat))(i j:Int):Option R1:=
 LP cx K7 N 7 0 23 m [(0,V.d (D.sl 5 (T.ds l))),(1,V.d (D.str s)),(5,V.d (D.sl 1 (nI nd))),(7,V.d (D.sl 1 (wt us))),(59,V.d (D.sl 1 (nI nd))),(60,V.d (D.int .i64 (nd.length:Int))),(61,V.d (D.int .i64 i)),(111,V.d (D.sl 1 (nI z))),(112,V.d (D.int .i64 (z.length:Int))),(113,V.d (D.int .i64 j))] [] (AL cx K7 N 7 0 10 23 (inK cx K7 N 7 0 10 k (AK cx K7 N 7 0 10 (EK cx 7 0))))
theorem zfk(l:List Nat):(List.map (λ k:Nat=>D.int .i64 (k:Int)) l).length=l.length:=pf _
theorem zmf(us:List (List Nat)):(List.map (λ u=>D.sl 1 (nI u)) us).length=us.length:=pf _
theorem z05(N k:Nat)(l:List T)(s:List UInt8)(nd z:List Nat)(us:List (List Nat))(i:Int)(hnd:yi nd=true)(hz:z.length<4294967296)(hin:∀ k∈z,k∈nd):∀ (r:List Nat) (j m:Nat),z.drop j=r→j≤z.length→r.length<m →
  L7c N k m l s nd z us i j=L7 N k l s nd us (IntKind.i64.wrap (i+1))
 | [],j,m,hd,hj,hm=>by
  obtain ⟨m,rfl⟩:∃ k',m=k'+1:=⟨m - 1,by omega⟩
  have:z.length≤j:=by simpa using hd
  obtain rfl:j=z.length:=by omega
  unfold L7c;refine (z9q (some true) g17 u19 u24 h50 N k m l s nd z us i z.length).trans ?_;rw [x6,cond_false];rfl
 | y::r,j,m,hd,hj,hm=>by
  obtain ⟨m,rfl⟩:∃ k',m=k'+1:=⟨m - 1,by omega⟩
  obtain ⟨h1,h2,h3⟩:=zcc hd;have ih:=z05 N k l s nd z us i hnd hz hin r (j+1) m h3 h1 (by simp at hm; omega)
  unfold L7c;refine (z9q (some true) g17 u19 u24 h50 N k m l s nd z us i j).trans ?_;rw [yq h1,cond_true,xi,zfk,yq h1,Bool.and_self,zao];refine (z03 h2).trans ?_;rw [zul,vq];simp only [decide_true,cond_true];rw [vh h1 hz];have e:h50 (.sl 1 (List.map (λ k:Nat=>D.int .i64 (k:Int)) nd)) (y:Int)=some true:=by
   have:=z1o (a:=(y:Int)) hnd;rw [ztf,pa (hin y (po h2))] at this;exact this
  rw [e,zci,Bool.not_true,cond_false];exact ih
theorem z06(N k:Nat)(l:List T)(s:List UInt8)(nd:List Nat)(us:List (List Nat))(i:Int)(x:Nat)(hnl:nd.length<4294967296)(hx:x<us.length)(hnd:∀ k∈nd,k<us.length)(hs:∀ u∈us,yi u=true):∀ (r:List Nat) (j m:Nat) (a:Bool),nd.drop j=r→j≤nd.length→r.length<m →
  (a=true∨∃ k∈r,x∈Sp.row us k)→L7b N k m l s nd us i x j a=L7c N k N l s nd (Sp.row us x) us i 0
 | [],j,m,a,hd,hj,hm,ha=>by
  obtain ⟨m,rfl⟩:∃ k',m=k'+1:=⟨m - 1,by omega⟩
  have:nd.length≤j:=by simpa using hd
  obtain rfl:j=nd.length:=by omega
  have ha:a=true:=by
   rcases ha with h | ⟨k,hk,_⟩
   ·exact h
   ·cases hk
  subst ha;have hu:=pr hx;generalize us[x]=u at hu;have g3:Sp.row us x=u:=by unfold Sp.row; rw [List.getD_eq_getElem?_getD,hu]; rfl
  unfold L7b;refine (z9r (some true) g17 u19 u24 h50 N k m l s nd us i x nd.length true).trans ?_;rw [x6,cond_false,Bool.not_true,cond_false,xi,zmf,yq hx,Bool.and_self,zao];refine (z4k hu).trans ?_;rw [z2m,vq];simp only [cells3,Bool.true_or,cond_true];rw [zkm u,g3];rfl
 | y::r,j,m,a,hd,hj,hm,ha=>by
  obtain ⟨m,rfl⟩:∃ k',m=k'+1:=⟨m - 1,by omega⟩
  obtain ⟨h1,h2,h3⟩:=zcc hd;have hyl:=hnd y (po h2);have hu:=pr hyl;have hmem:=List.getElem_mem hyl;generalize us[y]=u at hu hmem;have g3:Sp.row us y=u:=by unfold Sp.row; rw [List.getD_eq_getElem?_getD,hu]; rfl
  have ih:=z06 N k l s nd us i x hnl hx hnd hs r (j+1) m (a||decide (x∈u)) h3 h1 (by simp at hm; omega) (by
   rcases ha with h | ⟨k,hk,hxk⟩
   ·left; rw [h]; rfl
   ·rw [List.mem_cons] at hk;rcases hk with rfl | hk
    ·left;rw [g3] at hxk;rw [pa hxk,Bool.or_true]
    ·exact .inr ⟨k,hk,hxk⟩)
  refine Eq.trans ?_ ih;unfold L7b;refine (z9r (some true) g17 u19 u24 h50 N k m l s nd us i x j a).trans ?_;rw [yq h1,cond_true,xi,zfk,yq h1,Bool.and_self,zao];refine (z03 h2).trans ?_;rw [zul,vq];simp only [decide_true,cond_true];rw [vh h1 hnl];cases a
  ·rw [cond_false,xi,cond_true,zmf,yq hyl,cond_true,Bool.and_self,zao];refine (z4k hu).trans ?_;rw [z2m,vq];simp only [cells3,Bool.true_or,cond_true];rw [z1o (hs u hmem),zci,ztf,Bool.false_or];rfl
  ·rfl
theorem z4t(N:Nat)(l:List T)(s:List UInt8)(nd:List Nat)(us:List (List Nat))(hll:us.length=l.length)(hnl:nd.length<N)(hN:N≤4294967296)(hs:∀ u∈us,u.length<N)(hU:zg3 us)(hnd:∀ k∈nd,k<us.length)(hne:nd ≠ [])
  (hcl:∀ k∈nd,∀ x∈Sp.row us k,x∈nd) (hby:∀ x∈nd,∀ t,l[x]?=some t→t.nm=s∨∃ k∈nd,x∈Sp.row us k):∀ (r:List Nat) (i k:Nat),nd.drop i=r→i≤nd.length→r.length<k →
  L7 N k l s nd us i=some (.ret (mkB true),[])
 | [],i,k,hd,hi,hk=>by
  obtain ⟨k,rfl⟩:∃ k',k=k'+1:=⟨k - 1,by omega⟩
  have:nd.length≤i:=by simpa using hd
  obtain rfl:i=nd.length:=by omega
  unfold L7;refine (al7 (some true) g17 u19 u24 h50 N k l s nd us nd.length).trans ?_;have hpos:0<nd.length:=List.length_pos_iff.2 hne;rw [x6,cond_false,zfk,pa (p:=(0:Int)<(nd.length:Int)) (by omega)]
  rfl
 | x::r,i,k,hd,hi,hk=>by
  obtain ⟨k,rfl⟩:∃ k',k=k'+1:=⟨k - 1,by omega⟩
  obtain ⟨h1,h2,h3⟩:=zcc hd;have hxm:=po h2;have hxl:=hnd x hxm;have hxt:=pr (show x<l.length by omega)
  generalize l[x]'(show x<l.length by omega)=t at hxt
  have ih:=z4t N l s nd us hll hnl hN hs hU hnd hne hcl hby r (i+1) k h3 h1 (by simp at hk; omega)
  have hsh:∀ u∈us,yi u=true:=λ u hu=>zq8 (by have:=hs u hu; omega)
  have e1:L7 N (k+1) l s nd us i=L7b N k N l s nd us i x 0 (decide (t.nm=s)):=by
   unfold L7 L7b;refine (al7 (some true) g17 u19 u24 h50 N k l s nd us i).trans ?_;rw [yq h1,cond_true,xi,zfk,yq h1,Bool.and_self,zao];refine (z03 h2).trans ?_;rw [zul,vq];simp only [decide_true,cond_true];have e0:decide ((x:Int)<0)=false:=pb (by omega)
   have e2:decide ((l.length:Int)≤(x:Int))=false:=pb (by omega)
   have hti:∀ {R:Type} {K:D→Option R},ze (T.ds l) (x:Int).toNat K=K t.d:=λ {R K}=>zrk (by rw [pm,zvz,List.getElem?_map,hxt]; rfl)
   rw [e0,cond_false,yc,e2,cond_false,xi,yq (show x<l.length by omega),Bool.and_self,zao,hti]
   simp only [xa,vq,zbm];rfl
  rw [e1];refine (z06 N k l s nd us i x (by omega) hxl hnd hsh nd 0 N _ rfl (Nat.zero_le _) hnl (by
   rcases hby x hxm t hxt with h | h
   ·exact .inl (pa h)
   ·exact .inr h)).trans ?_
  have hrl:(Sp.row us x).length<N:=hs _ (row_mem hxl);refine (z05 N k l s nd (Sp.row us x) us i (zq8 (by omega)) (by omega) (hcl x hxm) (Sp.row us x) 0 N rfl (Nat.zero_le _) hrl).trans ?_
  rw [vh h1 (by omega)]
  exact ih
theorem zz3(l:List T):Sp.wr l=0∨Sp.wr l=61∨Sp.wr l=270:=by
 unfold Sp.wr;cases l.all yr
 ·exact .inr (.inl rfl)
 ·cases zce [] (nmL l)
  ·exact .inl rfl
  ·exact .inr (.inr rfl)
theorem pure_sliceCloses(l:List T)(h1:yi l=true)(h2:T.oks l=true)(nm:List UInt8)(_hn:yi nm=true):zh cx 7 [.d (.sl 5 (T.ds l)),.d (.str nm)] []=some (.ret (mkB true),[]):=by
 refine zl z2y (N:=l.length+1) ?_;refine (ag7 (some true) g17 u19 u24 h50 (l.length+1) l nm).trans ?_;rw [zci,Bool.not_true,cond_false,z6o h1 h2,zci];cases hgr:zdr l
 ·obtain ⟨hg,hl,hb⟩:=zvo h1 h2 hgr;have e1:u19 (.sl 5 (T.ds l)) nm=some (nI (zcd l nm).1,(zcd l nm).2):=by unfold u19; rw [zsp hg]; rfl
  rw [cond_false,e1,zci,z0a hg,zci];unfold zcd zc1;rcases zz3 l with hw | hw | hw
  ·rw [pa hw];obtain ⟨hd,hn⟩:=wr0 hw;have hul:=zj4 l;simp only [cond_true];rcases z2u (nm:=nm) hn with ⟨_,hb⟩ | ⟨_,s,hb,hs,hsn⟩
   ·rw [hb]; rfl
   ·rw [hb];have hul2:(wt (zcs l)).length=l.length:=by rw [zxr,hul]
    simp only [decide_true,Bool.not_true,cond_false,hul2,yc];have hmem:∀ k,k∈zat (λ k=>@decide (Reach (zcs l) s k) (Classical.propDecidable _)) l.length↔Reach (zcs l) s k:=λ k=>by
     rw [zmb,@decide_eq_true_iff _ (Classical.propDecidable _)];exact ⟨λ h=>h.2,λ h=>⟨by have:=h.lt (zax l) (by rw [hul]; exact hs); rwa [hul] at this,h⟩⟩
    have hsl:=zra (λ k=>@decide (Reach (zcs l) s k) (Classical.propDecidable _)) l.length;generalize zat (λ k=>@decide (Reach (zcs l) s k) (Classical.propDecidable _)) l.length=nd at hmem hsl;have hus:∀ u∈zcs l,u.length<l.length+1:=λ u hu=>by
     obtain ⟨t,_,rfl⟩:=List.mem_map.1 hu;have:=zra (λ k=>Sp.mem ((nmL l).getD k []) (wo [] [] t.kids)) (nmL l).length;exact Nat.lt_of_le_of_lt this (by rw [zhc]; omega)
    have h:=z4t (l.length+1) l nm nd (zcs l) hul (by omega) (by omega) hus (zax l) (λ k hk=>((hmem k).1 hk).lt (zax l) (by rw [hul]; exact hs)) (λ e=>by
      have:=(hmem s).2 .here;rw [e] at this; cases this) (λ k hk x hx=>(hmem x).2 (.step ((hmem k).1 hk) hx)) (λ x hx t ht=>by
      cases (hmem x).1 hx with
      | here=>
       left;have:=(hsn s).2 rfl;rw [List.getD_eq_getElem?_getD,List.getElem?_map,ht] at this;exact pc this
      | step hj hk=>exact .inr ⟨_,(hmem _).2 hj,hk⟩) nd 0 (l.length+1) rfl (Nat.zero_le _) (by omega)
    refine Eq.trans ?_ h;rw [zkm nd];rfl
  ·rw [hw]; rfl
  ·rw [hw]; rfl
 ·rfl
open Go.Proofs.YtmolcgfhgdhgoaaGreatDoor in
theorem glob_says:zts cx.P cx.glob Rows.sliceUsesRow.laid:=by
 intro g x h
 match g,h with
 | 0, h => cases h; exact ⟨"hypercube/lex.signs", Rows.laid_hypercube_lex_signs, by simp [Rows.sliceUsesRow], by kernel_rfl, by kernel_rfl⟩
 | 1, h => cases h; exact ⟨"unicode/utf8.first", Rows.laid_unicode_utf8_first, by simp [Rows.sliceUsesRow], by kernel_rfl, by kernel_rfl⟩
 | 2, h => cases h; exact ⟨"unicode/utf8.acceptRanges", Rows.laid_unicode_utf8_acceptRanges, by simp [Rows.sliceUsesRow], by kernel_rfl, by kernel_rfl⟩
 | n+3,h=>cases h
theorem no_routines:yy cx.P:=by
 have h : (cx.P.funcs.all λ fn => fn.name != "runtime.NumGoroutine") = true := by kernel_rfl
 intro f fn hf;have:=Array.all_eq_true_iff_forall_mem.1 h fn (Array.mem_of_getElem? hf);simpa using this
theorem mixed:cx.P.follows .mixedOrders=true:=by kernel_rfl
def lits:D→Value
 | .int k n=>.int k n
 | .str s=>.string (y7 s)
 | _=>undef
def laidWorld(os:Os):World:=
 { World.holding Tryz.prog os ⟨#[],#[],[]⟩ with heap:=(((((World.holding Tryz.prog os ⟨#[],#[],[]⟩).heap.modify 0 fun
   | .cells _ t frozen=>.cells (wi.cells.map lits).toArray t frozen
   | o=>o).modify 1 fun
   | .cells _ t frozen=>.cells ((unW Go.Pinned.utf8First).map lits).toArray t frozen
   | o=>o).modify 2 fun
   | .cells _ t frozen=>.cells (acc.cells.map lits).toArray t frozen
   | o=>o).modify 4 fun
   | .cells _ t frozen=>.cells ((unW (Go.Proofs.YtmolcgfhgdhgoaaGreatDoor.Rows.laid_math_bits_deBruijn32tab (H:=Unit))).map lits).toArray t frozen
   | o=>o) }
theorem str_rd{w:World}{own:Own}(s:ByteArray):RD w own (.string s) (.str s.data.toList):=by
 have h:=RD.str (w:=w) (own:=own) s.data.toList;have e:y7 s.data.toList=s:=by simp [y7]
 rwa [e] at h
open Go.Proofs Go.Proofs.YtmolcgfhgdhgoaaGreatDoor
theorem bulks_len:∀ l:List T,l.length≤Sp.bulks l
 | []=>Nat.le_refl _
 | .mk k nm kids nms pl::l=>by
  have:=bulks_len l;simp only [List.length_cons,Sp.bulks,yo]; omega
theorem ztj:∀ l:List (List UInt8),l.length≤Sp.lens l
 | []=>Nat.le_refl _
 | x::l=>by have:=ztj l; simp only [List.length_cons,Sp.lens]; omega
theorem ztk:∀ l:List (List UInt8),Sp.lens l<4294967296→l.all yi=true
 | [],_=>rfl
 | x::l,h=>by
  simp only [Sp.lens] at h;rw [List.all_cons,ztk l (by omega),Bool.and_true]
  exact pa (by omega)
mutual
theorem z3f:∀ t:T,yo t<4294967296→t.ok=true
 | .mk k nm kids nms pl,h=>by
  simp only [yo] at h;have h1:=bulks_len kids;have h2:=ztj nms;simp only [T.ok,oks_bulk kids (by omega),ztk nms (by omega),Bool.and_true,ph]
  exact ⟨⟨pa (by omega),pa (by omega)⟩,pa (by omega)⟩
theorem oks_bulk:∀ l:List T,Sp.bulks l<4294967296→T.oks l=true
 | [],_=>rfl
 | t::l,h=>by
  simp only [Sp.bulks] at h;simp only [T.oks,z3f t (by omega),oks_bulk l (by omega)]; rfl
end
theorem zzk(t:T):D.agg t.d.cells=t.d:=by cases t; rfl
section
variable {H:Type} {enc:TypeId×Value→H} {W:World} {base:Nat} {spare:Nat→Bool} {held:Bool}
theorem zqr{m:Nat}:∀ (es:List (DataW H×List MemPlace)),(∀ y∈es,∃ t:T,y0 Tryz.prog m 26 y.1=some t.d.cells∧yo t≤Rows.uptoBulk y.1) →
  ∃ l:List T,zag true (y0 Tryz.prog m 26) (es.map (·.1))=some (T.ds l)∧Sp.bulks l≤Rows.uptoBulkAll (es.map (·.1))
 | [],_=>⟨[],rfl,Nat.le_refl _⟩
 | y::es,h=>by
  obtain ⟨t,h1,h2⟩:=h y (pn ..);obtain ⟨l,h3,h4⟩:=zqr es λ z hz=>h z (pp _ hz);refine ⟨t::l,?_,?_⟩
  ·simp only [List.map_cons,zag,h1,h3,T.ds,elemOf,cond_true,zzk]
  ·simp only [List.map_cons,Sp.bulks,Rows.uptoBulkAll]; omega
theorem zt9{m:Nat}:∀ (es:List (DataW H×List MemPlace)),(∀ y∈es,∃ s:List UInt8,y.1=.lit (.string s)) →
  ∃ l:List (List UInt8),zag false (y0 Tryz.prog (m+1) 9) (es.map (·.1))=some (l.map .str)∧Sp.lens l≤Rows.uptoBulkAll (es.map (·.1))
 | [],_=>⟨[],rfl,Nat.le_refl _⟩
 | y::es,h=>by
  obtain ⟨s,h1⟩:=h y (pn ..);obtain ⟨l,h3,h4⟩:=zt9 (m:=m) es λ z hz=>h z (pp _ hz);refine ⟨s::l,?_,?_⟩
  ·have e:y0 Tryz.prog (m+1) 9 y.1=some [.str s]:=by rw [h1]; simp only [y0,Tryz.underlying9]
   simp only [List.map_cons,zag,e,h3];rfl
  ·simp only [List.map_cons,Sp.lens,Rows.uptoBulkAll,h1,Rows.uptoBulk]; omega
theorem zfe{P:Program}{n t e:Nat}{els sp:List (DataW H)}(h:P.underlying t=some (.slice e)) :
  y0 P (n+1) t (.slice els sp)=bif Nat.beq (P.cellsOf e) 0 then none else (zag (xj P e) (y0 P n e) els).map λ l=>[.sl (P.cellsOf e) l]:=by
 simp only [y0,h]
theorem zo1{P:Program}{n t:Nat}{fs:Array Field}{ps:List (DataW H)}(h:P.underlying t=some (.struct fs)) :
  y0 P (n+1) t (.agg ps)=bif zee P 0 fs.toList (P.cellsOf t) then w0 (y0 P n) fs.toList ps else none:=by
 simp only [y0,h]
theorem z9y:xj Tryz.prog 26=true:=by kernel_rfl
theorem ya9:xj Tryz.prog 9=false:=by kernel_rfl
theorem cells26:Tryz.prog.cellsOf 26=5:=by kernel_rfl
theorem cells9:Tryz.prog.cellsOf 9=1:=by kernel_rfl
theorem zoi{α β:Type}{o:Option α}{f:α→Option β}{y:β}(h:o.bind f=some y):∃ a,f a=some y:=by
 cases o with
 | none=>cases h
 | some a=>exact ⟨a,h⟩
theorem trod_trees{n:Nat}{cs:List Value}{x:DataW H×List MemPlace}(ih:∀ m,m<n→∀ cs x,DataW.trod enc Tryz.prog W base spare held m 26 cs=some x→∃ t:T,y0 Tryz.prog m 26 x.1=some t.d.cells∧yo t≤Rows.uptoBulk x.1)
  (h:DataW.trod enc Tryz.prog W base spare held n 24 cs=some x):∃ l:List T,y0 Tryz.prog n 24 x.1=some [.sl 5 (T.ds l)]∧Sp.bulks l+1≤Rows.uptoBulk x.1:=by
 have hn:∃ k,n=k+1:=by
  cases n with
  | zero=>simp [DataW.trod] at h
  | succ k=>exact ⟨k,rfl⟩
 obtain ⟨k,rfl⟩:=hn;rcases DataW.trod_slice Tryz.underlying24 h with ⟨_,rfl⟩ | ⟨a,len,cap,elems,rest,m,hm,_,rfl,_,_,_,hl,he,_⟩
 ·refine ⟨[],?_,Nat.le_refl _⟩;simp only [y0,Tryz.underlying24,cells26];rfl
 ·cases hm;obtain ⟨l,h1,h2⟩:=zqr (m:=k) elems λ y hy=>by
   obtain ⟨i,hi⟩:=List.getElem?_of_mem hy;have:=he i (by have:=(pj.1 hi).1; omega)
   rw [hi] at this;obtain ⟨c,hc⟩:=zoi this;exact ih k (Nat.lt_succ_self _) c y hc
  refine ⟨l,?_,?_⟩
  ·have e:Nat.beq (Tryz.prog.cellsOf 26) 0=false:=by rw [cells26]; rfl
   rw [zfe Tryz.underlying24,e,cond_false,z9y,h1,cells26];rfl
  ·simp only [Rows.uptoBulk]; omega
theorem zxv{n:Nat}{cs:List Value}{x:DataW H×List MemPlace}(h:DataW.trod enc Tryz.prog W base spare held n 23 cs=some x):∃ l:List (List UInt8),y0 Tryz.prog n 23 x.1=some [.sl 1 (l.map .str)]∧Sp.lens l+1≤Rows.uptoBulk x.1:=by
 have hn:∃ k,n=k+1:=by
  cases n with
  | zero=>simp [DataW.trod] at h
  | succ k=>exact ⟨k,rfl⟩
 obtain ⟨k,rfl⟩:=hn;rcases DataW.trod_slice Tryz.underlying23 h with ⟨_,rfl⟩ | ⟨a,len,cap,elems,rest,m,hm,_,rfl,_,_,_,hl,he,_⟩
 ·refine ⟨[],?_,Nat.le_refl _⟩;simp only [y0,Tryz.underlying23,cells9];rfl
 ·cases hm;have hel:∀ y∈elems,∃ c,DataW.trod enc Tryz.prog W base spare held k 9 c=some y:=λ y hy=>by
   obtain ⟨i,hi⟩:=List.getElem?_of_mem hy;have:=he i (by have:=(pj.1 hi).1; omega)
   rw [hi] at this;exact zoi this
  have e:Nat.beq (Tryz.prog.cellsOf 9) 0=false:=by rw [cells9]; rfl
  cases k with
  | zero=>
   have:elems=[]:=by
    cases elems with
    | nil=>rfl
    | cons y es=>obtain ⟨c,hc⟩:=hel y (pn ..); simp [DataW.trod] at hc
   subst this;refine ⟨[],?_,?_⟩
   ·rw [zfe Tryz.underlying23,e,cond_false,cells9];rfl
   ·simp only [Rows.uptoBulk,Sp.lens]; omega
  | succ k=>
   obtain ⟨l,h1,h2⟩:=zt9 (m:=k) elems λ y hy=>by
    obtain ⟨c,hc⟩:=hel y hy;obtain ⟨s,_,rfl,_⟩:=DataW.trod_string Tryz.underlying9 hc;exact ⟨_,rfl⟩
   refine ⟨l,?_,?_⟩
   ·rw [zfe Tryz.underlying23,e,cond_false,ya9,h1,cells9];rfl
   ·simp only [Rows.uptoBulk]; omega
theorem trod_tree:∀ (n:Nat) (cs:List Value) (x:DataW H×List MemPlace),DataW.trod enc Tryz.prog W base spare held n 26 cs=some x→∃ t:T,y0 Tryz.prog n 26 x.1=some t.d.cells∧yo t≤Rows.uptoBulk x.1:=by
 intro n
 induction n using Nat.strongRecOn with
 | ind n ih=>
  intro cs x h;obtain ⟨xs,m,rfl,rfl,hlen,hxs,hf⟩:=DataW.trod_struct Tryz.underlying26 h;obtain ⟨x0,x1,x2,x3,x4,rfl⟩:∃ x0 x1 x2 x3 x4,xs=[x0,x1,x2,x3,x4]:=by
   match xs,hxs with
   | [a,b,c,d,e],_=>exact ⟨a,b,c,d,e,rfl⟩
  have f0:=hf 0 _ rfl;have f1:=hf 1 _ rfl;have f2:=hf 2 _ rfl;have f3:=hf 3 _ rfl;have f4:=hf 4 _ rfl;simp only [List.getElem?_cons_zero,List.getElem?_cons_succ] at f0 f1 f2 f3 f4;obtain ⟨k,_,rfl,_⟩:=DataW.trod_int Tryz.underlying3 f0;obtain ⟨s,_,rfl,_⟩:=DataW.trod_string Tryz.underlying9 f1;obtain ⟨l,hl1,hl2⟩:=trod_trees (λ m' hm'=>ih m' (Nat.lt_succ_of_lt hm')) f2;obtain ⟨ns,hn1,hn2⟩:=zxv f3;obtain ⟨p,_,rfl,_⟩:=DataW.trod_int Tryz.underlying3 f4;have hm:∃ q,m=q+1:=by
   cases m with
   | zero=>simp [DataW.trod] at f0
   | succ k=>exact ⟨k,rfl⟩
  obtain ⟨q,rfl⟩:=hm;refine ⟨.mk k s.data.toList l ns p,?_,?_⟩
  ·rw [zo1 Tryz.underlying26];have e1:∀ z:Int,y0 Tryz.prog (q+1) 3 (DataW.lit (H:=H) (.int .i64 z))=some [.int .i64 z]:=λ z=>by simp only [y0,Tryz.underlying3]
   have e2:∀ z:List UInt8,y0 Tryz.prog (q+1) 9 (DataW.lit (H:=H) (.string z))=some [.str z]:=λ z=>by simp only [y0,Tryz.underlying9]
   have e0:∀ fs,zee Tryz.prog 0 fs (Tryz.prog.cellsOf 26)=true→(bif zee Tryz.prog 0 fs (Tryz.prog.cellsOf 26) then w0 (y0 (H:=H) Tryz.prog (q+1)) fs [.lit (.int .i64 k),.lit (.string s.data.toList),x2.1,x3.1,.lit (.int .i64 p)] else none)=w0 (y0 Tryz.prog (q+1)) fs [.lit (.int .i64 k),.lit (.string s.data.toList),x2.1,x3.1,.lit (.int .i64 p)]:=λ fs h=>by rw [h]; rfl
   refine (e0 _ (by kernel_rfl)).trans ?_
   simp only [w0,e1,e2,hl1,hn1];rfl
  ·simp only [List.map_cons,List.map_nil,Rows.uptoBulk,Rows.uptoBulkAll,yo];omega
end
theorem same_kept{W W':World}(h:Kept W noOwn W'){p:MemPlace}(hp:p.block<W.heap.size):W.sameAt W' p:=by
 cases p with
 | cell b o=>exact World.cell?_of_block (w:=W) (h.blk b hp λ _ h=>h)
 | map b=>exact h.blk b hp λ _ h=>h
theorem hgrow:∀ g e,cx.grow g=some e→g=165∧e=9:=λ g e h=>by
 have h:(bif Nat.beq g 165 then some 9 else none)=some e:=h;cases hb:Nat.beq g 165 <;> rw [hb] at h
 ·cases h
 ·cases h; exact ⟨pg hb,rfl⟩
end Go.Vai
end

/-
  Slice: Need: the search. To: Slice: what the frames of the laws stand on.
-/
import Derived.Test.YtmolcgfhgdhgoaaGreatDoorSliPart4
import Derived.ReadAgain
import Derived.OpenShut
set_option linter.all false
noncomputable section
namespace Go.Vai
open Go.Proofs
theorem zoq(x:Int):(D.int .i64 x).cells=[D.int .i64 x]:=rfl
theorem z3f(j i:Nat):decide ((j:Int)=(i:Int))=decide (j=i):=by
 rw [Bool.eq_iff_iff,decide_eq_true_iff,decide_eq_true_iff]; omega
def zew(U:List (List Nat))(out:List Nat)(i:Nat):Bool:=!decide (i∈out)&&(Sp.row U i).all λ k=>decide (k∈out)
def zdz(U:List (List Nat))(out:List Nat):Nat→Nat→Option Nat
 | 0,_=>none
 | d+1,i=>bif zew U out i then some i else zdz U out d (i+1)
def zbm(U:List (List Nat))(n:Nat):Nat→List Nat→Option (List Nat)
 | 0,out=>some out
 | d+1,out=>match zdz U out n 0 with | some i=>zbm U n d (out++[i]) | none=>none
def zxa(U:List (List Nat)):List Nat×Int:=match zbm U U.length U.length [] with | some o=>(o,0) | none=>([],272)
theorem zjt{U:List (List Nat)}{out:List Nat}:∀ {d i j:Nat},zdz U out d i=some j→i≤j∧j<i+d∧zew U out j=true
 | 0,i,j,h=>by cases h
 | d+1,i,j,h=>by
  unfold zdz at h;cases hr:zew U out i <;> rw [hr] at h
  ·rw [cond_false] at h;obtain ⟨h1,h2,h3⟩:=zjt h;exact ⟨by omega,by omega,h3⟩
  ·rw [cond_true] at h;cases h;exact ⟨Nat.le_refl _,by omega,hr⟩
theorem ztw{U:List (List Nat)}{out:List Nat}:∀ {d i:Nat},zdz U out d i=none→∀ j,i≤j→j<i+d→zew U out j=false
 | 0,i,h,j,h1,h2=>by omega
 | d+1,i,h,j,h1,h2=>by
  unfold zdz at h;cases hr:zew U out i <;> rw [hr] at h
  ·rw [cond_false] at h;by_cases e:j=i
   ·subst e; exact hr
   ·exact ztw h j (by omega) (by omega)
  ·rw [cond_true] at h; cases h
def zgg(U:List (List Nat)):List Nat→List Nat→Prop
 | _,[]=>True
 | seen,i::r=>i<U.length∧i ∉ seen∧(∀ k∈Sp.row U i,k∈seen)∧zgg U (seen++[i]) r
theorem zgg.snoc{U:List (List Nat)}{i:Nat}:∀ {r seen:List Nat},zgg U seen r→i<U.length→i ∉ seen++r→(∀ k∈Sp.row U i,k∈seen++r)→zgg U seen (r++[i])
 | [],seen,_,h1,h2,h3=>⟨h1,by simpa using h2,λ k hk=>by simpa using h3 k hk,trivial⟩
 | j::r,seen,h,h1,h2,h3=>by
  refine ⟨h.1,h.2.1,h.2.2.1,zgg.snoc h.2.2.2 h1 (by simpa using h2) (λ k hk=>by simpa using h3 k hk)⟩
theorem zrv{U:List (List Nat)}{out:List Nat}{i:Nat}:zew U out i=true↔i ∉ out∧∀ k∈Sp.row U i,k∈out:=by
 unfold zew;rw [ph,List.all_eq_true];constructor
 ·rintro ⟨h1,h2⟩;exact ⟨by simpa using h1,λ k hk=>pc (h2 k hk)⟩
 ·rintro ⟨h1,h2⟩;exact ⟨by simpa using h1,λ k hk=>pa (h2 k hk)⟩
theorem zqb{U:List (List Nat)}:∀ {d:Nat} {out o:List Nat},zbm U U.length d out=some o→out.Nodup→zgg U [] out→o.Nodup∧zgg U [] o∧o.length=out.length+d
 | 0,out,o,h,hn,hs=>by cases h; exact ⟨hn,hs,rfl⟩
 | d+1,out,o,h,hn,hs=>by
  unfold zbm at h;cases hx:zdz U out U.length 0 with
  | none=>rw [hx] at h; cases h
  | some i=>
   rw [hx] at h;obtain ⟨_,h2,h3⟩:=zjt hx;rw [zrv] at h3;have hn2:(out++[i]).Nodup:=by
    rw [List.nodup_append];exact ⟨hn,by simp,λ a ha b hb=>by simp at hb; subst hb; exact λ e=>h3.1 (e ▸ ha)⟩
   have hs2:=zgg.snoc (i:=i) (seen:=[]) hs (by omega) (by simpa using h3.1) (λ k hk=>by simpa using h3.2 k hk)
   obtain ⟨h5,h6,h7⟩:=zqb h hn2 hs2;exact ⟨h5,h6,by rw [h7]; simp; omega⟩
theorem zqc{U:List (List Nat)}:∀ {d:Nat} {out:List Nat},zbm U U.length d out=none→out.length+d=U.length→(∀ x∈out,x<U.length)→out.Nodup →
  ∃ o:List Nat,o.Nodup∧o.length<U.length∧(∀ x∈o,x<U.length)∧∀ i,i<U.length→i ∉ o→∃ k∈Sp.row U i,k ∉ o
 | 0,out,h,_,_,_=>by cases h
 | d+1,out,h,hl,hi,hn=>by
  unfold zbm at h;cases hx:zdz U out U.length 0 with
  | none=>
   refine ⟨out,hn,by omega,hi,λ i h1 h2=>?_⟩
   have:=ztw hx i (Nat.zero_le _) (by omega)
   apply Classical.byContradiction;intro hne;have:zew U out i=true:=zrv.2 ⟨h2,λ k hk=>Classical.byContradiction λ hk2=>hne ⟨k,hk,hk2⟩⟩
   simp_all
  | some i=>
   rw [hx] at h;obtain ⟨_,h2,h3⟩:=zjt hx;rw [zrv] at h3;refine zqc h (by simp; omega) (λ x hx=>?_) ?_
   ·rw [List.mem_append,List.mem_singleton] at hx;rcases hx with hx | rfl
    ·exact hi x hx
    ·omega
   ·rw [List.nodup_append];exact ⟨hn,by simp,λ a ha b hb=>by simp at hb; subst hb; exact λ e=>h3.1 (e ▸ ha)⟩
inductive Way (U:List (List Nat)) (s:Nat):Nat→Prop
 | one {k:Nat} (h:k∈Sp.row U s):Way U s k
 | step {j k:Nat} (h:Way U s j) (hk:k∈Sp.row U j):Way U s k
theorem zvw{n:Nat}{o:List Nat}(h:o.length<n):∃ i,i<n∧i ∉ o:=by
 apply Classical.byContradiction;intro hne;have hall:∀ i,i<n→i∈o:=λ i hi=>Classical.byContradiction λ h=>hne ⟨i,hi,h⟩;have:∀ (n:Nat) (o:List Nat),(∀ i,i<n→i∈o)→n≤o.length:=by
  intro n
  induction n with
  | zero=>intro o _; omega
  | succ n ih=>
   intro o ho;have h1:=ih (o.erase n) λ i hi=>(List.mem_erase_of_ne (by omega)).2 (ho i (by omega))
   have h2:=ho n (by omega)
   rw [List.length_erase_of_mem h2] at h1;have:=List.length_pos_of_mem h2;omega
 have:=this n o hall;omega
theorem z4f{U:List (List Nat)}{o:List Nat}(hlt:∃ i,i<U.length∧i ∉ o)(hU:zaj U)(h:∀ i,i<U.length→i ∉ o→∃ k∈Sp.row U i,k ∉ o):∃ i,i<U.length∧Way U i i:=by
 apply Classical.byContradiction;intro hno
 -- a list of nodes,each before on the way to the next,without end
 have key:∀ m:Nat,∃ (l:List Nat) (a:Nat),l.length=m∧(a::l).Nodup∧(∀ x∈a::l,x<U.length)∧a ∉ o∧∀ x∈l,Way U x a:=by
  intro m
  induction m with
  | zero=>
   obtain ⟨i,h1,h2⟩:=hlt;exact ⟨[],i,rfl,by simp,λ x hx=>by simp at hx; omega,h2,λ x hx=>by cases hx⟩
  | succ m ih=>
   obtain ⟨l,a,hl,hn,hi,ha,hw⟩:=ih;have hal:=hi a (pn ..);obtain ⟨k,hk,hko⟩:=h a hal ha;have hkl:=hU.row hk;have hw2:∀ x∈a::l,Way U x k:=λ x hx=>by
    rw [List.mem_cons] at hx;rcases hx with rfl | hx
    ·exact .one hk
    ·exact .step (hw x hx) hk
   refine ⟨a::l,k,by simp [hl],?_,λ x hx=>?_,hko,hw2⟩
   ·rw [List.nodup_cons];exact ⟨λ hm=>hno ⟨k,hkl,hw2 k hm⟩,hn⟩
   ·rw [List.mem_cons] at hx;rcases hx with rfl | hx
    ·exact hkl
    ·exact hi x hx
 obtain ⟨l,a,hl,hn,hi,_,_⟩:=key U.length;have:=zdg hn hi;simp at this;omega
theorem z10{U:List (List Nat)}(hU:zaj U)(h:zbm U U.length U.length []=none):∃ i,i<U.length∧Way U i i:=by
 obtain ⟨o,h1,h2,h3,h4⟩:=zqc h (by simp) (λ x hx=>by cases hx) List.nodup_nil
 exact z4f (zvw h2) hU h4
def Sp.rg(U:List (List Nat))(s:Nat):Nat→Nat→List Nat→Bool
 | 0,_,_=>false
 | f+1,k,o=>match o[k]? with | some j=>bif decide (j=s) then true else Sp.rg U s f (k+1) (w0 o (Sp.row U j)) | none=>false
theorem z1u{U:List (List Nat)}(hU:zaj U){s:Nat}:∀ (f k:Nat) (o:List Nat),Sp.rg U s f k o=false→U.length≤f+k→k≤o.length→o.Nodup→(∀ x∈o,x<U.length) →
  (∀ i j,i<k→o[i]?=some j→j ≠ s∧∀ x∈Sp.row U j,x∈o)→∃ o':List Nat,(∀ x∈o,x∈o')∧s ∉ o'∧∀ j∈o',∀ x∈Sp.row U j,x∈o':=by
 have close:∀ (k:Nat) (o:List Nat),o.length≤k→(∀ i j,i<k→o[i]?=some j→j ≠ s∧∀ x∈Sp.row U j,x∈o)→∃ o':List Nat,(∀ x∈o,x∈o')∧s ∉ o'∧∀ j∈o',∀ x∈Sp.row U j,x∈o':=by
  intro k o hk hc;refine ⟨o,λ x h=>h,λ hs=>?_,λ j hj=>?_⟩
  ·obtain ⟨i,hi⟩:=List.getElem?_of_mem hs;exact (hc i s (by have:=(pj.1 hi).1; omega) hi).1 rfl
  ·obtain ⟨i,hi⟩:=List.getElem?_of_mem hj;exact (hc i j (by have:=(pj.1 hi).1; omega) hi).2
 intro f
 induction f with
 | zero=>
  intro k o _ hf hk hn hl hc;have:=zdg hn hl;exact close k o (by omega) hc
 | succ f ih=>
  intro k o h hf hk hn hl hc;unfold Sp.rg at h;cases hj:o[k]? with
  | none=>exact close k o (List.getElem?_eq_none_iff.1 hj) hc
  | some j=>
   rw [hj] at h;simp only at h;cases hd:decide (j=s) <;> rw [hd] at h
   ·rw [cond_false] at h;have hne:=of_decide_eq_false hd;have hklt:=(pj.1 hj).1;obtain ⟨h1,h2,r,h3⟩:=zhd (Sp.row U j) hn;obtain ⟨o',g1,g2,g3⟩:=ih (k+1) _ h (by omega) (by rw [h3]; simp; omega) h1 (λ x hx=>by
     rcases (h2 x).1 hx with h | h
     ·exact hl x h
     ·exact hU.row h) λ i q hi hq=>by
     rw [h3,List.getElem?_append_left (by omega)] at hq
     by_cases hik:i=k
     ·subst hik;rw [hj] at hq; cases hq;exact ⟨hne,λ x hx=>(h2 x).2 (.inr hx)⟩
     ·exact ⟨(hc i q (by omega) hq).1,λ x hx=>(h2 x).2 (.inl ((hc i q (by omega) hq).2 x hx))⟩
    exact ⟨o',λ x hx=>g1 x ((h2 x).2 (.inl hx)),g2,g3⟩
   ·cases h
theorem row_mem{U:List (List Nat)}{i:Nat}(h:i<U.length):Sp.row U i∈U:=by
 unfold Sp.row;rw [List.getD_eq_getElem?_getD,pr h];exact List.getElem_mem h
def K8n(w:Option Bool)(g:D→Option Bool)(o v:D→Option (List D×Int))(r:D→Option Bool)(h:D→Int→Option Bool):CK R1:=
 zx 18 z3p (λ _=>w) mkB (zx 17 zan g mkB (zx 26 zan o mk2 (zx 24 zan v mk2 (zx 27 zan r mkB (zx 25 zid (λ q=>h q.1 q.2) mkB (CK.plain zo))))))
def y6(h:D→Int→Option Bool):CK R1:=zx 25 zid (λ q=>h q.1 q.2) mkB (CK.plain zo)
def psO(us:D)(B:List D):St:=[(0,.val 1 (.d us)),(1,.val 1 (.slo 2 1 B.length)),(2,.row B)]
def pdO:St→Option (D×(List D×Nat)) | [(0,.val 1 (.d us)),(1,.val 1 (.slo 2 1 n)),(2,.row B)]=>some (us,(B,n)) | _=>none
def z3k(a:List V)(σ:St):Option (D×(List D×Nat)):=match a with | [.ptr 0 0,.ptr 1 0]=>pdO σ | _=>none
def yc0(nx:D→List D→Option Int)(S:CK R1):CK R1:=more 53 z3k (λ K q=>zd (nx q.1 q.2.1) λ i=>za (Nat.beq q.2.2 q.2.1.length) (K (.ret (mkI i)) (psO q.1 q.2.1)))
  (λ K q=>by
   simp only;rw [vl];congr 1;funext s;simp only [za,x7];rfl) S
def zh6(B:List D):St:=[(0,.val 1 (.slo 1 1 B.length)),(1,.row B)]
def z4j:St→Option (List D×Nat) | [(0,.val 1 (.slo 1 1 n)),(1,.row B)]=>some (B,n) | _=>none
def zcz(a:List V)(σ:St):Option (D×(List D×Nat)):=match a with | [.d x,.func 55 [.ptr 0 0]]=>zd (z4j σ) λ q=>some (x,q) | _=>none
def zcu(a:List V)(σ:St):Option (Int×(List D×Nat)):=match a with | [.d (.int .i64 i),.ptr 0 0]=>zd (z4j σ) λ q=>some (i,q) | _=>none
def bK{α β:Type}(f:Nat)(dec:List V→St→Option (α×(List D×Nat)))(p:α→List D→Option β)(mk:β→V)(S:CK R1):CK R1:=more f dec (λ K q=>zd (p q.1 q.2.1) λ b=>za (Nat.beq q.2.2 q.2.1.length) (K (.ret (mk b)) (zh6 q.2.1)))
  (λ K q=>by
   simp only;rw [vl];congr 1;funext s;simp only [za,x7];rfl) S
def zpu(v:D→Option (List D×Int))(nx:D→List D→Option Int):CK R1:=zx 24 zan v mk2 (yc0 nx (CK.plain zo))
theorem ycm(n:Nat)(B:List D)(i:Int):zk cx (CK.plain zo) n 55 [.d (.int .i64 i),.ptr 0 0] (zh6 B)=za (decide (0≤i)&&decide (i<(↑B.length:Int))) (za (B.length.beq B.length) (ze B i.toNat λ x=>ze x.cells 0 λ c=>match c with
 | D.bool b=>some (Out.ret (V.d (D.bool !b)),[(0,Ob.val 1 (V.slo 1 1 B.length)),(1,Ob.row B)])
 | x=>none)):=by kernel_rfl
theorem yck(p:Int→List D→Option Bool)(n:Nat)(l:List Nat)(B:List D):zk cx (bK 55 zcu p mkB (CK.plain zo)) n 91 [.d (.sl 1 (nI l)),.func 55 [.ptr 0 0]] (zh6 B)=LP cx (bK 55 zcu p mkB (CK.plain zo)) n 91 2 2 n [(0,V.d (D.sl 1 (List.map (λ k:Nat=>D.int .i64 (k:Int)) l))),(1,V.func 55 [V.ptr 0 0]),(7,V.d (D.int .i64 (↑(List.map (λ k:Nat=>D.int .i64 (k:Int)) l).length:Int))),(8,V.d (D.int .i64 (0:Int)))] [(0,Ob.val 1 (V.slo 1 1 B.length)),(1,Ob.row B)] (AK cx (bK 55 zcu p mkB (CK.plain zo)) n 91 2 2 (EK cx 91 2)):=by kernel_rfl
theorem ya0(p:Int→List D→Option Bool)(n k:Nat)(l:List Nat)(B:List D)(i:Int):LP cx (bK 55 zcu p mkB (CK.plain zo)) n 91 2 2 (k+1) [(0,V.d (D.sl 1 (nI l))),(1,V.func 55 [V.ptr 0 0]),(7,V.d (D.int .i64 (l.length:Int))),(8,V.d (D.int .i64 i))] [(0,Ob.val 1 (V.slo 1 1 B.length)),(1,Ob.row B)] (AK cx (bK 55 zcu p mkB (CK.plain zo)) n 91 2 2 (EK cx 91 2))=bif decide (i<(↑l.length:Int)) then za (decide (0≤i)&&decide (i<(↑(List.map (λ k:Nat=>D.int .i64 (k:Int)) l).length:Int))) (ze (List.map (λ k:Nat=>D.int .i64 (k:Int)) l) i.toNat λ y=>ze y.cells 0 λ c=>match c with
 | D.int k' n_1=>bif decide (k'=IntKind.i64) then zd (p (n_1,B,B.length).fst (n_1,B,B.length).snd.fst) λ b=>za ((n_1,B,B.length).snd.snd.beq (n_1,B,B.length).snd.fst.length) (bif b then some (Out.ret (V.d (D.int .i64 i)),[(0,Ob.val 1 (V.slo 1 1 (n_1,B,B.length).snd.fst.length)),(1,Ob.row B)]) else LP cx (bK 55 zcu p mkB (CK.plain zo)) n 91 2 2 k [(0,V.d (D.sl 1 (List.map (λ k:Nat=>D.int .i64 (k:Int)) l))),(1,V.func 55 [V.ptr 0 0]),(7,V.d (D.int .i64 (↑l.length:Int))),(8,V.d (D.int .i64 (IntKind.i64.wrap (i+(1:Int)))))] [(0,Ob.val 1 (V.slo 1 1 (n_1,B,B.length).snd.fst.length)),(1,Ob.row B)] (AK cx (bK 55 zcu p mkB (CK.plain zo)) n 91 2 2 (EK cx 91 2))) else none
 | x=>none) else some (Out.ret (V.d (D.int .i64 (Int.negSucc 0))),[(0,Ob.val 1 (V.slo 1 1 B.length)),(1,Ob.row B)]):=by kernel_rfl
theorem ycn(p:D→List D→Option Int)(n:Nat)(l:List Nat)(B:List D):zk cx (bK 91 zcz p mkI (CK.plain zo)) n 54 [.d (.sl 1 (nI l)),.func 55 [.ptr 0 0]] (zh6 B)=zd (p (D.sl 1 (List.map (λ k:Nat=>D.int .i64 (k:Int)) l),B,B.length).fst (D.sl 1 (List.map (λ k:Nat=>D.int .i64 (k:Int)) l),B,B.length).snd.fst) λ b=>za ((D.sl 1 (List.map (λ k:Nat=>D.int .i64 (k:Int)) l),B,B.length).snd.snd.beq (D.sl 1 (List.map (λ k:Nat=>D.int .i64 (k:Int)) l),B,B.length).snd.fst.length) (some (Out.ret (V.d (D.bool (decide ((0:Int)≤b)))),[(0,Ob.val 1 (V.slo 1 1 (D.sl 1 (List.map (λ k:Nat=>D.int .i64 (k:Int)) l),B,B.length).snd.fst.length)),(1,Ob.row B)])):=by kernel_rfl
theorem yco(p:D→List D→Option Bool)(n:Nat)(us:List (List Nat))(B:List D):zk cx (bK 54 zcz p mkB (CK.plain zo)) n 53 [.ptr 0 0,.ptr 1 0] (psO (.sl 1 (yr us)) B)=LP cx (bK 54 zcz p mkB (CK.plain zo)) n 53 3 2 n [(1,V.ptr 1 0),(5,V.d (D.sl 1 (List.map (λ u=>D.sl 1 (nI u)) us))),(6,V.d (D.int .i64 (↑(List.map (λ u=>D.sl 1 (nI u)) us).length:Int))),(7,V.d (D.int .i64 (0:Int)))] [(0,Ob.val 1 (V.d (D.sl 1 (List.map (λ u=>D.sl 1 (nI u)) us)))),(1,Ob.val 1 (V.slo 2 1 B.length)),(2,Ob.row B)] (AK cx (bK 54 zcz p mkB (CK.plain zo)) n 53 3 2 (EK cx 53 3)):=by kernel_rfl
theorem ya3(p:D→List D→Option Bool)(n k:Nat)(us:List (List Nat))(B:List D)(i:Int):LP cx (bK 54 zcz p mkB (CK.plain zo)) n 53 3 2 (k+1) [(1,V.ptr 1 0),(5,V.d (D.sl 1 (yr us))),(6,V.d (D.int .i64 (us.length:Int))),(7,V.d (D.int .i64 i))] [(0,Ob.val 1 (V.d (D.sl 1 (yr us)))),(1,Ob.val 1 (V.slo 2 1 B.length)),(2,Ob.row B)] (AK cx (bK 54 zcz p mkB (CK.plain zo)) n 53 3 2 (EK cx 53 3))=bif decide (i<(↑us.length:Int)) then za (decide (0≤i)&&decide (i<(↑(List.map (λ u=>D.sl 1 (nI u)) us).length:Int))) (ze (List.map (λ u=>D.sl 1 (nI u)) us) i.toNat λ y=>ze y.cells 0 λ c=>match c with
 | D.sl s l=>bif s.beq (cx.P.cellsOf 3)||l.isEmpty then za (decide (0≤i)&&decide (i<(↑B.length:Int))) (za (B.length.beq B.length) (ze B i.toNat λ x=>ze x.cells 0 λ c=>match c with
  | D.bool b=>bif !b then zd (p (D.sl 1 l,B,B.length).fst (D.sl 1 l,B,B.length).snd.fst) λ b=>za ((D.sl 1 l,B,B.length).snd.snd.beq (D.sl 1 l,B,B.length).snd.fst.length) (bif !b then some (Out.ret (V.d (D.int .i64 i)),[(0,Ob.val 1 (V.d (D.sl 1 (List.map (λ u=>D.sl 1 (nI u)) us)))),(1,Ob.val 1 (V.slo 2 1 (D.sl 1 l,B,B.length).snd.fst.length)),(2,Ob.row B)]) else LP cx (bK 54 zcz p mkB (CK.plain zo)) n 53 3 2 k [(1,V.ptr 1 0),(5,V.d (D.sl 1 (List.map (λ u=>D.sl 1 (nI u)) us))),(6,V.d (D.int .i64 (↑us.length:Int))),(7,V.d (D.int .i64 (IntKind.i64.wrap (i+(1:Int)))))] [(0,Ob.val 1 (V.d (D.sl 1 (List.map (λ u=>D.sl 1 (nI u)) us)))),(1,Ob.val 1 (V.slo 2 1 (D.sl 1 l,B,B.length).snd.fst.length)),(2,Ob.row B)] (AK cx (bK 54 zcz p mkB (CK.plain zo)) n 53 3 2 (EK cx 53 3))) else LP cx (bK 54 zcz p mkB (CK.plain zo)) n 53 3 2 k [(1,V.ptr 1 0),(5,V.d (D.sl 1 (List.map (λ u=>D.sl 1 (nI u)) us))),(6,V.d (D.int .i64 (↑us.length:Int))),(7,V.d (D.int .i64 (IntKind.i64.wrap (i+(1:Int)))))] [(0,Ob.val 1 (V.d (D.sl 1 (List.map (λ u=>D.sl 1 (nI u)) us)))),(1,Ob.val 1 (V.slo 2 1 B.length)),(2,Ob.row B)] (AK cx (bK 54 zcz p mkB (CK.plain zo)) n 53 3 2 (EK cx 53 3))
  | x=>none)) else none
 | x=>none) else some (Out.ret (V.d (D.int .i64 (Int.negSucc 0))),[(0,Ob.val 1 (V.d (D.sl 1 (List.map (λ u=>D.sl 1 (nI u)) us)))),(1,Ob.val 1 (V.slo 2 1 B.length)),(2,Ob.row B)]):=by kernel_rfl
theorem ycu(v:D→Option (List D×Int))(nx:D→List D→Option Int)(n:Nat)(l:List T):zk cx (zpu v nx) n 26 [.d (.sl 5 (T.ds l))] []=zd (v (D.sl 5 (T.ds l))) λ b=>bif !decide (b.snd=(0:Int)) then some (Out.ret (V.tup [V.d (D.sl 1 []),V.d (D.int .i64 b.snd)]),[]) else za (decide ((↑(T.ds l).length:Int)≤(↑(T.ds l).length:Int))&&decide ((↑(T.ds l).length:Int)≤4294967296)&&true&&true&&true) (LP cx (zpu v nx) n 26 0 7 n [(0,V.d (D.sl 5 (T.ds l))),(6,V.sl 1 [] 6),(7,V.ptr 7 0),(8,V.func 53 [V.ptr 4 0,V.ptr 7 0])] [(6,Ob.tok 0),(7,Ob.val 1 (V.slo 20 1 (↑(T.ds l).length:Int).toNat)),(20,Ob.row (List.replicate (↑(T.ds l).length:Int).toNat (wm cx.P 4 [D.bool false]))),(4,Ob.val 1 (V.d (D.sl 1 b.1)))] (AK cx (zpu v nx) n 26 0 7 (EK cx 26 0))):=by kernel_rfl
theorem ya7(v:D→Option (List D×Int))(nx:D→List D→Option Int)(n k:Nat)(l:List T)(us L B:List D):LP cx (zpu v nx) n 26 0 7 (k+1) [(0,V.d (D.sl 5 (T.ds l))),(6,V.sl 1 L 6),(7,V.ptr 7 0),(8,V.func 53 [V.ptr 4 0,V.ptr 7 0])] [(6,Ob.tok L.length),(7,Ob.val 1 (V.slo 20 1 B.length)),(20,Ob.row B),(4,Ob.val 1 (V.d (D.sl 1 us)))] (AK cx (zpu v nx) n 26 0 7 (EK cx 26 0))=bif decide ((↑L.length:Int)<(↑(T.ds l).length:Int)) then zd (nx (D.sl 1 us,B,B.length).fst (D.sl 1 us,B,B.length).snd.fst) λ i=>za ((D.sl 1 us,B,B.length).snd.snd.beq (D.sl 1 us,B,B.length).snd.fst.length) (bif decide (i<(0:Int)) then some (Out.ret (V.tup [V.d (D.sl 1 []),V.d (D.int .i64 (272:Int))]),[]) else za (decide (0≤i)&&decide (i<(↑(D.sl 1 us,B,B.length).snd.fst.length:Int))) (za ((D.sl 1 us,B,B.length).snd.fst.length.beq B.length&&true&&true) (za (decide (L.length=L.length)&&decide (L.length+[D.int .i64 i].length≤4294967296)) (LP cx (zpu v nx) n 26 0 7 k [(0,V.d (D.sl 5 (T.ds l))),(6,V.sl 1 (L++[D.int .i64 i]) 6),(7,V.ptr 7 0),(8,V.func 53 [V.ptr 4 0,V.ptr 7 0])] [(6,Ob.tok (L.length+[D.int .i64 i].length)),(7,Ob.val 1 (V.slo 20 1 (D.sl 1 us,B,B.length).snd.fst.length)),(20,Ob.row (B.set i.toNat (D.bool true))),(4,Ob.val 1 (V.d (D.sl 1 us)))] (AK cx (zpu v nx) n 26 0 7 (EK cx 26 0)))))) else some (Out.ret (V.tup [V.d (D.sl 1 L),V.d (D.int .i64 (0:Int))]),[]):=by kernel_rfl
theorem zp7{σ:St}{B:List D}{n:Nat}(h:z4j σ=some (B,n))(hn:Nat.beq n B.length=true):σ=zh6 B:=by
 unfold z4j at h;split at h
 ·cases h;obtain rfl:=pg hn;rfl
 ·cases h
theorem zuw{a:List V}{σ:St}{i:Int}{B:List D}{n:Nat}(h:zcu a σ=some (i,(B,n)))(hn:Nat.beq n B.length=true):a=[.d (.int .i64 i),.ptr 0 0]∧σ=zh6 B:=by
 unfold zcu at h;split at h
 ·obtain ⟨q,hq,h⟩:=zb h;cases h;exact ⟨rfl,zp7 hq hn⟩
 ·cases h
theorem zof{a:List V}{σ:St}{x:D}{B:List D}{n:Nat}(h:zcz a σ=some (x,(B,n)))(hn:Nat.beq n B.length=true):a=[.d x,.func 55 [.ptr 0 0]]∧σ=zh6 B:=by
 unfold zcz at h;split at h
 ·obtain ⟨q,hq,h⟩:=zb h;cases h;exact ⟨rfl,zp7 hq hn⟩
 ·cases h
theorem zoy{α β:Type}{f:Nat}{dec:List V→St→Option (α×(List D×Nat))}{p:α→List D→Option β}{mk:β→V}{S:CK R1}(hS:knows cx S.S (zh cx))
  (hf:∀ a σ q B n b,dec a σ=some (q,(B,n))→Nat.beq n B.length=true→p q B=some b→zh cx f a σ=some (.ret (mk b),zh6 B)):knows cx (bK f dec p mk S).S (zh cx):=wi hS λ a σ q r hd h=>by
 obtain ⟨q,B,n⟩:=q;obtain ⟨b,hb,h⟩:=zb h;obtain ⟨hn,h⟩:=zc h;cases h;exact hf a σ q B n b hd hn hb
def zg8:List D→Option (List Bool)
 | []=>some []
 | .bool b::r=>zd (zg8 r) λ l=>some (b::l)
 | _=>none
theorem zcn:∀ {l:List D} {r:List Bool},zg8 l=some r→l=bD r
 | [],r,h=>by cases h; rfl
 | .bool b::l,r,h=>by
  obtain ⟨q,hq,h⟩:=zb h;cases h;rw [zcn hq]; rfl
theorem zfb:∀ B:List Bool,zg8 (bD B)=some B
 | []=>rfl
 | b::B=>by
  show zd (zg8 (bD B)) _=_;rw [zfb B]; rfl
theorem ybw(B:List Bool)(i:Nat)(b:Bool)(hb:B[i]?=some b):zh cx 55 [.d (.int .i64 i),.ptr 0 0] (zh6 (bD B))=some (.ret (mkB (!b)),zh6 (bD B)):=by
 refine zl zq (N:=0) ?_;have hbi:∀ {R:Type} {K:D→Option R},ze (bD B) (i:Int).toNat K=K (.bool b):=λ {R K}=>zmj (by rw [pm]; unfold bD; rw [List.getElem?_map,hb]; rfl)
 have hi:=(pj.1 hb).1;rw [ycm,xe,yh (by rw [zsu]; exact hi),Bool.and_self,xr,Nat.beq_refl,xr,hbi]
 rfl
def p55(i:Int)(L:List D):Option Bool:=zd (zg8 L) λ B=>za (decide (0≤i)) (zd B[i.toNat]? λ b=>some (!b))
theorem z6s{B:List Bool}{i:Nat}{b:Bool}(hb:B[i]?=some b):p55 (i:Int) (bD B)=some (!b):=by
 unfold p55;rw [zfb,qr,xe,xr,pm,hb]; rfl
theorem zxc:knows cx (bK 55 zcu p55 mkB (CK.plain zo)).S (zh cx):=zoy zq λ a σ i L n b hd hn hb=>by
 obtain ⟨rfl,rfl⟩:=zuw hd hn;obtain ⟨B,hB,hb⟩:=zb hb;obtain ⟨h0,hb⟩:=zc hb;obtain ⟨c,hc,hb⟩:=zb hb;cases hb;rw [zcn hB];have:=ybw B i.toNat c hc;rw [Int.toNat_of_nonneg (pc h0)] at this;exact this
theorem m91(B:List Bool)(l:List Nat)(hl:l.length<4294967296)(hB:∀ k∈l,k<B.length):zh cx 91 [.d (.sl 1 (nI l)),.func 55 [.ptr 0 0]] (zh6 (bD B))=some (.ret (mkI (xo (λ k=>!B.getD k false) l)),zh6 (bD B)):=by
 refine zl zxc (N:=l.length+1) ?_;rw [yck,show (List.map (λ k:Nat=>D.int .i64 (k:Int)) l).length=l.length from pf _]
 have h:=zdt (λ k i=>LP cx (bK 55 zcu p55 mkB (CK.plain zo)) (l.length+1) 91 2 2 k [(0,V.d (D.sl 1 (nI l))),(1,V.func 55 [V.ptr 0 0]),(7,V.d (D.int .i64 (l.length:Int))),(8,V.d (D.int .i64 i))] [(0,Ob.val 1 (V.slo 1 1 (bD B).length)),(1,Ob.row (bD B))] (AK cx (bK 55 zcu p55 mkB (CK.plain zo)) (l.length+1) 91 2 2 (EK cx 91 2)))
  l (λ k=>!B.getD k false) (λ j=>some (.ret (mkI j),zh6 (bD B))) (some (.ret (mkI (-1)),zh6 (bD B))) hl
  (λ k j x hj hx=>by
   refine (ya0 p55 (l.length+1) k l (bD B) j).trans ?_;have hlx:∀ {R:Type} {K:D→Option R},ze (List.map (λ k:Nat=>D.int .i64 (k:Int)) l) (j:Int).toNat K=K (.int .i64 (x:Int)):=λ {R K}=>by
    have:=zjv (l:=l) (i:=(j:Int).toNat) (K:=K);rw [pm,hx] at this;rw [pm];exact this
   have hxB:=pr (hB x (po hx));generalize B[x]'(hB x (po hx))=b at hxB;have hg:B.getD x false=b:=by rw [List.getD_eq_getElem?_getD,hxB]; rfl
   rw [yh hj,cond_true,xe,show (List.map (λ k:Nat=>D.int .i64 (k:Int)) l).length=l.length from pf _,yh hj,Bool.and_self,xr,hlx,zoq,vm];simp only [decide_true,cond_true];rw [z6s hxB,qr,Nat.beq_refl,xr,hg];rfl)
  (λ k=>by
   refine (ya0 p55 (l.length+1) k l (bD B) l.length).trans ?_;rw [xu,cond_false]; rfl) (k:=l.length+1) (Nat.lt_succ_self _)
 refine Eq.trans ?_ (h.trans ?_)
 ·rfl
 ·unfold xo;cases y0 (λ k=>!B.getD k false) l 0 <;> rfl
def p91(x:D)(L:List D):Option Int:=zd (zg8 L) λ B=>(match x with | .sl 1 X=>zd (zgj X) λ l=>za (yj l&&l.all λ k=>decide (k<B.length)) (some (xo (λ k=>!B.getD k false) l)) | _=>none)
theorem z6q{B:List Bool}{l:List Nat}(hl:yj l=true)(hB:∀ k∈l,k<B.length):p91 (.sl 1 (nI l)) (bD B)=some (xo (λ k=>!B.getD k false) l):=by
 unfold p91;rw [zfb,qr];show zd (zgj (nI l)) _=_;rw [zgy,qr,hl,show (l.all λ k=>decide (k<B.length))=true from List.all_eq_true.2 λ k hk=>pa (hB k hk)];rfl
theorem z0y:knows cx (bK 91 zcz p91 mkI (CK.plain zo)).S (zh cx):=zoy zq λ a σ x L n b hd hn hb=>by
 obtain ⟨rfl,rfl⟩:=zof hd hn;obtain ⟨B,hB,hb⟩:=zb hb;split at hb
 ·obtain ⟨l,hl,hb⟩:=zb hb;obtain ⟨h1,hb⟩:=zc hb;cases hb;rw [ph] at h1;rw [zcn hB,zdq hl];exact m91 B l (xf h1.1) λ k hk=>pc (List.all_eq_true.1 h1.2 k hk)
 ·cases hb
theorem m54(B:List Bool)(l:List Nat)(hl:yj l=true)(hB:∀ k∈l,k<B.length):zh cx 54 [.d (.sl 1 (nI l)),.func 55 [.ptr 0 0]] (zh6 (bD B))=some (.ret (mkB (l.any λ k=>!B.getD k false)),zh6 (bD B)):=by
 refine zl z0y (N:=0) ?_;refine (ycn p91 0 l (bD B)).trans ?_;show zd (p91 (.sl 1 (nI l)) (bD B)) _=_;rw [z6q hl hB,qr];show za (Nat.beq (bD B).length (bD B).length) _=_;rw [Nat.beq_refl,xr,zhs];rfl
def p54(x:D)(L:List D):Option Bool:=zd (zg8 L) λ B=>(match x with | .sl 1 X=>zd (zgj X) λ l=>za (yj l&&l.all λ k=>decide (k<B.length)) (some (l.any λ k=>!B.getD k false)) | _=>none)
theorem z6t{B:List Bool}{l:List Nat}(hl:yj l=true)(hB:∀ k∈l,k<B.length):p54 (.sl 1 (nI l)) (bD B)=some (l.any λ k=>!B.getD k false):=by
 unfold p54;rw [zfb,qr];show zd (zgj (nI l)) _=_;rw [zgy,qr,hl,show (l.all λ k=>decide (k<B.length))=true from List.all_eq_true.2 λ k hk=>pa (hB k hk)];rfl
theorem z0z:knows cx (bK 54 zcz p54 mkB (CK.plain zo)).S (zh cx):=zoy zq λ a σ x L n b hd hn hb=>by
 obtain ⟨rfl,rfl⟩:=zof hd hn;obtain ⟨B,hB,hb⟩:=zb hb;split at hb
 ·obtain ⟨l,hl,hb⟩:=zb hb;obtain ⟨h1,hb⟩:=zc hb;cases hb;rw [ph] at h1;rw [zcn hB,zdq hl];exact m54 B l h1.1 λ k hk=>pc (List.all_eq_true.1 h1.2 k hk)
 ·cases hb
def zja:List D→Option (List (List Nat))
 | []=>some []
 | .sl 1 L::r=>zd (zgj L) λ u=>zd (zja r) λ l=>some (u::l)
 | _=>none
theorem zij:∀ {l:List D} {r:List (List Nat)},zja l=some r→l=yr r
 | [],r,h=>by cases h; rfl
 | x::l,r,h=>by
  unfold zja at h;split at h
  ·rename_i he; cases he
  ·rename_i L r' he;cases he;obtain ⟨u,hu,h⟩:=zb h;obtain ⟨q,hq,h⟩:=zb h;cases h;rw [zij hq,zdq hu]; rfl
  ·cases h
theorem zrp:∀ us:List (List Nat),zja (yr us)=some us
 | []=>rfl
 | u::us=>by
  show zd (zgj (nI u)) _=_;rw [zgy,qr];show zd (zja (yr us)) _=_;rw [zrp us]; rfl
def zs2(us:List (List Nat))(B:List Bool)(i:Nat):Bool:=!B.getD i false&&!(Sp.row us i).any λ k=>!B.getD k false
def zhe(us:List (List Nat))(B:List Bool):Nat→Nat→Option Nat
 | 0,_=>none
 | d+1,i=>bif zs2 us B i then some i else zhe us B d (i+1)
def z4k:Option Nat→Int | some i=>i | none=>-1
theorem m53(us:List (List Nat))(B:List Bool)(hul:us.length<4294967296)(hB:B.length=us.length)(hU:zaj us)(hs:∀ u∈us,yj u=true):zh cx 53 [.ptr 0 0,.ptr 1 0] (psO (.sl 1 (yr us)) (bD B))=some (.ret (mkI (z4k (zhe us B us.length 0))),psO (.sl 1 (yr us)) (bD B)):=by
 refine zl z0z (N:=us.length+1) ?_;obtain ⟨N,hN⟩:∃ N,N=us.length+1:=⟨_,rfl⟩;rw [yco,show (List.map (λ u=>D.sl 1 (nI u)) us).length=us.length from pf _,←hN]
 have key:∀ (d i k:Nat),i+d=us.length→d<k→LP cx (bK 54 zcz p54 mkB (CK.plain zo)) N 53 3 2 k [(1,V.ptr 1 0),(5,V.d (D.sl 1 (yr us))),(6,V.d (D.int .i64 (us.length:Int))),(7,V.d (D.int .i64 (i:Int)))] [(0,Ob.val 1 (V.d (D.sl 1 (yr us)))),(1,Ob.val 1 (V.slo 2 1 (bD B).length)),(2,Ob.row (bD B))] (AK cx (bK 54 zcz p54 mkB (CK.plain zo)) N 53 3 2 (EK cx 53 3)) =
   some (.ret (mkI (z4k (zhe us B d i))),psO (.sl 1 (yr us)) (bD B)):=by
  intro d
  induction d with
  | zero=>
   intro i k hi hk;obtain ⟨k,rfl⟩:∃ k',k=k'+1:=⟨k - 1,by omega⟩
   obtain rfl:i=us.length:=by omega
   refine (ya3 p54 N k us (bD B) us.length).trans ?_;rw [xu,cond_false];rfl
  | succ d ih=>
   intro i k hi hk;obtain ⟨k,rfl⟩:∃ k',k=k'+1:=⟨k - 1,by omega⟩
   have hil:i<us.length:=by omega
   have hih:=ih (i+1) k (by omega) (by omega)
   have hBi:=pr (show i<B.length by omega)
   generalize B[i]'(show i<B.length by omega)=b at hBi
   have g1:B.getD i false=b:=by rw [List.getD_eq_getElem?_getD,hBi]; rfl
   have hui:=pr hil;have hmem:=List.getElem_mem hil;generalize us[i]=u at hui hmem;have g3:Sp.row us i=u:=by unfold Sp.row; rw [List.getD_eq_getElem?_getD,hui]; rfl
   have hbi:∀ {R:Type} {K:D→Option R},ze (bD B) (i:Int).toNat K=K (.bool b):=λ {R K}=>zmj (by rw [pm]; unfold bD; rw [List.getElem?_map,hBi]; rfl)
   have hul2:∀ {R:Type} {K:D→Option R},ze (List.map (λ u=>D.sl 1 (nI u)) us) (i:Int).toNat K=K (.sl 1 (nI u)):=λ {R K}=>zmj (by rw [pm]; exact zs4 hui)
   have hud:(List.map (λ u=>D.sl 1 (nI u)) us).length=us.length:=pf _;have d1:decide ((i:Int)<((bD B).length:Int))=true:=yh (by rw [zsu]; omega)
   refine (ya3 p54 N k us (bD B) i).trans ?_;rw [yh hil,cond_true,xe,hud,yh hil,Bool.and_self,xr,hul2,zyj,vm];simp only [cells3,Bool.true_or,cond_true];rw [d1,Bool.and_self,xr,Nat.beq_refl,xr,hbi,z78,vm];simp only;unfold zhe zs2;rw [g1,g3];cases b
   ·rw [Bool.not_false,cond_true,z6t (hs u hmem) (λ k hk=>by rw [hB]; exact hU u hmem k hk),qr,xr,Bool.true_and]
    cases u.any λ k=>!B.getD k false
    ·rfl
    ·rw [Bool.not_true,cond_false,cond_false,wu hil hul];exact hih
   ·rw [Bool.not_true,cond_false,Bool.false_and,cond_false,wu hil hul];exact hih
 refine Eq.trans ?_ (key us.length 0 N (by omega) (by omega))
 rfl
def zvb(B:List Bool)(o:List Nat):Prop:=∀ k,k<B.length→B.getD k false=decide (k∈o)
theorem z4o{us:List (List Nat)}(hU:zaj us){B:List Bool}(hB:B.length=us.length){o:List Nat}(h:zvb B o){i:Nat}(hi:i<us.length):zs2 us B i=zew us o i:=by
 unfold zs2 zew;rw [h i (by omega)]
 congr 1;have:∀ u:List Nat,(∀ k∈u,k<us.length)→(!u.any λ k=>!B.getD k false)=u.all λ k=>decide (k∈o):=λ u=>by
  induction u with
  | nil=>intro _; rfl
  | cons a u ih=>
   intro hu;have ih:=ih λ k hk=>hu k (pp _ hk);rw [List.any_cons,List.all_cons,←ih,h a (by rw [hB]; exact hu a (pn ..))]
   cases decide (a∈o) <;> simp
 exact this _ λ k hk=>hU.row hk
theorem zxy{us:List (List Nat)}(hU:zaj us){B:List Bool}(hB:B.length=us.length){o:List Nat}(h:zvb B o):∀ (d i:Nat),i+d≤us.length→zhe us B d i=zdz us o d i
 | 0,_,_=>rfl
 | d+1,i,hi=>by
  unfold zhe zdz;rw [z4o hU hB h (by omega),zxy hU hB h d (i+1) (by omega)]
theorem zyr{B:List Bool}{o:List Nat}(h:zvb B o){i:Nat}(_hi:i<B.length):zvb (B.set i true) (o++[i]):=by
 intro k hk;rw [List.length_set] at hk;rw [List.getD_eq_getElem?_getD,List.getElem?_set];by_cases e:i=k
 ·subst e;rw [if_pos rfl,if_pos hk];simp
 ·rw [if_neg e,←List.getD_eq_getElem?_getD,h k hk];simp only [List.mem_append,List.mem_singleton];rw [Bool.eq_iff_iff,decide_eq_true_iff,decide_eq_true_iff];constructor
  ·exact .inl
  ·rintro (h | h)
   ·exact h
   ·exact absurd h.symm e
def zcb(l:List T):List Nat×Int:=bif decide (Sp.wr l=0) then zxa (ql l) else ([],Sp.wr l)
def zvv(x:D)(L:List D):Option Int:=zd (zg8 L) λ B=>(match x with | .sl 1 X=>zd (zja X) λ us=>za (decide (us.length<4294967296)&&decide (B.length=us.length)&&us.all λ u=>yj u&&u.all λ k=>decide (k<us.length)) (some (z4k (zhe us B us.length 0))) | _=>none)
theorem znt{us:List (List Nat)}:(us.all λ u=>yj u&&u.all λ k=>decide (k<us.length))=true↔zaj us∧∀ u∈us,yj u=true:=by
 rw [List.all_eq_true];constructor
 ·intro h;refine ⟨λ u hu k hk=>?_,λ u hu=>?_⟩
  ·have:=h u hu;rw [ph] at this;exact pc (List.all_eq_true.1 this.2 k hk)
  ·have:=h u hu;rw [ph] at this;exact this.1
 ·rintro ⟨h1,h2⟩ u hu;rw [h2 u hu,Bool.true_and];exact List.all_eq_true.2 λ k hk=>pa (h1 u hu k hk)
theorem z4p{us:List (List Nat)}{B:List Bool}(h1:us.length<4294967296)(hB:B.length=us.length)(hU:zaj us)(hs:∀ u∈us,yj u=true):zvv (.sl 1 (yr us)) (bD B)=some (z4k (zhe us B us.length 0)):=by
 unfold zvv;rw [zfb,qr];show zd (zja (yr us)) _=_;rw [zrp,qr,pa h1,pa hB,znt.2 ⟨hU,hs⟩];rfl
theorem zww{a:List V}{σ:St}{x:D}{B:List D}{n:Nat}(h:z3k a σ=some (x,(B,n)))(hn:Nat.beq n B.length=true):a=[.ptr 0 0,.ptr 1 0]∧σ=psO x B:=by
 unfold z3k at h;split at h
 ·unfold pdO at h;split at h
  ·cases h;obtain rfl:=pg hn;exact ⟨rfl,rfl⟩
  ·cases h
 ·cases h
theorem z03:knows cx (zpu u24 zvv).S (zh cx):=zj (wi zq λ a σ q r hd h=>by
  obtain ⟨x,B,n⟩:=q;obtain ⟨i,hi,h⟩:=zb h;obtain ⟨hn,h⟩:=zc h;cases h;obtain ⟨rfl,rfl⟩:=zww hd hn;obtain ⟨C,hC,hi⟩:=zb hi;split at hi
  ·obtain ⟨us,hus,hi⟩:=zb hi;obtain ⟨h1,hi⟩:=zc hi;cases hi;rename_i X heq _ _ _;obtain rfl:x=.sl 1 X:=heq;rw [ph,ph,znt] at h1;have hC:B=bD C:=zcn hC;subst hC;rw [zij hus];exact m53 us C (pc h1.1.1) (pc h1.1.2) h1.2.1 h1.2.2
  ·cases hi) λ a q b hd h hb=>zpw h hb
theorem z2c(N:Nat)(l:List T)(us:List (List Nat))(hl:l.length<4294967295)(hul:us.length=l.length)(hU:zaj us)(hs:∀ u∈us,yj u=true):∀ (d k:Nat) (o:List Nat) (B:List Bool),o.length+d=us.length→d<k→B.length=us.length→zvb B o →
  LP cx (zpu u24 zvv) N 26 0 7 k [(0,V.d (D.sl 5 (T.ds l))),(6,V.sl 1 (nI o) 6),(7,V.ptr 7 0),(8,V.func 53 [V.ptr 4 0,V.ptr 7 0])] [(6,Ob.tok (nI o).length),(7,Ob.val 1 (V.slo 20 1 (bD B).length)),(20,Ob.row (bD B)),(4,Ob.val 1 (V.d (D.sl 1 (yr us))))] (AK cx (zpu u24 zvv) N 26 0 7 (EK cx 26 0)) =
  some (.ret (match zbm us us.length d o with | some o=>mk2 (nI o,0) | none=>mk2 ([],272)),[])
 | 0,k,o,B,ho,hk,hB,ht=>by
  obtain ⟨k,rfl⟩:∃ k',k=k'+1:=⟨k - 1,by omega⟩
  refine (ya7 u24 zvv N k l (yr us) (nI o) (bD B)).trans ?_;rw [ya,zcs,show o.length=l.length by omega,xu,cond_false]
  rfl
 | d+1,k,o,B,ho,hk,hB,ht=>by
  obtain ⟨k,rfl⟩:∃ k',k=k'+1:=⟨k - 1,by omega⟩
  refine (ya7 u24 zvv N k l (yr us) (nI o) (bD B)).trans ?_;rw [ya,pa (p:=((nI o).length:Int)<(l.length:Int)) (by rw [zcs]; omega),cond_true]
  rw [z4p (by omega) hB hU hs,qr,Nat.beq_refl,xr,zxy hU hB ht us.length 0 (by omega)]
  unfold zbm;cases hx:zdz us o us.length 0 with
  | none=>rfl
  | some i=>
   obtain ⟨_,h2,h3⟩:=zjt hx;have hiB:i<B.length:=by omega
   have e0:decide ((i:Int)<0)=false:=pb (by omega)
   have h4:nI (o++[i])=nI o++[D.int .i64 (i:Int)]:=by unfold nI; rw [List.map_append]; rfl
   have ih:=z2c N l us hl hul hU hs d k (o++[i]) (B.set i true) (by simp; omega) (by omega) (by simp [hB]) (zyr ht hiB)
   rw [h4,←z8b,List.length_set,pe] at ih;show (bif decide ((i:Int)<0) then _ else za (decide (0≤(i:Int))&&decide ((i:Int)<((bD B).length:Int))) (za (true&&true&&true) (za (decide ((nI o).length=(nI o).length)&&decide ((nI o).length+[D.int .i64 (i:Int)].length≤4294967296)) _)))=_;rw [e0,cond_false,xe,yh (by rw [zsu]; exact hiB),Bool.and_self,xr,Bool.and_self,xr,pa (p:=(nI o).length=(nI o).length) rfl,pa (p:=(nI o).length+[D.int .i64 (i:Int)].length≤4294967296) (by rw [zcs]; simp only [List.length_cons,List.length_nil]; omega),Bool.and_self,xr]
   exact ih
theorem m26(l:List T)(hg:zef l=true):zh cx 26 [.d (.sl 5 (T.ds l))] []=some (.ret (mk2 (nI (zcb l).1,(zcb l).2)),[]):=by
 unfold zcb;obtain ⟨h1,h2,h3⟩:=zbx.1 hg;have hlb:=zk0 l;have hl:l.length≤65536:=by omega
 have hul:=zkh l;refine zl z03 (N:=l.length+1) ?_;rw [ycu,z1e hg,qr];unfold zc7;cases hw:decide (Sp.wr l=0)
 ·simp only [cond_false,hw,Bool.not_false,cond_true];rfl
 ·have hl2:decide ((l.length:Int)≤4294967296)=true:=pa (by omega)
  simp only [cond_true,decide_true,Bool.not_true,cond_false,ya,Int.le_refl,hl2,Bool.and_self,xr,pm,z8w,z8c];have h:=z2c (l.length+1) l (ql l) (by omega) hul (zck l) (zym (by omega)) l.length (l.length+1) [] (List.replicate l.length false) (by simp [hul]) (by omega) (by simp [hul]) (λ k hk=>by
   rw [List.length_replicate] at hk;rw [List.getD_eq_getElem?_getD,List.getElem?_replicate,if_pos hk];simp)
  rw [zsu,List.length_replicate] at h;refine Eq.trans ?_ (h.trans ?_)
  ·rfl
  ·unfold zxa;rw [hul];cases zbm (ql l) l.length l.length [] <;> rfl
theorem zqk{l:List Nat}{j x:Nat}(hx:l[j]?=some x){R:Type}{K:D→Option R}:ze (nI l) (j:Int).toNat K=K (.int .i64 (x:Int)):=by
 rw [zjv,pm,hx]; rfl
theorem z1c{us:List (List Nat)}{j:Nat}{u:List Nat}(hu:us[j]?=some u){R:Type}{K:D→Option R}:ze (yr us) (j:Int).toNat K=K (.sl 1 (nI u)):=zmj (by rw [pm]; exact zs4 hu)
theorem zq0{S:CK R1}(hS:knows cx S.S (zh cx)):knows cx (zx 25 zid (λ q=>h50 q.1 q.2) mkB S).S (zh cx):=zj hS λ a q b hd h hb=>by
 obtain ⟨l,h1,h2,rfl⟩:=z2s hb;rw [zi0 h,h1];exact m25 l q.2 h2
theorem zat(l:List Nat):(List.map (λ k:Nat=>D.int .i64 (k:Int)) l).length=l.length:=pf _
theorem zfd(us:List (List Nat)):(List.map (λ u=>D.sl 1 (nI u)) us).length=us.length:=pf _
theorem z06(l:List T):Sp.wr l=0∨Sp.wr l=61∨Sp.wr l=270:=by
 unfold Sp.wr;cases l.all yq
 ·exact .inr (.inl rfl)
 ·cases zcc [] (nmL l)
  ·exact .inl rfl
  ·exact .inr (.inr rfl)
theorem yct(h:D→Int→Option Bool)(n:Nat)(us:List (List Nat)):zk cx (y6 h) n 27 [.d (.sl 1 (yr us))] []=LP cx (y6 h) n 27 0 2 n [(0,V.d (D.sl 1 (List.map (λ u=>D.sl 1 (nI u)) us))),(11,V.d (D.int .i64 (↑(List.map (λ u=>D.sl 1 (nI u)) us).length:Int))),(12,V.d (D.int .i64 (0:Int)))] [] (AK cx (y6 h) n 27 0 2 (EK cx 27 0)):=by kernel_rfl
theorem ya6(h:D→Int→Option Bool)(n k:Nat)(us:List (List Nat))(i:Int):LP cx (y6 h) n 27 0 2 (k+1) [(0,V.d (D.sl 1 (yr us))),(11,V.d (D.int .i64 (us.length:Int))),(12,V.d (D.int .i64 i))] [] (AK cx (y6 h) n 27 0 2 (EK cx 27 0))=bif decide (i<(↑us.length:Int)) then za (decide (0≤i)&&decide (i<(↑(List.map (λ u=>D.sl 1 (nI u)) us).length:Int))) (ze (List.map (λ u=>D.sl 1 (nI u)) us) i.toNat λ y=>ze y.cells 0 λ c=>match c with
 | D.sl s l=>bif s.beq (cx.P.cellsOf 3)||l.isEmpty then LP cx (y6 h) n 27 0 6 n [(0,V.d (D.sl 1 (List.map (λ u=>D.sl 1 (nI u)) us))),(3,V.d (D.int .i64 i)),(4,V.sl 1 [] 15),(11,V.d (D.int .i64 (↑us.length:Int))),(12,V.d (D.int .i64 i)),(19,V.d (D.sl 1 l)),(20,V.d (D.int .i64 (↑l.length:Int))),(21,V.d (D.int .i64 (0:Int)))] [(15,Ob.tok 0)] (AL cx (y6 h) n 27 0 2 6 (inK cx (y6 h) n 27 0 2 k (AK cx (y6 h) n 27 0 2 (EK cx 27 0)))) else none
 | x=>none) else some (Out.ret (V.d (D.bool false)),[]):=by kernel_rfl
theorem z6b(h:D→Int→Option Bool)(n k m:Nat)(us:List (List Nat))(w:List Nat)(L:List D)(i j:Int):LP cx (y6 h) n 27 0 6 (m+1) [(0,V.d (D.sl 1 (yr us))),(3,V.d (D.int .i64 i)),(4,V.sl 1 L 15),(11,V.d (D.int .i64 (us.length:Int))),(12,V.d (D.int .i64 i)),(19,V.d (D.sl 1 (nI w))),(20,V.d (D.int .i64 (w.length:Int))),(21,V.d (D.int .i64 j))] [(15,Ob.tok L.length)] (AL cx (y6 h) n 27 0 2 6 (inK cx (y6 h) n 27 0 2 k (AK cx (y6 h) n 27 0 2 (EK cx 27 0))))=bif decide (j<(↑w.length:Int)) then za (decide (0≤j)&&decide (j<(↑(List.map (λ k:Nat=>D.int .i64 (k:Int)) w).length:Int))) (ze (List.map (λ k:Nat=>D.int .i64 (k:Int)) w) j.toNat λ y=>ze y.cells 0 λ c=>match c with
 | D.int k' n_1=>bif decide (k'=IntKind.i64) then za (decide (L.length=L.length)&&decide (L.length+[D.int .i64 n_1].length≤4294967296)) (LP cx (y6 h) n 27 0 6 m [(0,V.d (D.sl 1 (List.map (λ u=>D.sl 1 (nI u)) us))),(3,V.d (D.int .i64 i)),(4,V.sl 1 (L++[D.int .i64 n_1]) 15),(11,V.d (D.int .i64 (↑us.length:Int))),(12,V.d (D.int .i64 i)),(19,V.d (D.sl 1 (List.map (λ k:Nat=>D.int .i64 (k:Int)) w))),(20,V.d (D.int .i64 (↑w.length:Int))),(21,V.d (D.int .i64 (IntKind.i64.wrap (j+(1:Int)))))] [(15,Ob.tok (L.length+[D.int .i64 n_1].length))] (AL cx (y6 h) n 27 0 2 6 (inK cx (y6 h) n 27 0 2 k (AK cx (y6 h) n 27 0 2 (EK cx 27 0))))) else none
 | x=>none) else LP cx (y6 h) n 27 0 11 n [(0,V.d (D.sl 1 (List.map (λ u=>D.sl 1 (nI u)) us))),(3,V.d (D.int .i64 i)),(4,V.sl 1 L 15),(7,V.d (D.int .i64 (0:Int))),(11,V.d (D.int .i64 (↑us.length:Int))),(12,V.d (D.int .i64 i))] [(15,Ob.tok L.length)] (AL cx (y6 h) n 27 0 2 11 (inK cx (y6 h) n 27 0 2 k (AK cx (y6 h) n 27 0 2 (EK cx 27 0)))):=by kernel_rfl
theorem z6a(h:D→Int→Option Bool)(n k m:Nat)(us:List (List Nat))(L:List Nat)(i j:Int):LP cx (y6 h) n 27 0 11 (m+1) [(0,V.d (D.sl 1 (yr us))),(3,V.d (D.int .i64 i)),(4,V.sl 1 (nI L) 15),(7,V.d (D.int .i64 j)),(11,V.d (D.int .i64 (us.length:Int))),(12,V.d (D.int .i64 i))] [(15,Ob.tok (nI L).length)] (AL cx (y6 h) n 27 0 2 11 (inK cx (y6 h) n 27 0 2 k (AK cx (y6 h) n 27 0 2 (EK cx 27 0))))=bif decide (j<(↑(List.map (λ k:Nat=>D.int .i64 (k:Int)) L).length:Int)) then za (decide (0≤j)&&decide (j<(↑(List.map (λ k:Nat=>D.int .i64 (k:Int)) L).length:Int))) (ze (List.map (λ k:Nat=>D.int .i64 (k:Int)) L) j.toNat λ y=>ze y.cells 0 λ c=>match c with
 | D.int k' n_1=>bif decide (k'=IntKind.i64) then bif decide (n_1=i) then some (Out.ret (V.d (D.bool true)),[]) else za (decide (0≤j)&&decide (j<(↑(List.map (λ k:Nat=>D.int .i64 (k:Int)) L).length:Int))) (ze (List.map (λ k:Nat=>D.int .i64 (k:Int)) L) j.toNat λ y=>ze y.cells 0 λ c=>match c with
  | D.int k' n_2=>bif decide (k'=IntKind.i64) then za (decide (0≤n_2)&&decide (n_2<(↑(List.map (λ u=>D.sl 1 (nI u)) us).length:Int))) (ze (List.map (λ u=>D.sl 1 (nI u)) us) n_2.toNat λ y=>ze y.cells 0 λ c=>match c with
   | D.sl s l=>bif s.beq (cx.P.cellsOf 3)||l.isEmpty then LP cx (y6 h) n 27 0 16 n [(0,V.d (D.sl 1 (List.map (λ u=>D.sl 1 (nI u)) us))),(3,V.d (D.int .i64 i)),(4,V.sl 1 (List.map (λ k:Nat=>D.int .i64 (k:Int)) L) 15),(7,V.d (D.int .i64 j)),(11,V.d (D.int .i64 (↑us.length:Int))),(12,V.d (D.int .i64 i)),(48,V.d (D.sl 1 l)),(49,V.d (D.int .i64 (↑l.length:Int))),(50,V.d (D.int .i64 (0:Int)))] [(15,Ob.tok (nI L).length)] (AL cx (y6 h) n 27 0 11 16 (inK cx (y6 h) n 27 0 11 m (AL cx (y6 h) n 27 0 2 11 (inK cx (y6 h) n 27 0 2 k (AK cx (y6 h) n 27 0 2 (EK cx 27 0)))))) else none
   | x=>none) else none
  | x=>none) else none
 | x=>none) else LP cx (y6 h) n 27 0 2 k [(0,V.d (D.sl 1 (List.map (λ u=>D.sl 1 (nI u)) us))),(11,V.d (D.int .i64 (↑us.length:Int))),(12,V.d (D.int .i64 (IntKind.i64.wrap (i+(1:Int)))))] [] (AK cx (y6 h) n 27 0 2 (EK cx 27 0)):=by kernel_rfl
theorem z59(h:D→Int→Option Bool)(n k m p:Nat)(us:List (List Nat))(u L:List Nat)(i j q:Int):LP cx (y6 h) n 27 0 16 (p+1) [(0,V.d (D.sl 1 (yr us))),(3,V.d (D.int .i64 i)),(4,V.sl 1 (nI L) 15),(7,V.d (D.int .i64 j)),(11,V.d (D.int .i64 (us.length:Int))),(12,V.d (D.int .i64 i)),(48,V.d (D.sl 1 (nI u))),(49,V.d (D.int .i64 (u.length:Int))),(50,V.d (D.int .i64 q))] [(15,Ob.tok (nI L).length)] (AL cx (y6 h) n 27 0 11 16 (inK cx (y6 h) n 27 0 11 m (AL cx (y6 h) n 27 0 2 11 (inK cx (y6 h) n 27 0 2 k (AK cx (y6 h) n 27 0 2 (EK cx 27 0))))))=bif decide (q<(↑u.length:Int)) then za (decide (0≤q)&&decide (q<(↑(List.map (λ k:Nat=>D.int .i64 (k:Int)) u).length:Int))) (ze (List.map (λ k:Nat=>D.int .i64 (k:Int)) u) q.toNat λ y=>ze y.cells 0 λ c=>match c with
 | D.int k' n_1=>bif decide (k'=IntKind.i64) then zd (h (D.sl 1 (List.map (λ k:Nat=>D.int .i64 (k:Int)) L),n_1).fst (D.sl 1 (List.map (λ k:Nat=>D.int .i64 (k:Int)) L),n_1).snd) λ b=>bif !b then za (decide ((nI L).length=(List.map (λ k:Nat=>D.int .i64 (k:Int)) L).length)&&decide ((List.map (λ k:Nat=>D.int .i64 (k:Int)) L).length+[D.int .i64 n_1].length≤4294967296)) (LP cx (y6 h) n 27 0 16 p [(0,V.d (D.sl 1 (List.map (λ u=>D.sl 1 (nI u)) us))),(3,V.d (D.int .i64 i)),(4,V.sl 1 (List.map (λ k:Nat=>D.int .i64 (k:Int)) L++[D.int .i64 n_1]) 15),(7,V.d (D.int .i64 j)),(11,V.d (D.int .i64 (↑us.length:Int))),(12,V.d (D.int .i64 i)),(48,V.d (D.sl 1 (List.map (λ k:Nat=>D.int .i64 (k:Int)) u))),(49,V.d (D.int .i64 (↑u.length:Int))),(50,V.d (D.int .i64 (IntKind.i64.wrap (q+(1:Int)))))] [(15,Ob.tok ((List.map (λ k:Nat=>D.int .i64 (k:Int)) L).length+[D.int .i64 n_1].length))] (AL cx (y6 h) n 27 0 11 16 (inK cx (y6 h) n 27 0 11 m (AL cx (y6 h) n 27 0 2 11 (inK cx (y6 h) n 27 0 2 k (AK cx (y6 h) n 27 0 2 (EK cx 27 0))))))) else LP cx (y6 h) n 27 0 16 p [(0,V.d (D.sl 1 (List.map (λ u=>D.sl 1 (nI u)) us))),(3,V.d (D.int .i64 i)),(4,V.sl 1 (List.map (λ k:Nat=>D.int .i64 (k:Int)) L) 15),(7,V.d (D.int .i64 j)),(11,V.d (D.int .i64 (↑us.length:Int))),(12,V.d (D.int .i64 i)),(48,V.d (D.sl 1 (List.map (λ k:Nat=>D.int .i64 (k:Int)) u))),(49,V.d (D.int .i64 (↑u.length:Int))),(50,V.d (D.int .i64 (IntKind.i64.wrap (q+(1:Int)))))] [(15,Ob.tok (nI L).length)] (AL cx (y6 h) n 27 0 11 16 (inK cx (y6 h) n 27 0 11 m (AL cx (y6 h) n 27 0 2 11 (inK cx (y6 h) n 27 0 2 k (AK cx (y6 h) n 27 0 2 (EK cx 27 0)))))) else none
 | x=>none) else LP cx (y6 h) n 27 0 11 m [(0,V.d (D.sl 1 (List.map (λ u=>D.sl 1 (nI u)) us))),(3,V.d (D.int .i64 i)),(4,V.sl 1 (List.map (λ k:Nat=>D.int .i64 (k:Int)) L) 15),(7,V.d (D.int .i64 (IntKind.i64.wrap (j+(1:Int))))),(11,V.d (D.int .i64 (↑us.length:Int))),(12,V.d (D.int .i64 i))] [(15,Ob.tok (nI L).length)] (AL cx (y6 h) n 27 0 2 11 (inK cx (y6 h) n 27 0 2 k (AK cx (y6 h) n 27 0 2 (EK cx 27 0)))):=by kernel_rfl
theorem ag8(w:Option Bool)(g:D→Option Bool)(o v:D→Option (List D×Int))(r:D→Option Bool)(h:D→Int→Option Bool)(n:Nat)(l:List T):zk cx (K8n w g o v r h) n 8 [.d (.sl 5 (T.ds l))] []=zd w λ b=>bif !b then some (Out.ret (V.d (D.bool false)),[]) else zd (g (D.sl 5 (T.ds l))) λ b=>bif b then some (Out.ret (V.d (D.bool true)),[]) else zd (o (D.sl 5 (T.ds l))) λ b=>zd (v (D.sl 5 (T.ds l))) λ b_1=>bif !decide (b_1.snd=(0:Int)) then bif decide (b.snd=b_1.snd) then some (Out.ret (V.d (D.bool (decide ((↑b.1.length:Int)=(0:Int))))),[]) else some (Out.ret (V.d (D.bool false)),[]) else bif !decide ((↑b_1.1.length:Int)=(↑(T.ds l).length:Int)) then bif decide (b.snd=b_1.snd) then some (Out.ret (V.d (D.bool (decide ((↑b.1.length:Int)=(0:Int))))),[]) else some (Out.ret (V.d (D.bool false)),[]) else bif !decide (b.snd=(0:Int)) then bif decide (b.snd=(272:Int)) then zd (r (D.sl 1 b_1.1)) λ b=>some (Out.ret (V.d (D.bool b)),[]) else some (Out.ret (V.d (D.bool false)),[]) else LP cx (K8n w g o v r h) n 8 0 13 n [(0,V.d (D.sl 5 (T.ds l))),(5,V.d (D.sl 1 b_1.1)),(7,V.sl 1 [] 7),(51,V.d (D.sl 1 b.1)),(52,V.d (D.int .i64 (↑b.1.length:Int))),(53,V.d (D.int .i64 (0:Int)))] [(7,Ob.tok 0)] (AK cx (K8n w g o v r h) n 8 0 13 (EK cx 8 0)):=by kernel_rfl
theorem al8(w:Option Bool)(g:D→Option Bool)(o v:D→Option (List D×Int))(r:D→Option Bool)(h:D→Int→Option Bool)(n k:Nat)(l:List T)(od:List Nat)(us:List (List Nat))(L:List D)(i:Int):LP cx (K8n w g o v r h) n 8 0 13 (k+1) [(0,V.d (D.sl 5 (T.ds l))),(5,V.d (D.sl 1 (yr us))),(7,V.sl 1 L 7),(51,V.d (D.sl 1 (nI od))),(52,V.d (D.int .i64 (od.length:Int))),(53,V.d (D.int .i64 i))] [(7,Ob.tok L.length)] (AK cx (K8n w g o v r h) n 8 0 13 (EK cx 8 0))=bif decide (i<(↑od.length:Int)) then za (decide (0≤i)&&decide (i<(↑(List.map (λ k:Nat=>D.int .i64 (k:Int)) od).length:Int))) (ze (List.map (λ k:Nat=>D.int .i64 (k:Int)) od) i.toNat λ y=>ze y.cells 0 λ c=>match c with
 | D.int k' n_1=>bif decide (k'=IntKind.i64) then bif decide (n_1<(0:Int)) then some (Out.ret (V.d (D.bool false)),[]) else bif decide ((↑(T.ds l).length:Int)≤n_1) then some (Out.ret (V.d (D.bool false)),[]) else zd (h (D.sl 1 L,n_1).fst (D.sl 1 L,n_1).snd) λ b=>bif b then some (Out.ret (V.d (D.bool false)),[]) else za (decide (0≤n_1)&&decide (n_1<(↑(List.map (λ u=>D.sl 1 (nI u)) us).length:Int))) (ze (List.map (λ u=>D.sl 1 (nI u)) us) n_1.toNat λ y=>ze y.cells 0 λ c=>match c with
  | D.sl s l_1=>bif s.beq (cx.P.cellsOf 3)||l_1.isEmpty then LP cx (K8n w g o v r h) n 8 0 18 n [(0,V.d (D.sl 5 (T.ds l))),(5,V.d (D.sl 1 (List.map (λ u=>D.sl 1 (nI u)) us))),(7,V.sl 1 L 7),(9,V.d (D.int .i64 n_1)),(51,V.d (D.sl 1 (List.map (λ k:Nat=>D.int .i64 (k:Int)) od))),(52,V.d (D.int .i64 (↑od.length:Int))),(53,V.d (D.int .i64 i)),(73,V.d (D.sl 1 l_1)),(74,V.d (D.int .i64 (↑l_1.length:Int))),(75,V.d (D.int .i64 (0:Int)))] [(7,Ob.tok L.length)] (AL cx (K8n w g o v r h) n 8 0 13 18 (inK cx (K8n w g o v r h) n 8 0 13 k (AK cx (K8n w g o v r h) n 8 0 13 (EK cx 8 0)))) else none
  | x=>none) else none
 | x=>none) else some (Out.ret (V.d (D.bool (decide ((↑L.length:Int)=(↑(T.ds l).length:Int))))),[]):=by kernel_rfl
theorem ya1(w:Option Bool)(g:D→Option Bool)(o v:D→Option (List D×Int))(r:D→Option Bool)(h:D→Int→Option Bool)(n k m:Nat)(l:List T)(od u:List Nat)(us:List (List Nat))(L:List D)(i x j:Int):LP cx (K8n w g o v r h) n 8 0 18 (m+1) [(0,V.d (D.sl 5 (T.ds l))),(5,V.d (D.sl 1 (yr us))),(7,V.sl 1 L 7),(9,V.d (D.int .i64 x)),(51,V.d (D.sl 1 (nI od))),(52,V.d (D.int .i64 (od.length:Int))),(53,V.d (D.int .i64 i)),(73,V.d (D.sl 1 (nI u))),(74,V.d (D.int .i64 (u.length:Int))),(75,V.d (D.int .i64 j))] [(7,Ob.tok L.length)] (AL cx (K8n w g o v r h) n 8 0 13 18 (inK cx (K8n w g o v r h) n 8 0 13 k (AK cx (K8n w g o v r h) n 8 0 13 (EK cx 8 0))))=bif decide (j<(↑u.length:Int)) then za (decide (0≤j)&&decide (j<(↑(List.map (λ k:Nat=>D.int .i64 (k:Int)) u).length:Int))) (ze (List.map (λ k:Nat=>D.int .i64 (k:Int)) u) j.toNat λ y=>ze y.cells 0 λ c=>match c with
 | D.int k' n_1=>bif decide (k'=IntKind.i64) then zd (h (D.sl 1 L,n_1).fst (D.sl 1 L,n_1).snd) λ b=>bif !b then some (Out.ret (V.d (D.bool false)),[]) else LP cx (K8n w g o v r h) n 8 0 18 m [(0,V.d (D.sl 5 (T.ds l))),(5,V.d (D.sl 1 (List.map (λ u=>D.sl 1 (nI u)) us))),(7,V.sl 1 L 7),(9,V.d (D.int .i64 x)),(51,V.d (D.sl 1 (List.map (λ k:Nat=>D.int .i64 (k:Int)) od))),(52,V.d (D.int .i64 (↑od.length:Int))),(53,V.d (D.int .i64 i)),(73,V.d (D.sl 1 (List.map (λ k:Nat=>D.int .i64 (k:Int)) u))),(74,V.d (D.int .i64 (↑u.length:Int))),(75,V.d (D.int .i64 (IntKind.i64.wrap (j+(1:Int)))))] [(7,Ob.tok L.length)] (AL cx (K8n w g o v r h) n 8 0 13 18 (inK cx (K8n w g o v r h) n 8 0 13 k (AK cx (K8n w g o v r h) n 8 0 13 (EK cx 8 0)))) else none
 | x=>none) else za (decide (L.length=L.length)&&decide (L.length+[D.int .i64 x].length≤4294967296)) (LP cx (K8n w g o v r h) n 8 0 13 k [(0,V.d (D.sl 5 (T.ds l))),(5,V.d (D.sl 1 (List.map (λ u=>D.sl 1 (nI u)) us))),(7,V.sl 1 (L++[D.int .i64 x]) 7),(51,V.d (D.sl 1 (List.map (λ k:Nat=>D.int .i64 (k:Int)) od))),(52,V.d (D.int .i64 (↑od.length:Int))),(53,V.d (D.int .i64 (IntKind.i64.wrap (i+(1:Int)))))] [(7,Ob.tok (L.length+[D.int .i64 x].length))] (AK cx (K8n w g o v r h) n 8 0 13 (EK cx 8 0))):=by kernel_rfl
theorem z02:knows cx (y6 h50).S (zh cx):=zq0 zq
def L27(N k:Nat)(us:List (List Nat))(i:Int):Option R1:=
 LP cx (y6 h50) N 27 0 2 k [(0,V.d (D.sl 1 (yr us))),(11,V.d (D.int .i64 (us.length:Int))),(12,V.d (D.int .i64 i))] [] (AK cx (y6 h50) N 27 0 2 (EK cx 27 0))
def z0o(N k m:Nat)(us:List (List Nat))(w p:List Nat)(i j:Int):Option R1:=
 LP cx (y6 h50) N 27 0 6 m [(0,V.d (D.sl 1 (yr us))),(3,V.d (D.int .i64 i)),(4,V.sl 1 (nI p) 15),(11,V.d (D.int .i64 (us.length:Int))),(12,V.d (D.int .i64 i)),(19,V.d (D.sl 1 (nI w))),(20,V.d (D.int .i64 (w.length:Int))),(21,V.d (D.int .i64 j))] [(15,Ob.tok (nI p).length)] (AL cx (y6 h50) N 27 0 2 6 (inK cx (y6 h50) N 27 0 2 k (AK cx (y6 h50) N 27 0 2 (EK cx 27 0))))
def zxb(N k m:Nat)(us:List (List Nat))(o:List Nat)(i j:Int):Option R1:=
 LP cx (y6 h50) N 27 0 11 m [(0,V.d (D.sl 1 (yr us))),(3,V.d (D.int .i64 i)),(4,V.sl 1 (nI o) 15),(7,V.d (D.int .i64 j)),(11,V.d (D.int .i64 (us.length:Int))),(12,V.d (D.int .i64 i))] [(15,Ob.tok (nI o).length)] (AL cx (y6 h50) N 27 0 2 11 (inK cx (y6 h50) N 27 0 2 k (AK cx (y6 h50) N 27 0 2 (EK cx 27 0))))
def z0n(N k m p:Nat)(us:List (List Nat))(u o:List Nat)(i j q:Int):Option R1:=
 LP cx (y6 h50) N 27 0 16 p [(0,V.d (D.sl 1 (yr us))),(3,V.d (D.int .i64 i)),(4,V.sl 1 (nI o) 15),(7,V.d (D.int .i64 j)),(11,V.d (D.int .i64 (us.length:Int))),(12,V.d (D.int .i64 i)),(48,V.d (D.sl 1 (nI u))),(49,V.d (D.int .i64 (u.length:Int))),(50,V.d (D.int .i64 q))] [(15,Ob.tok (nI o).length)] (AL cx (y6 h50) N 27 0 11 16 (inK cx (y6 h50) N 27 0 11 m (AL cx (y6 h50) N 27 0 2 11 (inK cx (y6 h50) N 27 0 2 k (AK cx (y6 h50) N 27 0 2 (EK cx 27 0))))))
theorem zr5(o:List Nat)(i:Nat):nI (o++[i])=nI o++[D.int .i64 (i:Int)]:=by unfold nI; rw [List.map_append]; rfl
theorem zx3(N k:Nat)(us:List (List Nat))(w:List Nat)(i:Int)(hw:w.length<4294967295):∀ (r p:List Nat) (j m:Nat),w.drop j=r→j≤w.length→p.length=j→r.length<m →
  z0o N k m us w p i j=zxb N k N us (p++r) i 0
 | [],p,j,m,hd,hj,hp,hm=>by
  obtain ⟨m,rfl⟩:∃ k',m=k'+1:=⟨m - 1,by omega⟩
  have:w.length≤j:=by simpa using hd
  obtain rfl:j=w.length:=by omega
  unfold z0o;refine (z6b h50 N k m us w (nI p) i w.length).trans ?_;rw [xu,cond_false,List.append_nil];rfl
 | y::r,p,j,m,hd,hj,hp,hm=>by
  obtain ⟨m,rfl⟩:∃ k',m=k'+1:=⟨m - 1,by omega⟩
  obtain ⟨h1,h2,h3⟩:=zca hd;have ih:=zx3 N k us w i hw r (p++[y]) (j+1) m h3 h1 (by simp [hp]) (by simp at hm; omega)
  unfold z0o;refine (z6b h50 N k m us w (nI p) i j).trans ?_;rw [yh h1,cond_true,xe,zat,yh h1,Bool.and_self,xr];refine (zqk h2).trans ?_;rw [zoq,vm];simp only [decide_true,cond_true];rw [wu h1 (by omega),pa (p:=(nI p).length+[D.int .i64 (y:Int)].length≤4294967296) (by rw [zcs]; simp only [List.length_cons,List.length_nil]; omega),Bool.and_self,xr]
  rw [List.append_assoc] at ih;unfold z0o at ih;rw [zr5,pe] at ih;exact ih
theorem z4t(N k m:Nat)(us:List (List Nat))(u:List Nat)(hul:us.length<4294967295)(hu:∀ x∈u,x<us.length)(huN:u.length<N)(hN:N≤4294967296)(i:Int)(j:Nat)(hj:j<4294967296)(o:List Nat)(hn:o.Nodup)(hl:∀ x∈o,x<us.length) :
  z0n N k m N us u o i j 0=zxb N k m us (w0 o u) i (j+1:Nat):=by
 have h:=zht (λ p q (o:List Nat)=>z0n N k m p us u o i j q)
  u Sp.addN (λ _ o=>o.Nodup∧∀ x∈o,x<us.length) (λ o=>zxb N k m us o i (j+1:Nat)) (by omega)
  (λ p a x o ha hx hI=>by
   have hxl:x<us.length:=hu x (po hx);have hol:=zdg hI.1 hI.2;obtain ⟨a1,a2,_⟩:=zrm (i:=x) hI.1;refine ⟨?_,a1,λ y hy=>?_⟩
   ·unfold z0n;refine (z59 h50 N k m p us u o i j a).trans ?_;rw [yh ha,cond_true,xe,zat,yh ha,Bool.and_self,xr];refine (zqk hx).trans ?_;rw [zoq,vm];simp only [decide_true,cond_true];have e:h50 (.sl 1 (List.map (λ k:Nat=>D.int .i64 (k:Int)) o)) (x:Int)=some (decide (x∈o)):=by
     have:=zwc (a:=(x:Int)) (zjh (show o.length<4294967296 by omega))
     rw [znh] at this;exact this
    rw [e,qr];unfold Sp.addN;by_cases hm:x∈o
    ·rw [pa hm,if_pos hm,Bool.not_true,cond_false];rfl
    ·rw [pb hm,if_neg hm,Bool.not_false,cond_true,zr5];rw [zat,pa (p:=o.length+[D.int .i64 (x:Int)].length≤4294967296) (by simp only [List.length_cons,List.length_nil]; omega),Bool.and_self,xr,pe,zcs]
     rfl
   ·rcases (a2 y).1 hy with h | h
    ·exact hI.2 y h
    ·omega)
  (λ p o=>by
   unfold z0n;refine (z59 h50 N k m p us u o i j u.length).trans ?_;rw [xu,cond_false,IntWalk.i64_in ((j:Int)+1) (by omega)]
   rfl) (s:=o) ⟨hn,hl⟩ (k:=N) huN
 refine h.trans ?_;have:∀ (u o:List Nat),u.foldl Sp.addN o=w0 o u:=λ u=>by
  induction u with
  | nil=>intro o; rfl
  | cons a u ih=>intro o; exact ih _
 rw [this]
theorem zx2(N k:Nat)(us:List (List Nat))(hul:us.length<4294967295)(hU:zaj us)(hs:∀ u∈us,u.length<N)(hN:N≤4294967296)(i:Nat):∀ (f j m:Nat) (o:List Nat),us.length≤f+j→j≤o.length→o.Nodup→(∀ x∈o,x<us.length)→f<m →
  zxb N k m us o i j=bif Sp.rg us i f j o then some (.ret (mkB true),[]) else L27 N k us (IntKind.i64.wrap ((i:Int)+1))
 | f,j,m,o,hf,hj,hn,hl,hm=>by
  obtain ⟨m,rfl⟩:∃ k',m=k'+1:=⟨m - 1,by omega⟩
  have hol:=zdg hn hl;cases hy:o[j]? with
  | none=>
   have:o.length≤j:=List.getElem?_eq_none_iff.1 hy;obtain rfl:j=o.length:=by omega
   have e:Sp.rg us i f o.length o=false:=by
    cases f with
    | zero=>rfl
    | succ f=>unfold Sp.rg; rw [hy]
   rw [e,cond_false];unfold zxb;refine (z6a h50 N k m us o i o.length).trans ?_;rw [zat,xu,cond_false];rfl
  | some y=>
   have hjl:=(pj.1 hy).1;have hyl:=hl y (po hy);cases f with
   | zero=>omega
   | succ f=>
    have hu:=pr hyl;have hmem:=List.getElem_mem hyl;generalize us[y]=u at hu hmem;have g3:Sp.row us y=u:=by unfold Sp.row; rw [List.getD_eq_getElem?_getD,hu]; rfl
    have e:Sp.rg us i (f+1) j o=bif decide (y=i) then true else Sp.rg us i f (j+1) (w0 o u):=by
     rw [Sp.rg,hy];simp only;rw [g3]
    rw [e];obtain ⟨a1,a2,r,a3⟩:=zhd u hn;have e2:zxb N k (m+1) us o i j=bif decide (y=i) then some (.ret (mkB true),[]) else z0n N k m N us u o i j 0:=by
     unfold zxb;refine (z6a h50 N k m us o i j).trans ?_;rw [zat,yh hjl,cond_true,xe,Bool.and_self,xr];refine (zqk hy).trans ?_;rw [zoq,vm];simp only [decide_true,cond_true];rw [z3f];cases decide (y=i)
     ·rw [cond_false,cond_false,xr];refine (zqk hy).trans ?_;rw [zoq,vm];simp only [decide_true,cond_true];rw [xe,zfd,yh hyl,Bool.and_self,xr];refine (z1c hu).trans ?_;rw [zyj,vm];simp only [cells3,Bool.true_or,cond_true];unfold z0n;rw [zcs u,zcs o];rfl
     ·rfl
    rw [e2];cases decide (y=i)
    ·rw [cond_false,cond_false,z4t N k m us u hul (hU u hmem) (hs u hmem) hN i j (by omega) o hn hl]
     exact zx2 N k us hul hU hs hN i f (j+1) m _ (by omega) (by rw [a3]; simp; omega) a1 (λ x hx=>by
      rcases (a2 x).1 hx with h | h
      ·exact hl x h
      ·exact hU u hmem x h) (by omega)
    ·rw [cond_true,cond_true,cond_true]
def zcq(us:List (List Nat)):Nat→Nat→Bool
 | 0,_=>false
 | d+1,i=>Sp.rg us i (us.length+1) 0 (Sp.row us i)||zcq us d (i+1)
theorem zm0{us:List (List Nat)}{i:Nat}(h:Sp.rg us i (us.length+1) 0 (Sp.row us i)=true):∀ (d i0:Nat),i0≤i→i<i0+d→zcq us d i0=true
 | 0,i0,h1,h2=>by omega
 | d+1,i0,h1,h2=>by
  unfold zcq;by_cases e:i0=i
  ·subst e; rw [h]; rfl
  ·rw [zm0 h d (i0+1) (by omega) (by omega),Bool.or_true]
theorem z2b(N:Nat)(us:List (List Nat))(hul:us.length<4294967295)(hU:zaj us)(hs:∀ u∈us,u.length<N)(hnd:∀ u∈us,u.Nodup)(hN:N≤4294967296)(hlN:us.length+1<N):∀ (d i k:Nat),i+d=us.length→d<k →
  L27 N k us i=some (.ret (mkB (zcq us d i)),[])
 | 0,i,k,hi,hk=>by
  obtain ⟨k,rfl⟩:∃ k',k=k'+1:=⟨k - 1,by omega⟩
  obtain rfl:i=us.length:=by omega
  unfold L27;refine (ya6 h50 N k us us.length).trans ?_;rw [xu,cond_false];rfl
 | d+1,i,k,hi,hk=>by
  obtain ⟨k,rfl⟩:∃ k',k=k'+1:=⟨k - 1,by omega⟩
  have hil:i<us.length:=by omega
  have ih:=z2b N us hul hU hs hnd hN hlN d (i+1) k (by omega) (by omega)
  have hu:=pr hil;have hmem:=List.getElem_mem hil;generalize us[i]=u at hu hmem;have g3:Sp.row us i=u:=by unfold Sp.row; rw [List.getD_eq_getElem?_getD,hu]; rfl
  have e1:L27 N (k+1) us i=z0o N k N us u [] i 0:=by
   unfold L27 z0o;refine (ya6 h50 N k us i).trans ?_;rw [yh hil,cond_true,xe,zfd,yh hil,Bool.and_self,xr];refine (z1c hu).trans ?_;rw [zyj,vm];simp only [cells3,Bool.true_or,cond_true];rw [zcs u];rfl
  have hun:=hs u hmem;have hule:=zdg (hnd u hmem) (hU u hmem);rw [e1];refine (zx3 N k us u i (by omega) u [] 0 N rfl (Nat.zero_le _) rfl hun).trans ?_
  rw [List.nil_append];refine (zx2 N k us hul hU hs hN i (us.length+1) 0 N u (by omega) (Nat.zero_le _) (hnd u hmem) (hU u hmem) (by omega)).trans ?_
  unfold zcq;rw [g3,wu hil (by omega),ih]
  cases Sp.rg us i (us.length+1) 0 u <;> rfl
theorem m27(us:List (List Nat))(hul:us.length<4294960000)(hU:zaj us)(hnd:∀ u∈us,u.Nodup):zh cx 27 [.d (.sl 1 (yr us))] []=some (.ret (mkB (zcq us us.length 0)),[]):=by
 refine zl z02 (N:=us.length+2) ?_;rw [yct,zfd];exact z2b (us.length+2) us (by omega) hU (λ u hu=>by have:=zdg (hnd u hu) (hU u hu); omega) hnd (by omega) (by omega) us.length 0 (us.length+2) (by omega) (by omega)
def r27(x:D):Option Bool:=match x with | .sl 1 X=>zd (zja X) λ us=>za (decide (us.length<4294960000)&&us.all λ u=>decide u.Nodup&&u.all λ k=>decide (k<us.length)) (some (zcq us us.length 0)) | _=>none
theorem z6m{us:List (List Nat)}(hul:us.length<4294960000)(hU:zaj us)(hnd:∀ u∈us,u.Nodup):r27 (.sl 1 (yr us))=some (zcq us us.length 0):=by
 show zd (zja (yr us)) _=_;rw [zrp,qr,pa hul];have:(us.all λ u=>decide u.Nodup&&u.all λ k=>decide (k<us.length))=true:=List.all_eq_true.2 λ u hu=>by
  rw [pa (hnd u hu),Bool.true_and];exact List.all_eq_true.2 λ k hk=>pa (hU u hu k hk)
 rw [this];rfl
theorem zy3{S:CK R1}(hS:knows cx S.S (zh cx)):knows cx (zx 27 zan r27 mkB S).S (zh cx):=zj hS λ a q b hd h hb=>by
 unfold r27 at hb;split at hb
 ·rename_i X;obtain ⟨us,hus,hb⟩:=zb hb;obtain ⟨h1,hb⟩:=zc hb;cases hb;rw [ph] at h1;have h2:=List.all_eq_true.1 h1.2;rw [wj h,zij hus];exact m27 us (pc h1.1) (λ u hu k hk=>by
   have:=h2 u hu;rw [ph] at this;exact pc (List.all_eq_true.1 this.2 k hk)) λ u hu=>by
   have:=h2 u hu;rw [ph] at this;exact pc this.1
 ·cases hb
def o26(x:D):Option (List D×Int):=zd (zma x) λ l=>some (nI (zcb l).1,(zcb l).2)
theorem zzc{f:Nat}(hf:∀ l,zef l=true→zh cx f [.d (.sl 5 (T.ds l))] []=some (.ret (mk2 (nI (zcb l).1,(zcb l).2)),[])){S:CK R1}(hS:knows cx S.S (zh cx)) :
  knows cx (zx f zan o26 mk2 S).S (zh cx):=zj hS λ a q b hd h hb=>by
 obtain ⟨m,hm,hb⟩:=zb hb;cases hb;obtain ⟨h0,h1⟩:=zjd hm;rw [wj h,h0];exact hf m h1
def Kq8:CK R1:=K8n (some true) g17 o26 u24 r27 h50
theorem z0q:knows cx Kq8.S (zh cx):=
 zj (zj (zzc m26 (zj (zy3 (zq0 zq)) λ a q b hd h hb=>zpw h hb)) λ a q b hd h hb=>zzq h hb) λ a q b hd h hb=>zyl h hb
def Lq8(N k:Nat)(l:List T)(od:List Nat)(us:List (List Nat))(o:List Nat)(i:Int):Option R1:=
 LP cx Kq8 N 8 0 13 k [(0,V.d (D.sl 5 (T.ds l))),(5,V.d (D.sl 1 (yr us))),(7,V.sl 1 (nI o) 7),(51,V.d (D.sl 1 (nI od))),(52,V.d (D.int .i64 (od.length:Int))),(53,V.d (D.int .i64 i))] [(7,Ob.tok (nI o).length)] (AK cx Kq8 N 8 0 13 (EK cx 8 0))
def z34(N k m:Nat)(l:List T)(od u:List Nat)(us:List (List Nat))(o:List Nat)(i x j:Int):Option R1:=
 LP cx Kq8 N 8 0 18 m [(0,V.d (D.sl 5 (T.ds l))),(5,V.d (D.sl 1 (yr us))),(7,V.sl 1 (nI o) 7),(9,V.d (D.int .i64 x)),(51,V.d (D.sl 1 (nI od))),(52,V.d (D.int .i64 (od.length:Int))),(53,V.d (D.int .i64 i)),(73,V.d (D.sl 1 (nI u))),(74,V.d (D.int .i64 (u.length:Int))),(75,V.d (D.int .i64 j))] [(7,Ob.tok (nI o).length)] (AL cx Kq8 N 8 0 13 18 (inK cx Kq8 N 8 0 13 k (AK cx Kq8 N 8 0 13 (EK cx 8 0))))
theorem zx0(N k:Nat)(l:List T)(od u:List Nat)(us:List (List Nat))(o:List Nat)(i:Int)(x:Nat)(ho:o.length<4294967295)(hu:u.length<4294967296)(hin:∀ k∈u,k∈o):∀ (r:List Nat) (j m:Nat),u.drop j=r→j≤u.length→r.length<m →
  z34 N k m l od u us o i x j=Lq8 N k l od us (o++[x]) (IntKind.i64.wrap (i+1))
 | [],j,m,hd,hj,hm=>by
  obtain ⟨m,rfl⟩:∃ k',m=k'+1:=⟨m - 1,by omega⟩
  have:u.length≤j:=by simpa using hd
  obtain rfl:j=u.length:=by omega
  unfold z34;refine (ya1 (some true) g17 o26 u24 r27 h50 N k m l od u us (nI o) i x u.length).trans ?_;rw [xu,cond_false,pa (p:=(nI o).length=(nI o).length) rfl,pa (p:=(nI o).length+[D.int .i64 (x:Int)].length≤4294967296) (by rw [zcs]; simp only [List.length_cons,List.length_nil]; omega),Bool.and_self,xr]
  unfold Lq8;rw [zr5,pe];rfl
 | y::r,j,m,hd,hj,hm=>by
  obtain ⟨m,rfl⟩:∃ k',m=k'+1:=⟨m - 1,by omega⟩
  obtain ⟨h1,h2,h3⟩:=zca hd;have ih:=zx0 N k l od u us o i x ho hu hin r (j+1) m h3 h1 (by simp at hm; omega)
  unfold z34;refine (ya1 (some true) g17 o26 u24 r27 h50 N k m l od u us (nI o) i x j).trans ?_;rw [yh h1,cond_true,xe,zat,yh h1,Bool.and_self,xr];refine (zqk h2).trans ?_;rw [zoq,vm];simp only [decide_true,cond_true];rw [wu h1 hu,zwc (zjh (by omega)),qr,znh,pa (hin y (po h2)),Bool.not_true,cond_false]
  exact ih
theorem z18(N:Nat)(l:List T)(od:List Nat)(us:List (List Nat))(hll:us.length=l.length)(hlN:us.length<4294967295)(hs:∀ u∈us,u.length<N)(hN:N≤4294967296):∀ (r o:List Nat) (k:Nat),od.drop o.length=r→o.length+r.length=od.length→o.length+r.length≤us.length→zgg us o r→r.length<k →
  Lq8 N k l od us o o.length=some (.ret (mkB (decide ((((o.length+r.length:Nat)):Int)=(l.length:Int)))),[])
 | [],o,k,hd,hi,hu,hst,hk=>by
  obtain ⟨k,rfl⟩:∃ k',k=k'+1:=⟨k - 1,by omega⟩
  have hi2:o.length=od.length:=by simpa using hi
  unfold Lq8;refine (al8 (some true) g17 o26 u24 r27 h50 N k l od us (nI o) o.length).trans ?_;rw [hi2,xu,cond_false,zcs,ya,hi2];rfl
 | x::r,o,k,hd,hi,hu,hst,hk=>by
  obtain ⟨k,rfl⟩:∃ k',k=k'+1:=⟨k - 1,by omega⟩
  obtain ⟨h1,h2,h3⟩:=zca hd;obtain ⟨s1,s2,s3,s4⟩:=hst;simp only [List.length_cons] at hi hu hk;have hu2:=pr s1;have hmem:=List.getElem_mem s1;generalize us[x]=u at hu2 hmem;have g3:Sp.row us x=u:=by unfold Sp.row; rw [List.getD_eq_getElem?_getD,hu2]; rfl
  rw [g3] at s3;have hun:=hs u hmem;have ih:=z18 N l od us hll hlN hs hN r (o++[x]) k (by rw [pe]; exact h3) (by simp; omega) (by simp; omega) s4 (by omega)
  have e:Lq8 N (k+1) l od us o o.length=z34 N k N l od u us o o.length x 0:=by
   unfold Lq8 z34;refine (al8 (some true) g17 o26 u24 r27 h50 N k l od us (nI o) o.length).trans ?_;rw [yh h1,cond_true,xe,zat,yh h1,Bool.and_self,xr];refine (zqk h2).trans ?_;rw [zoq,vm];simp only [decide_true,cond_true];have e0:decide ((x:Int)<0)=false:=pb (by omega)
   have e2:decide ((l.length:Int)≤(x:Int))=false:=pb (by omega)
   rw [e0,cond_false,ya,e2,cond_false,zwc (zjh (by omega)),qr,znh,pb s2,cond_false,xe,zfd,yh s1,Bool.and_self,xr]
   refine (z1c hu2).trans ?_;rw [zyj,vm];simp only [cells3,Bool.true_or,cond_true];rw [zcs u];rfl
  rw [e];refine (zx0 N k l od u us o o.length x (by omega) (by omega) s3 u 0 N rfl (Nat.zero_le _) hun).trans ?_
  rw [wu h1 (by omega)]
  have e3:(o++[x]).length=o.length+1:=by simp
  rw [e3] at ih;refine ih.trans ?_;rw [List.length_cons,Nat.add_assoc,Nat.add_comm 1]
theorem pure_sliceStands(l:List T)(h1:yj l=true)(h2:T.oks l=true):zh cx 8 [.d (.sl 5 (T.ds l))] []=some (.ret (mkB true),[]):=by
 refine zl z0q (N:=l.length+1) ?_;refine (ag8 (some true) g17 o26 u24 r27 h50 (l.length+1) l).trans ?_;rw [qr,Bool.not_true,cond_false,z7x h1 h2,qr];cases hgr:zd0 l
 ·obtain ⟨hg,hl,hb⟩:=zwe h1 h2 hgr;have e1:o26 (.sl 5 (T.ds l))=some (nI (zcb l).1,(zcb l).2):=by unfold o26; rw [ztc hg]; rfl
  rw [cond_false,e1,qr,z1e hg,qr];unfold zcb zc7;rcases z06 l with hw | hw | hw
  ·rw [pa hw];have hul:=zkh l;have hus:∀ u∈ql l,u.length<l.length+1:=λ u hu=>by
    obtain ⟨t,_,rfl⟩:=List.mem_map.1 hu;have:=zxp (λ k=>Sp.mem ((nmL l).getD k []) (wx [] [] t.kids)) (nmL l).length;exact Nat.lt_of_le_of_lt this (by rw [zfu]; omega)
   have hul2:(yr (ql l)).length=l.length:=by rw [zyn,hul]
   simp only [cond_true,decide_true,Bool.not_true,cond_false,hul2,ya];unfold zxa;cases ho:zbm (ql l) (ql l).length (ql l).length [] with
   | none=>
    obtain ⟨i,hi,hw⟩:=z10 (zck l) ho;have hr:Sp.rg (ql l) i ((ql l).length+1) 0 (Sp.row (ql l) i)=true:=by
     cases hr:Sp.rg (ql l) i ((ql l).length+1) 0 (Sp.row (ql l) i)
     ·exfalso;obtain ⟨o',g1,g2,g3⟩:=z1u (zck l) _ _ _ hr (by omega) (Nat.zero_le _) (zmp l _ (row_mem hi)) (λ x hx=>(zck l).row hx) λ _ _ h=>by omega
      have:∀ k,Way (ql l) i k→k∈o':=λ k hk=>by
       induction hk with
       | one h=>exact g1 _ h
       | step _ hk ih=>exact g3 _ ih _ hk
      exact g2 (this i hw)
     ·rfl
    have hring:=zm0 hr (ql l).length 0 (Nat.zero_le _) (by omega)
    have e2:r27 (.sl 1 (yr (ql l)))=some true:=by rw [z6m (by omega) (zck l) (zmp l),hring]
    show (bif !decide ((272:Int)=0) then (bif decide ((272:Int)=272) then zd (r27 (D.sl 1 (yr (ql l)))) _ else _) else _)=_;rw [e2];rfl
   | some o=>
    obtain ⟨h5,h6,h7⟩:=zqb ho List.nodup_nil trivial;have hol:o.length=l.length:=by rw [h7,hul]; simp
    have h:=z18 (l.length+1) l o (ql l) hul (by omega) hus (by omega) o [] (l.length+1) rfl (by simp) (by rw [hul]; simp; omega) h6 (by omega)
    rw [List.length_nil,Nat.zero_add,hol,pa rfl] at h;refine Eq.trans ?_ h;simp only [decide_true,Bool.not_true,cond_false];unfold Lq8;rw [zcs o,hol];rfl
  ·rw [hw]; rfl
  ·rw [hw]; rfl
 ·rfl
open Go.Proofs.YtmolcgfhgdhgoaaGreatDoor in
theorem glob_says:zue cx.P cx.glob Rows.sliceUsesRow.laid:=by
 intro g x h
 match g,h with
 | 0, h => cases h; exact ⟨"hypercube/lex.signs", Rows.laid_hypercube_lex_signs, by simp [Rows.sliceUsesRow], by kernel_rfl, by kernel_rfl⟩
 | 1, h => cases h; exact ⟨"unicode/utf8.first", Rows.laid_unicode_utf8_first, by simp [Rows.sliceUsesRow], by kernel_rfl, by kernel_rfl⟩
 | 2, h => cases h; exact ⟨"unicode/utf8.acceptRanges", Rows.laid_unicode_utf8_acceptRanges, by simp [Rows.sliceUsesRow], by kernel_rfl, by kernel_rfl⟩
 | n+3,h=>cases h
theorem no_routines:yy cx.P:=by
 have h : (cx.P.funcs.all λ fn => fn.name != "runtime.NumGoroutine") = true := by kernel_rfl
 intro f fn hf;have:=Array.all_eq_true_iff_forall_mem.1 h fn (Array.mem_of_getElem? hf);simpa using this
theorem mixed:cx.P.follows .mixedOrders=true:=by kernel_rfl
def lits:D→Value
 | .int k n=>.int k n
 | .str s=>.string (y9 s)
 | _=>undef
def laidWorld(os:Os):World:=
 { World.holding Tryz.prog os ⟨#[],#[],[]⟩ with heap:=(((((World.holding Tryz.prog os ⟨#[],#[],[]⟩).heap.modify 0 fun
   | .cells _ t frozen=>.cells (wl.cells.map lits).toArray t frozen
   | o=>o).modify 1 fun
   | .cells _ t frozen=>.cells ((unW Go.Pinned.utf8First).map lits).toArray t frozen
   | o=>o).modify 2 fun
   | .cells _ t frozen=>.cells (acc.cells.map lits).toArray t frozen
   | o=>o).modify 4 fun
   | .cells _ t frozen=>.cells ((unW (Go.Proofs.YtmolcgfhgdhgoaaGreatDoor.Rows.laid_math_bits_deBruijn32tab (H:=Unit))).map lits).toArray t frozen
   | o=>o) }
open Go.Proofs Go.Proofs.YtmolcgfhgdhgoaaGreatDoor
theorem bulks_len:∀ l:List T,l.length≤Sp.bulks l
 | []=>Nat.le_refl _
 | .mk k nm kids nms pl::l=>by
  have:=bulks_len l;simp only [List.length_cons,Sp.bulks,yo]; omega
theorem zt5:∀ l:List (List UInt8),l.length≤Sp.lens l
 | []=>Nat.le_refl _
 | x::l=>by have:=zt5 l; simp only [List.length_cons,Sp.lens]; omega
theorem zt6:∀ l:List (List UInt8),Sp.lens l<4294967296→l.all yj=true
 | [],_=>rfl
 | x::l,h=>by
  simp only [Sp.lens] at h;rw [List.all_cons,zt6 l (by omega),Bool.and_true]
  exact pa (by omega)
mutual
theorem z4l:∀ t:T,yo t<4294967296→t.ok=true
 | .mk k nm kids nms pl,h=>by
  simp only [yo] at h;have h1:=bulks_len kids;have h2:=zt5 nms;simp only [T.ok,oks_bulk kids (by omega),zt6 nms (by omega),Bool.and_true,ph]
  exact ⟨⟨pa (by omega),pa (by omega)⟩,pa (by omega)⟩
theorem oks_bulk:∀ l:List T,Sp.bulks l<4294967296→T.oks l=true
 | [],_=>rfl
 | t::l,h=>by
  simp only [Sp.bulks] at h;simp only [T.oks,z4l t (by omega),oks_bulk l (by omega)]; rfl
end
theorem z0h(t:T):D.agg t.d.cells=t.d:=by cases t; rfl
section
variable {H:Type} {enc:TypeId×Value→H} {W:World} {base:Nat} {spare:Nat→Bool} {held:Bool}
theorem zrc{m:Nat}:∀ (es:List (DataW H×List MemPlace)),(∀ y∈es,∃ t:T,y4 Tryz.prog m 26 y.1=some t.d.cells∧yo t≤Rows.uptoBulk y.1) →
  ∃ l:List T,zak true (y4 Tryz.prog m 26) (es.map (·.1))=some (T.ds l)∧Sp.bulks l≤Rows.uptoBulkAll (es.map (·.1))
 | [],_=>⟨[],rfl,Nat.le_refl _⟩
 | y::es,h=>by
  obtain ⟨t,h1,h2⟩:=h y (pn ..);obtain ⟨l,h3,h4⟩:=zrc es λ z hz=>h z (pp _ hz);refine ⟨t::l,?_,?_⟩
  ·simp only [List.map_cons,zak,h1,h3,T.ds,elemOf,cond_true,z0h]
  ·simp only [List.map_cons,Sp.bulks,Rows.uptoBulkAll]; omega
theorem zuv{m:Nat}:∀ (es:List (DataW H×List MemPlace)),(∀ y∈es,∃ s:List UInt8,y.1=.lit (.string s)) →
  ∃ l:List (List UInt8),zak false (y4 Tryz.prog (m+1) 9) (es.map (·.1))=some (l.map .str)∧Sp.lens l≤Rows.uptoBulkAll (es.map (·.1))
 | [],_=>⟨[],rfl,Nat.le_refl _⟩
 | y::es,h=>by
  obtain ⟨s,h1⟩:=h y (pn ..);obtain ⟨l,h3,h4⟩:=zuv (m:=m) es λ z hz=>h z (pp _ hz);refine ⟨s::l,?_,?_⟩
  ·have e:y4 Tryz.prog (m+1) 9 y.1=some [.str s]:=by rw [h1]; simp only [y4,Tryz.underlying9]
   simp only [List.map_cons,zak,e,h3];rfl
  ·simp only [List.map_cons,Sp.lens,Rows.uptoBulkAll,h1,Rows.uptoBulk]; omega
theorem zfp{P:Program}{n t e:Nat}{els sp:List (DataW H)}(h:P.underlying t=some (.slice e)) :
  y4 P (n+1) t (.slice els sp)=bif Nat.beq (P.cellsOf e) 0 then none else (zak (xj P e) (y4 P n e) els).map λ l=>[.sl (P.cellsOf e) l]:=by
 simp only [y4,h]
theorem zpg{P:Program}{n t:Nat}{fs:Array Field}{ps:List (DataW H)}(h:P.underlying t=some (.struct fs)) :
  y4 P (n+1) t (.agg ps)=bif zem P 0 fs.toList (P.cellsOf t) then w9 (y4 P n) fs.toList ps else none:=by
 simp only [y4,h]
theorem yba:xj Tryz.prog 26=true:=by kernel_rfl
theorem ycj:xj Tryz.prog 9=false:=by kernel_rfl
theorem cells26:Tryz.prog.cellsOf 26=5:=by kernel_rfl
theorem cells9:Tryz.prog.cellsOf 9=1:=by kernel_rfl
theorem zox{α β:Type}{o:Option α}{f:α→Option β}{y:β}(h:o.bind f=some y):∃ a,f a=some y:=by
 cases o with
 | none=>cases h
 | some a=>exact ⟨a,h⟩
theorem trod_trees{n:Nat}{cs:List Value}{x:DataW H×List MemPlace}(ih:∀ m,m<n→∀ cs x,DataW.trod enc Tryz.prog W base spare held m 26 cs=some x→∃ t:T,y4 Tryz.prog m 26 x.1=some t.d.cells∧yo t≤Rows.uptoBulk x.1)
  (h:DataW.trod enc Tryz.prog W base spare held n 24 cs=some x):∃ l:List T,y4 Tryz.prog n 24 x.1=some [.sl 5 (T.ds l)]∧Sp.bulks l+1≤Rows.uptoBulk x.1:=by
 have hn:∃ k,n=k+1:=by
  cases n with
  | zero=>simp [DataW.trod] at h
  | succ k=>exact ⟨k,rfl⟩
 obtain ⟨k,rfl⟩:=hn;rcases DataW.trod_slice Tryz.underlying24 h with ⟨_,rfl⟩ | ⟨a,len,cap,elems,rest,m,hm,_,rfl,_,_,_,hl,he,_⟩
 ·refine ⟨[],?_,Nat.le_refl _⟩;simp only [y4,Tryz.underlying24,cells26];rfl
 ·cases hm;obtain ⟨l,h1,h2⟩:=zrc (m:=k) elems λ y hy=>by
   obtain ⟨i,hi⟩:=List.getElem?_of_mem hy;have:=he i (by have:=(pj.1 hi).1; omega)
   rw [hi] at this;obtain ⟨c,hc⟩:=zox this;exact ih k (Nat.lt_succ_self _) c y hc
  refine ⟨l,?_,?_⟩
  ·have e:Nat.beq (Tryz.prog.cellsOf 26) 0=false:=by rw [cells26]; rfl
   rw [zfp Tryz.underlying24,e,cond_false,yba,h1,cells26];rfl
  ·simp only [Rows.uptoBulk]; omega
theorem zyq{n:Nat}{cs:List Value}{x:DataW H×List MemPlace}(h:DataW.trod enc Tryz.prog W base spare held n 23 cs=some x):∃ l:List (List UInt8),y4 Tryz.prog n 23 x.1=some [.sl 1 (l.map .str)]∧Sp.lens l+1≤Rows.uptoBulk x.1:=by
 have hn:∃ k,n=k+1:=by
  cases n with
  | zero=>simp [DataW.trod] at h
  | succ k=>exact ⟨k,rfl⟩
 obtain ⟨k,rfl⟩:=hn;rcases DataW.trod_slice Tryz.underlying23 h with ⟨_,rfl⟩ | ⟨a,len,cap,elems,rest,m,hm,_,rfl,_,_,_,hl,he,_⟩
 ·refine ⟨[],?_,Nat.le_refl _⟩;simp only [y4,Tryz.underlying23,cells9];rfl
 ·cases hm;have hel:∀ y∈elems,∃ c,DataW.trod enc Tryz.prog W base spare held k 9 c=some y:=λ y hy=>by
   obtain ⟨i,hi⟩:=List.getElem?_of_mem hy;have:=he i (by have:=(pj.1 hi).1; omega)
   rw [hi] at this;exact zox this
  have e:Nat.beq (Tryz.prog.cellsOf 9) 0=false:=by rw [cells9]; rfl
  cases k with
  | zero=>
   have:elems=[]:=by
    cases elems with
    | nil=>rfl
    | cons y es=>obtain ⟨c,hc⟩:=hel y (pn ..); simp [DataW.trod] at hc
   subst this;refine ⟨[],?_,?_⟩
   ·rw [zfp Tryz.underlying23,e,cond_false,cells9];rfl
   ·simp only [Rows.uptoBulk,Sp.lens]; omega
  | succ k=>
   obtain ⟨l,h1,h2⟩:=zuv (m:=k) elems λ y hy=>by
    obtain ⟨c,hc⟩:=hel y hy;obtain ⟨s,_,rfl,_⟩:=DataW.trod_string Tryz.underlying9 hc;exact ⟨_,rfl⟩
   refine ⟨l,?_,?_⟩
   ·rw [zfp Tryz.underlying23,e,cond_false,ycj,h1,cells9];rfl
   ·simp only [Rows.uptoBulk]; omega
theorem trod_tree:∀ (n:Nat) (cs:List Value) (x:DataW H×List MemPlace),DataW.trod enc Tryz.prog W base spare held n 26 cs=some x→∃ t:T,y4 Tryz.prog n 26 x.1=some t.d.cells∧yo t≤Rows.uptoBulk x.1:=by
 intro n
 induction n using Nat.strongRecOn with
 | ind n ih=>
  intro cs x h;obtain ⟨xs,m,rfl,rfl,hlen,hxs,hf⟩:=DataW.trod_struct Tryz.underlying26 h;obtain ⟨x0,x1,x2,x3,x4,rfl⟩:∃ x0 x1 x2 x3 x4,xs=[x0,x1,x2,x3,x4]:=by
   match xs,hxs with
   | [a,b,c,d,e],_=>exact ⟨a,b,c,d,e,rfl⟩
  have f0:=hf 0 _ rfl;have f1:=hf 1 _ rfl;have f2:=hf 2 _ rfl;have f3:=hf 3 _ rfl;have f4:=hf 4 _ rfl;simp only [List.getElem?_cons_zero,List.getElem?_cons_succ] at f0 f1 f2 f3 f4;obtain ⟨k,_,rfl,_⟩:=DataW.trod_int Tryz.underlying3 f0;obtain ⟨s,_,rfl,_⟩:=DataW.trod_string Tryz.underlying9 f1;obtain ⟨l,hl1,hl2⟩:=trod_trees (λ m' hm'=>ih m' (Nat.lt_succ_of_lt hm')) f2;obtain ⟨ns,hn1,hn2⟩:=zyq f3;obtain ⟨p,_,rfl,_⟩:=DataW.trod_int Tryz.underlying3 f4;have hm:∃ q,m=q+1:=by
   cases m with
   | zero=>simp [DataW.trod] at f0
   | succ k=>exact ⟨k,rfl⟩
  obtain ⟨q,rfl⟩:=hm;refine ⟨.mk k s.data.toList l ns p,?_,?_⟩
  ·rw [zpg Tryz.underlying26];have e1:∀ z:Int,y4 Tryz.prog (q+1) 3 (DataW.lit (H:=H) (.int .i64 z))=some [.int .i64 z]:=λ z=>by simp only [y4,Tryz.underlying3]
   have e2:∀ z:List UInt8,y4 Tryz.prog (q+1) 9 (DataW.lit (H:=H) (.string z))=some [.str z]:=λ z=>by simp only [y4,Tryz.underlying9]
   have e0:∀ fs,zem Tryz.prog 0 fs (Tryz.prog.cellsOf 26)=true→(bif zem Tryz.prog 0 fs (Tryz.prog.cellsOf 26) then w9 (y4 (H:=H) Tryz.prog (q+1)) fs [.lit (.int .i64 k),.lit (.string s.data.toList),x2.1,x3.1,.lit (.int .i64 p)] else none)=w9 (y4 Tryz.prog (q+1)) fs [.lit (.int .i64 k),.lit (.string s.data.toList),x2.1,x3.1,.lit (.int .i64 p)]:=λ fs h=>by rw [h]; rfl
   refine (e0 _ (by kernel_rfl)).trans ?_
   simp only [w9,e1,e2,hl1,hn1];rfl
  ·simp only [List.map_cons,List.map_nil,Rows.uptoBulk,Rows.uptoBulkAll,yo];omega
end
theorem same_kept{W W':World}(h:Kept W zcy W'){p:MemPlace}(hp:p.block<W.heap.size):W.sameAt W' p:=by
 cases p with
 | cell b o=>exact World.cell?_of_block (w:=W) (h.blk b hp λ _ h=>h)
 | map b=>exact h.blk b hp λ _ h=>h
theorem hgrow:∀ g e,cx.grow g=some e→g=165∧e=9:=λ g e h=>by
 have h:(bif Nat.beq g 165 then some 9 else none)=some e:=h;cases hb:Nat.beq g 165 <;> rw [hb] at h
 ·cases h
 ·cases h; exact ⟨pg hb,rfl⟩
end Go.Vai
end

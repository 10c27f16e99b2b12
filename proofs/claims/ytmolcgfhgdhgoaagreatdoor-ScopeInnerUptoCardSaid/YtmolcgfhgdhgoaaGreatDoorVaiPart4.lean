/-
  A call from the caller's side: the whole. To: Regions whose order is open.
-/
import Derived.Test.YtmolcgfhgdhgoaaGreatDoorVaiPart3
import Derived.Lib.Builder
import Derived.Orders
import Derived.LoopN
import Derived.Scope
set_option linter.all false
noncomputable section
namespace Go.Vai
section
variable {R:Type} {cx:Cx} {w w':World} {σ τ:St} {μ ν:Mu}
theorem Ob.ren_ids(f:Nat→Nat)(o:Ob):(o.ren f).ids=o.ids.map f:=by
 cases o <;> simp [Ob.ren,Ob.ids,V.ren_ids]
def ztw(σ:St)(μ:Mu)(ren:List Nat):Own:=λ b i=>μ.fr b i∨∃ j o,j ∉ ren∧zf σ j=some o∧owns μ j o b i
def x3(σ:St)(μ:Mu)(ren:List Nat):Mu:=⟨λ k=>μ (za5 ren k),ztw σ μ ren⟩
theorem zdn{ren:List Nat}(hex:∀ i∈ren,∃ o,zf σ i=some o){i:Nat}(hi:i∈ren) :
  zf (y9 σ ren 0 ren) (xb ren i)=(zf σ i).map (Ob.ren (xb ren)):=by
 rw [zgz σ ren ren 0 _ hex];obtain ⟨h1,h2⟩:=xm hi;simp only [Nat.zero_le,if_true,Nat.sub_zero];rw [za4 h2,h1];rfl
theorem zaf{ren:List Nat}(hex:∀ i∈ren,∃ o,zf σ i=some o){k:Nat}{o:Ob}(h:zf (y9 σ ren 0 ren) k=some o) :
  ∃ i q,ren[k]?=some i∧zf σ i=some q∧o=q.ren (xb ren)∧k<ren.length:=by
 rw [zgz σ ren ren 0 k hex] at h;simp only [Nat.zero_le,if_true,Nat.sub_zero] at h;cases hk:ren[k]? with
 | none=>rw [hk] at h; cases h
 | some i=>
  rw [hk] at h;simp only [Option.bind_some,Option.map_eq_some_iff] at h;obtain ⟨q,hq,rfl⟩:=h;exact ⟨i,q,rfl,hq,rfl,(pr.1 hk).1⟩
theorem zbv{ren:List Nat}{k i:Nat}(h:ren[k]?=some i):za5 ren k=i:=by
 have:=za4 (pr.1 h).1;rw [h] at this;exact (Option.some.inj this).symm
theorem w4{μ ν:Mu}{id k:Nat}(h:ν k=μ id)(o:Ob)(b i:Nat):owns ν k o b i↔owns μ id o b i:=by
 cases o <;> simp [owns,h]
theorem zn2{ren:List Nat}(hex:∀ i∈ren,∃ o,zf σ i=some o):zo (y9 σ ren 0 ren) (x3 σ μ ren)=zo σ μ:=by
 funext b i;apply propext;constructor
 ·rintro ((hf | ⟨j,o,hj,ho,hown⟩) | ⟨k,o,ho,hown⟩)
  ·exact .inl hf
  ·exact .inr ⟨j,o,ho,hown⟩
  ·obtain ⟨a,q,hk,hq,rfl,_⟩:=zaf hex ho;exact .inr ⟨a,q,hq,(w4 (show x3 σ μ ren k=μ a from congrArg μ.lo (zbv hk)) q b i).1 ((zaz _ _ _ _ _).1 hown)⟩
 ·rintro (hf | ⟨j,o,ho,hown⟩)
  ·exact .inl (.inl hf)
  ·by_cases hj:j∈ren
   ·have hg:=zdn hex hj;rw [ho] at hg;exact .inr ⟨xb ren j,_,hg,(zaz _ _ _ _ _).2 ((w4 (show x3 σ μ ren (xb ren j)=μ j from congrArg μ.lo (xm hj).1) o b i).2 hown)⟩
   ·exact .inl (.inr ⟨j,o,hj,ho,hown⟩)
theorem zde{ids:List Nat}{ren:List Nat}(h:closedIn σ ids ren=true):ren.Nodup∧(∀ i∈ids,i∈ren)∧∀ i∈ren,∃ o,zf σ i=some o∧∀ j∈o.ids,j∈ren:=by
 unfold closedIn at h;simp only [pq,List.all_eq_true] at h;obtain ⟨⟨h1,h2⟩,h3⟩:=h;refine ⟨zc2 h1,λ i hi=>by simpa using h2 i hi,λ i hi=>?_⟩
 have:=h3 i hi;split at this
 ·rename_i o ho;exact ⟨o,ho,λ j hj=>by simpa using List.all_eq_true.1 this j hj⟩
 ·cases this
theorem zu3{ren:List Nat}(hi:Inv cx w σ μ)(hnd:ren.Nodup)(hcl:∀ i∈ren,∃ o,zf σ i=some o∧∀ j∈o.ids,j∈ren):Inv cx w (y9 σ ren 0 ren) (x3 σ μ ren):=by
 have hex:∀ i∈ren,∃ o,zf σ i=some o:=λ i h=>let ⟨o,ho,_⟩:=hcl i h; ⟨o,ho⟩;have hown:=zn2 (μ:=μ) hex;have hst:Stays w (zo σ μ) w (zo (y9 σ ren 0 ren) (x3 σ μ ren)):=by rw [hown]; exact Stays.refl _ _
 refine ⟨λ k o ho=>?_,λ k k' o o' b i ho ho' h1 h2=>?_,by rw [hown]; exact hi.glob,λ k o b i ho h j hf=>?_,λ b i hf=>?_,λ r es clock i hm hf=>?_⟩
 ·obtain ⟨a,q,hk,hq,rfl,hlt⟩:=zaf hex ho;have ha:a∈ren:=pz hk;have hpos:=qn hnd hk;obtain ⟨q',hq',hids⟩:=hcl a ha;rw [hq] at hq'; cases hq';have:=(hi.ob a q hq).rename (τ:=y9 σ ren 0 ren) (ν:=x3 σ μ ren) (xb ren) hst (congrArg μ.lo (xm ha).1) λ j hj=>
   ⟨by rw [zdn hex (hids j hj)]; exact qk.ren _ _,congrArg μ.lo (xm (hids j hj)).1⟩
  rw [hpos] at this;exact this
 ·obtain ⟨a,q,hk,hq,rfl,_⟩:=zaf hex ho;obtain ⟨a',q',hk',hq',rfl,_⟩:=zaf hex ho';have e1:=(w4 (show x3 σ μ ren k=μ a from congrArg μ.lo (zbv hk)) q b i).1 ((zaz _ _ _ _ _).1 h1);have e2:=(w4 (show x3 σ μ ren k'=μ a' from congrArg μ.lo (zbv hk')) q' b i).1 ((zaz _ _ _ _ _).1 h2);have:=hi.apart a a' q q' b i hq hq' e1 e2;subst this;rw [←qn hnd hk,←qn hnd hk']
 ·obtain ⟨a,q,hk,hq,rfl,_⟩:=zaf hex ho;have e1:=(w4 (show x3 σ μ ren k=μ a from congrArg μ.lo (zbv hk)) q b i).1 ((zaz _ _ _ _ _).1 h);rcases hf with hf | ⟨j',o',hj',ho',hown'⟩
  ·exact hi.frame a q b i hq e1 j hf
  ·have:=hi.blockApart hq ho' e1 hown';exact hj' (this ▸ pz hk)
 ·rcases hf with hf | ⟨j',o',hj',ho',hown'⟩
  ·exact hi.frLt b i hf
  ·exact zb2 hi ho' hown'
 ·rcases hf with hf | ⟨j',o',hj',ho',hown'⟩
  ·exact .inl (hi.frMap r es clock i hm hf)
  ·refine .inr ⟨j',o',hj',ho',?_⟩;have hok:=hi.ob j' o' ho';cases o' with
   | tok n=>
    obtain ⟨cs,el,fr,hh,_⟩:=hok r hown'.1;rw [hm] at hh; cases hh
   | _=>exact hown'
def xn(μ μ1:Mu)(ren:List Nat):Mu:=⟨λ j=>if j∈ren then μ1 (xb ren j) else μ j,μ.fr⟩
theorem zrs(hi:Inv cx w σ μ){ren:List Nat}(hnd:ren.Nodup)(hcl:∀ i∈ren,∃ o,zf σ i=some o∧∀ j∈o.ids,j∈ren){σ':St}{δ:De}(hδm:δ.map (·.1)=ren)
  (hδ:∀ (j i:Nat),ren[j]?=some i→∃ old new o,zf σ i=some old∧zf σ' (0+j)=some new∧δ[j]?=some (i,o)∧LikeO (new.ren (za5 ren)) o)
  (hσ':∀ k o,zf σ' k=some o→k<ren.length∧∀ i∈o.ids,i<ren.length) {w':World} {μ1:Mu} (haf:After cx w (y9 σ ren 0 ren) (x3 σ μ ren) w' σ' μ1) :
  After cx w σ μ w' (ze σ δ) (xn μ μ1 ren) ∧
   ∀ (x:Value) (v:V),(∀ i∈v.ids,i<ren.length)→RV w' σ' μ1 x v→RV w' (ze σ δ) (xn μ μ1 ren) x (v.ren (za5 ren)):=by
 have hex:∀ i∈ren,∃ o,zf σ i=some o:=λ i h=>let ⟨o,ho,_⟩:=hcl i h; ⟨o,ho⟩;have hget:∀ {j i:Nat},ren[j]?=some i→∃ new o,zf σ' j=some new∧zf (ze σ δ) i=some o∧LikeO (new.ren (za5 ren)) o:=by
  intro j i hj;obtain ⟨old,new,o,h1,h2,h3,h4⟩:=hδ j i hj;rw [Nat.zero_add] at h2;exact ⟨new,o,h2,x0 (by rw [hδm]; exact hnd) (pz h3),h4⟩
 have hrest:∀ {j:Nat},j ∉ ren→zf (ze σ δ) j=zf σ j:=λ hj=>qp (by rw [hδm]; exact hj)
 have hmu:∀ {j i:Nat},ren[j]?=some i→xn μ μ1 ren i=μ1 j:=λ {j i} hj=>by
  have hm:i∈ren:=pz hj;simp only [xn,if_pos hm,qn hnd hj]
 have hmu':∀ {j:Nat},j ∉ ren→xn μ μ1 ren j=μ j:=λ {j} hj=>by simp only [xn,if_neg hj]
 have hfr1:μ1.fr=ztw σ μ ren:=haf.fr;have hown2:zo (ze σ δ) (xn μ μ1 ren)=zo σ' μ1:=by
  funext b i;apply propext;constructor
  ·rintro (hf | ⟨j,o,ho,hown⟩)
   ·exact .inl (by rw [hfr1]; exact .inl hf)
   ·by_cases hj:j∈ren
    ·obtain ⟨h1,h2⟩:=xm hj;have hk:ren[xb ren j]?=some j:=by rw [za4 h2,h1]
     obtain ⟨new,o',h3,h4,h5⟩:=hget hk;rw [ho] at h4; cases h4;exact .inr ⟨xb ren j,new,h3,(w4 (hmu hk) new b i).1 ((zaz _ _ _ _ _).1 ((h5.owns _ _ _ _).1 hown))⟩
    ·rw [hrest hj] at ho;exact .inl (by rw [hfr1]; exact .inr ⟨j,o,hj,ho,(w4 (hmu' hj) o b i).1 hown⟩)
  ·rintro (hf | ⟨k,o,ho,hown⟩)
   ·rw [hfr1] at hf;rcases hf with hf | ⟨j,o,hj,ho,hown⟩
    ·exact .inl hf
    ·exact .inr ⟨j,o,by rw [hrest hj]; exact ho,(w4 (hmu' hj) o b i).2 hown⟩
   ·obtain ⟨i',hk⟩:=yj (hσ' k o ho).1;obtain ⟨new,o',h3,h4,h5⟩:=hget hk;rw [ho] at h3; cases h3;exact .inr ⟨i',o',h4,(h5.owns _ _ _ _).2 ((zaz _ _ _ _ _).2 ((w4 (hmu hk) o b i).2 hown))⟩
 have hst2:Stays w' (zo σ' μ1) w' (zo (ze σ δ) (xn μ μ1 ren)):=by rw [hown2]; exact Stays.refl _ _
 have hmine:∀ b i,Mine (y9 σ ren 0 ren) (x3 σ μ ren) b i→∃ j o,j∈ren∧zf σ j=some o∧owns μ j o b i:=by
  rintro b i ⟨k,o,ho,h1⟩;obtain ⟨a,q,hk,hq,rfl,_⟩:=zaf hex ho;exact ⟨a,q,pz hk,hq,(w4 (show x3 σ μ ren k=μ a from congrArg μ.lo (zbv hk)) q b i).1 ((zaz _ _ _ _ _).1 h1)⟩
 have hmine':∀ b i,Mine (y9 σ ren 0 ren) (x3 σ μ ren) b i→Mine σ μ b i:=λ b i h=>let ⟨j,o,_,ho,h1⟩:=hmine b i h; ⟨j,o,ho,h1⟩
 -- the callee's objects,outside
 have hback:∀ {j:Nat},j∈ren→∀ {o},zf (ze σ δ) j=some o→∃ new,zf σ' (xb ren j)=some new∧LikeO (new.ren (za5 ren)) o∧xn μ μ1 ren j=μ1 (xb ren j):=by
  intro j hj o ho;obtain ⟨h1,h2⟩:=xm hj;have hk:ren[xb ren j]?=some j:=by rw [za4 h2,h1]
  obtain ⟨new,o',h3,h4,h5⟩:=hget hk;rw [ho] at h4; cases h4;exact ⟨new,h3,h5,hmu hk⟩
 have hownIn:∀ {j:Nat},j∈ren→∀ {o b i},zf (ze σ δ) j=some o→owns (xn μ μ1 ren) j o b i→∃ new,zf σ' (xb ren j)=some new∧owns μ1 (xb ren j) new b i:=by
  intro j hj o b i ho h1;obtain ⟨new,h3,h5,h6⟩:=hback hj ho;exact ⟨new,h3,(w4 h6 new b i).1 ((zaz _ _ _ _ _).1 ((h5.owns _ _ _ _).1 h1))⟩
 have hgoes:Goes w σ μ w' (ze σ δ) (xn μ μ1 ren):=by
  have hg:=haf.goes;refine ⟨⟨hg.kept.os,hg.kept.output,hg.kept.size,λ b hb hn=>hg.kept.blk b hb λ i hm=>hn i (hmine' b i hm),λ b i x hn hc=>hg.kept.cell b i x (λ hm=>hn (hmine' b i hm)) hc⟩,?_,rfl⟩;rintro b i hb ⟨j,o,ho,h1⟩;by_cases hj:j∈ren
  ·obtain ⟨new,h3,h4⟩:=hownIn hj ho h1;exact hmine' b i (hg.own b i hb ⟨_,new,h3,h4⟩)
  ·exact ⟨j,o,by rw [←hrest hj]; exact ho,(w4 (hmu' hj) o b i).1 h1⟩
 have hs:=hgoes.stays' hi
 -- names of the callee's,outside
 have hname:∀ k,k<ren.length→∀ new,zf σ' k=some new→∃ o,zf (ze σ δ) (za5 ren k)=some o∧LikeO (new.ren (za5 ren)) o∧xn μ μ1 ren (za5 ren k)=μ1 k:=by
  intro k hk new hnew;have hk':=za4 hk;obtain ⟨new',o,h3,h4,h5⟩:=hget hk';rw [hnew] at h3; cases h3;exact ⟨o,h4,h5,hmu hk'⟩
 have hcompat:∀ k,k<ren.length→qk (zf σ' k) (zf (ze σ δ) (za5 ren k))∧xn μ μ1 ren (za5 ren k)=μ1 k:=by
  intro k hk;refine ⟨?_,hmu (za4 hk)⟩;cases hn:zf σ' k with
  | none=>trivial
  | some new=>
   obtain ⟨o,h1,h2,_⟩:=hname k hk new hn;rw [h1];have:=h2.compat;cases new <;> cases o <;> first | exact this.elim | exact this
 have hrv:∀ (x:Value) (v:V),(∀ i∈v.ids,i<ren.length)→RV w' σ' μ1 x v→RV w' (ze σ δ) (xn μ μ1 ren) x (v.ren (za5 ren)):=
  λ x v hv hrv=>hrv.rename (za5 ren) hst2 λ id hid=>hcompat id (hv id hid)
 have hstill:∀ id o,zf σ id=some o→yr μ id o (xn μ μ1 ren) (zf (ze σ δ) id):=by
  intro id o ho;by_cases hj:id∈ren
  ·obtain ⟨h1,h2⟩:=xm hj;have hk:ren[xb ren id]?=some id:=by rw [za4 h2,h1]
   obtain ⟨new,o',h3,h4,h5⟩:=hget hk;rw [h4];refine h5.still _ _ _ _ ?_;have hg:=zdn hex hj;rw [ho] at hg;have:=haf.still _ _ hg;rw [h3] at this;have e1:x3 σ μ ren (xb ren id)=μ id:=congrArg μ.lo h1;have e2:xn μ μ1 ren id=μ1 (xb ren id):=hmu hk
   cases o <;> cases new <;> simp only [Option.map_some,Ob.ren,yr] at this ⊢ <;> first
    | exact this.elim
    | (rw [e2,←e1]; exact this)
  ·rw [hrest hj,ho];have e:=hmu' hj;cases o <;> simp [yr,e]
 refine ⟨⟨⟨λ id o ho=>?_,λ id id' o o' b i ho ho' h1 h2=>?_,by rw [hown2]; exact haf.inv.glob,λ id o b i ho h j hf=>?_,λ b i hf=>?_,λ q es clock i hm hf=>?_⟩,hgoes,hstill,rfl⟩,hrv⟩
 ·-- the objects
  by_cases hj:id∈ren
  ·obtain ⟨h1,h2⟩:=xm hj;have hk:ren[xb ren id]?=some id:=by rw [za4 h2,h1]
   obtain ⟨new,o',h3,h4,h5⟩:=hget hk;rw [ho] at h4; cases h4;refine h5.ok _ _ _ _ ?_;have:=(haf.inv.ob _ _ h3).rename (τ:=ze σ δ) (ν:=xn μ μ1 ren) (za5 ren) hst2 (by rw [h1]; exact hmu hk) λ j hj=>hcompat j ((hσ' _ _ h3).2 j hj)
   rw [h1] at this;exact this
  ·rw [hrest hj] at ho;have hok:=hi.ob id o ho;have e2:=hmu' hj;have hfree:∀ b,(μ id).blk=some b→w'.heap[b]?=w.heap[b]?:=by
    intro b hb;have hoi:owns μ id o b (μ id).f:=by cases o <;> simp [owns,hb]
    refine haf.goes.kept.blk b (zb2 hi ho hoi) λ i hm=>hj ?_;obtain ⟨a,q,ha,hq,h1⟩:=hmine b i hm;exact hi.blockApart ho hq hoi h1 ▸ ha
   have rv:∀ v x,RV w σ μ v x→RV w' (ze σ δ) (xn μ μ1 ren) v x:=λ v x hv=>hv.stays hs λ id _ o ho=>hstill id o ho;cases o with
   | val n v=>
    obtain ⟨b,cs,el,hb,hh,hn,ht,h1,hr,htag⟩:=hok;exact ⟨b,cs,el,e2 ▸ hb,(hfree b hb).trans hh,hn,ht,h1,hr.map λ v x _=>rv v x,htag⟩
   | row l=>
    show wz w' _ (xn μ μ1 ren id) l;rw [e2];exact wz.stays hs hok λ b hb _=>hfree b hb
   | tok n=>
    intro b hb;rw [e2] at hb ⊢;obtain ⟨cs,el,fr,hh,hz⟩:=hok b hb;exact ⟨cs,el,fr,(hfree b hb).trans hh,hz⟩
   | map ks vs=>
    obtain ⟨b,es,clock,hb,hh,hk,hv⟩:=hok;exact ⟨b,es,clock,e2 ▸ hb,(hfree b hb).trans hh,hk.stays hs,hv.stays hs⟩
 ·by_cases hj:id∈ren
  ·obtain ⟨new,h3,h4⟩:=hownIn hj ho h1;by_cases hj':id'∈ren
   ·obtain ⟨new',h3',h4'⟩:=hownIn hj' ho' h2;have:=haf.inv.apart _ _ _ _ b i h3 h3' h4 h4';rw [← (xm hj).1,← (xm hj').1,this]
   ·rw [hrest hj'] at ho';exact (haf.inv.frame _ _ b i h3 h4 i (by rw [hfr1]; exact .inr ⟨id',o',hj',ho',(w4 (hmu' hj') o' b i).1 h2⟩)).elim
  ·rw [hrest hj] at ho;have h1':=(w4 (hmu' hj) o b i).1 h1;by_cases hj':id'∈ren
   ·obtain ⟨new',h3',h4'⟩:=hownIn hj' ho' h2;exact (haf.inv.frame _ _ b i h3' h4' i (by rw [hfr1]; exact .inr ⟨id,o,hj,ho,h1'⟩)).elim
   ·rw [hrest hj'] at ho';exact hi.apart _ _ _ _ b i ho ho' h1' ((w4 (hmu' hj') o' b i).1 h2)
 ·by_cases hj:id∈ren
  ·obtain ⟨new,h3,h4⟩:=hownIn hj ho h;exact haf.inv.frame _ _ b i h3 h4 j (by rw [hfr1]; exact .inl hf)
  ·rw [hrest hj] at ho;exact hi.frame id o b i ho ((w4 (hmu' hj) o b i).1 h) j hf
 ·exact Nat.lt_of_lt_of_le (hi.frLt b i hf) haf.goes.kept.size
 ·have hlt:=hi.frLt q i hf;rw [haf.goes.kept.blk q hlt λ k hm=>by
   obtain ⟨a,p,ha,hp,h1⟩:=hmine q k hm;exact hi.frame a p q k hp h1 i hf] at hm
  exact hi.frMap q es clock i hm hf
theorem zuc(hi:Inv cx w σ μ){args:List V}{vs:List Value}(hv:RVs w σ μ vs args){ren:List Nat}(hnd:ren.Nodup)(hargs:∀ i∈V.idsL args,i∈ren)
  (hcl:∀ i∈ren,∃ o,zf σ i=some o∧∀ j∈o.ids,j∈ren) :
  (y9 σ ren 0 ren).length=ren.length∧Inv cx w (y9 σ ren 0 ren) (x3 σ μ ren)∧Canon (y9 σ ren 0 ren)∧RVs w (y9 σ ren 0 ren) (x3 σ μ ren) vs (V.renL (xb ren) args) ∧
   (∀ i∈V.idsL (V.renL (xb ren) args),i<(y9 σ ren 0 ren).length)∧(∀ k,k<(y9 σ ren 0 ren).length→∃ o,zf (y9 σ ren 0 ren) k=some o) ∧
   zo (y9 σ ren 0 ren) (x3 σ μ ren)=zo σ μ:=by
 have hex:∀ i∈ren,∃ o,zf σ i=some o:=λ i h=>let ⟨o,ho,_⟩:=hcl i h; ⟨o,ho⟩;have hown:=zn2 (μ:=μ) hex;have hst:Stays w (zo σ μ) w (zo (y9 σ ren 0 ren) (x3 σ μ ren)):=by rw [hown]; exact Stays.refl _ _
 have hlen:(y9 σ ren 0 ren).length=ren.length:=zhh σ ren ren 0 hex;have hinv:=zu3 hi hnd hcl;have hcanon:Canon (y9 σ ren 0 ren):=λ k o ho=>by
  obtain ⟨a,q,hk,hq,rfl,hlt⟩:=zaf hex ho;refine ⟨by omega,λ i hin=>?_⟩
  rw [Ob.ren_ids,List.mem_map] at hin;obtain ⟨j,hj,rfl⟩:=hin;obtain ⟨q',hq',hids⟩:=hcl a (pz hk);rw [hq] at hq'; cases hq';rw [hlen];exact (xm (hids j hj)).2
 have hvs:RVs w (y9 σ ren 0 ren) (x3 σ μ ren) vs (V.renL (xb ren) args):=
  hv.rename (xb ren) hst λ id hid=>⟨by rw [zdn hex (hargs id hid)]; exact qk.ren _ _,congrArg μ.lo (xm (hargs id hid)).1⟩
 have hargs':∀ i∈V.idsL (V.renL (xb ren) args),i<(y9 σ ren 0 ren).length:=λ i hin=>by
  rw [V.renL_ids,List.mem_map] at hin;obtain ⟨j,hj,rfl⟩:=hin;rw [hlen];exact (xm (hargs j hj)).2
 have hfull:∀ k,k<(y9 σ ren 0 ren).length→∃ o,zf (y9 σ ren 0 ren) k=some o:=λ k hk=>by
  rw [hlen] at hk;obtain ⟨i,hik⟩:=yj hk;obtain ⟨o,ho⟩:=hex i (pz hik);have:=zdn hex (pz hik);rw [qn hnd hik,ho] at this;exact ⟨_,this⟩
 exact ⟨hlen,hinv,hcanon,hvs,hargs',hfull,hown⟩
theorem zl3{call:Nat→List V→St→Option (Out×St)}(hcall:vq cx call)(hi:Inv cx w σ μ){t f:Nat}{args:List V}{xs:List Nat}{vs:List Value}(hv:RVs w σ μ vs args){K:Oc→De→List Nat→Option R}{r:R}
  (h:vf cx call σ t f args xs K=some r) :
  ∃ oc δ fp,K oc δ fp=some r∧(∃ fn,cx.P.funcs[f]?=some fn∧fn.body.isNone=false)∧Calls cx.P f vs.toArray w λ e w'=>∃ μ',After cx w σ μ w' (ze σ δ) μ' ∧
   match oc,e with
   | .val v,.returned x=>RV w' (ze σ δ) μ' x v
   | .pan v,.panicked chain=>∃ x,chain=[{ v:=x,recovered:=false }]∧RV w' (ze σ δ) μ' x v
   | _,_=>False:=by
 unfold vf at h;simp only at h;generalize hren:wy σ 1000 (V.idsL args++xs) []=ren at h;obtain ⟨hc,h⟩:=zd h;obtain ⟨_,h⟩:=zd h;obtain ⟨hnd,hargs0,hcl⟩:=zde hc;have hargs:∀ i∈V.idsL args,i∈ren:=λ i hi=>hargs0 i (List.mem_append_left _ hi);have hex:∀ i∈ren,∃ o,zf σ i=some o:=λ i h=>let ⟨o,ho,_⟩:=hcl i h; ⟨o,ho⟩;obtain ⟨hlen,hinv,hcanon,hvs,hargs',hfull,_⟩:=zuc hi hv hnd hargs hcl
 have fin:∀ (out:Out) (σ':St) (δ:De),call f (V.renL (xb ren) args) (y9 σ ren 0 ren)=some (out,σ')→δ.map (·.1)=ren →
   (∀ (j i:Nat),ren[j]?=some i→∃ old new o,zf σ i=some old∧zf σ' (0+j)=some new∧δ[j]?=some (i,o)∧LikeO (new.ren (za5 ren)) o) →
   (∀ k o,zf σ' k=some o→k<ren.length∧∀ i∈o.ids,i<ren.length) →
   ∀ (w':World) (μ1:Mu),After cx w (y9 σ ren 0 ren) (x3 σ μ ren) w' σ' μ1 →
    After cx w σ μ w' (ze σ δ) (xn μ μ1 ren) ∧
    ∀ (x:Value) (v:V),(∀ i∈v.ids,i<ren.length)→RV w' σ' μ1 x v→RV w' (ze σ δ) (xn μ μ1 ren) x (v.ren (za5 ren)):=
  λ _ _ _ _ h1 h2 h3 _ _ h4=>zrs hi hnd hcl h1 h2 h3 h4
 cases hcl2:call f (V.renL (xb ren) args) (y9 σ ren 0 ren) with
 | none=>rw [hcl2] at h; cases h
 | some p=>
  obtain ⟨out,σ'⟩:=p;rw [hcl2] at h;obtain ⟨hfn,hσ',hout,hrun⟩:=hcall.2 f _ _ out σ' hcl2 w (x3 σ μ ren) vs hinv hcanon hargs' hfull hvs;rw [hlen] at hσ' hout;cases out with
  | ret v=>
   obtain ⟨δ,h1,h2,h3⟩:=zcf ren 0 h;obtain ⟨u,h4,h5⟩:=zl1 h1;refine ⟨.val u,δ,ren,h4,hfn,hrun.mono ?_⟩;intro e w' ⟨μ1,haf,hv⟩;obtain ⟨g1,g2⟩:=fin _ σ' δ hcl2 h2 h3 hσ' w' μ1 haf;refine ⟨xn μ μ1 ren,g1,?_⟩;cases e with
   | returned x=>exact h5 _ _ _ _ (g2 x v hout hv)
   | _=>exact hv.elim
  | pan v=>
   obtain ⟨δ,h1,h2,h3⟩:=zcf ren 0 h;refine ⟨.pan (v.ren (za5 ren)),δ,ren,h1,hfn,hrun.mono ?_⟩;intro e w' ⟨μ1,haf,hv⟩;obtain ⟨g1,g2⟩:=fin _ σ' δ hcl2 h2 h3 hσ' w' μ1 haf;refine ⟨xn μ μ1 ren,g1,?_⟩;cases e with
   | panicked chain=>obtain ⟨x,hx,hr⟩:=hv; exact ⟨x,hx,g2 x v hout hr⟩
   | _=>exact hv.elim
end
section
variable {R:Type} {cx:Cx} {w:World} {σ:St} {μ:Mu}
theorem wj{s:Sem Value}{P:Program}{w w':World}{v:Value}(h:s.run P w=.ok v w'):(do pure (Next.value (←s)):Sem Next).run P w=.ok (.value v) w':=by
 rw [Sem.run_bind,h]; rfl
theorem zqj{s:Sem Unit}{P:Program}{w w':World}(h:s.run P w=.ok () w'):(do s; pure Next.skip:Sem Next).run P w=.ok .skip w':=by
 rw [Sem.run_bind,h]; rfl
theorem zei{x:V}{K:Nat→List D→Option R}{r:R}(h:dataOf x K=some r):∃ sz l,dataOf x (λ a b=>some (a,b))=some (sz,l)∧K sz l=some r:=by
 unfold dataOf at h ⊢
 split at h <;> first
  | exact ⟨_,_,rfl,h⟩
  | cases h
theorem wa{id:Nat}{o:Ob}(h:z6 σ [(id,o)]=true):zf σ id=none:=by
 unfold z6 at h;cases hg:zf σ id with
 | none=>rfl
 | some q=>rw [hg] at h; simp at h
def yx(P : Program) : Prop := ∀ (f : Nat) (fn : Func), P.funcs[f]? = some fn → fn.name ≠ "runtime.NumGoroutine"
theorem zd4(hn:yx cx.P){f:Nat}{fn:Func}{args:Array Value}(hf:cx.P.funcs[f]?=some fn)(hb:fn.body.isNone=false) :
  (callFunc f args).run cx.P w=.ok (.enter f args) w:=by
 have h1 : (fn.name == "runtime.NumGoroutine") = false := by simpa using hn f fn hf
 unfold callFunc;rw [Sem.run_bind,run_program,Result.andThen_ok];simp only [hf,h1,hb,Bool.false_eq_true,if_false];rfl
theorem zn3{v:V}{v':Value}(h:RV w σ μ v' v):RV w σ μ v' v.handed:=by
 cases h with
 | sl v sz l id n h ht hn he=>exact .d _ _ h
 | d v x h=>exact .d _ _ h
 | ptr id off b hi hb=>exact .ptr id off b hi hb
 | eptr x b o off xs hc h=>exact .eptr x b o off xs hc h
 | gptr g off=>exact .gptr g off
 | agg cs l hl ho h=>exact .agg cs l hl ho h
 | slo id sz k cap base l hi hk hcap hn he=>exact .slo id sz k cap base l hi hk hcap hn he
 | wptr id sz k i off a l hi hk he=>exact .wptr id sz k i off a l hi hk he
 | mfunc f cs l h=>exact .mfunc f cs l h
 | func f cs l hl h=>exact .func f cs l hl h
 | map id b ks vs hi hb=>exact .map id b ks vs hi hb
 | iface t v u h=>exact .iface t v u h
 | tup cs l hl h=>exact .tup cs l hl h
theorem zgy{v:V}{v':Value}(h:RV w σ μ v' v):RV w σ μ v' v.handed2:=by
 cases v with
 | agg l=>
  cases hd:zey (.agg l) with
  | some d=>
   have e:V.handed2 (.agg l)=.d d:=by simp [V.handed2,hd]
   rw [e];exact .d _ _ (zdq h hd)
  | none=>
   have e:V.handed2 (.agg l)=.agg l:=by simp [V.handed2,hd]
   rw [e];exact h
 | _=>exact zn3 h
theorem zxy{b:Bool}{v:V}{v':Value}(h:RV w σ μ v' v):RV w σ μ v' (zzy b v):=by
 cases b
 ·exact h
 ·exact zgy h
theorem zfe{keep:Bool}{vs:List Value}{l:List V}(h:RVs w σ μ vs l):RVs w σ μ vs (qv keep l):=by
 unfold qv;cases keep
 ·refine ⟨by simp [h.1],λ i x y hx hy=>?_⟩
  simp only [p6,List.getElem?_map,Option.map_eq_some_iff] at hy;obtain ⟨z,hz,rfl⟩:=hy;exact zgy (h.2 i x z hx hz)
 ·exact h
theorem RVs.append'{vs ws:List Value}{l k:List V}(h:RVs w σ μ vs l)(h':RVs w σ μ ws k):RVs w σ μ (vs++ws) (l++k):=by
 refine ⟨by simp [h.1,h'.1],λ i x y hx hy=>?_⟩
 by_cases hi:i<vs.length
 ·rw [List.getElem?_append_left hi] at hx;rw [List.getElem?_append_left (by rw [←h.1]; exact hi)] at hy
  exact h.2 i x y hx hy
 ·rw [List.getElem?_append_right (by omega)] at hx
  rw [List.getElem?_append_right (by rw [←h.1]; omega)] at hy
  rw [←h.1] at hy;exact h'.2 _ x y hx hy
theorem zp3:∀ {l:List V} {ds:List D},zci l=some ds→l=ds.map .d
 | [],ds,h=>by cases h; rfl
 | x::l,ds,h=>by
  cases x <;> first | (simp [zci] at h; done) | skip
  simp only [zci] at h;split at h
  ·rename_i l' hl; cases h; rw [zp3 hl]; rfl
  ·cases h
theorem zko{a:Act}{fr:Fr}(hf:FR w σ μ a.tmps fr){x:Option Operand}{K:Option V→Option R}{r:R}
  (h:zd6 fr x K=some r):∃ v,K v=some r∧znl w σ μ v (x.map a.eval):=by
 cases x with
 | none=>exact ⟨none,h,trivial⟩
 | some x=>obtain ⟨v,hv,h⟩:=za h; exact ⟨some v,h,xe hf hv⟩
theorem zmj{a:Act}{fr:Fr}(hi:Inv cx w σ μ)(hf:FR w σ μ a.tmps fr){id:Nat}(haf:After cx w σ μ w (ze σ [(id,.tok 0)]) (setMu μ id ⟨none,0,0,0⟩))(hg:zf σ id=none) :
  ∀ (xs:List Operand) (ts:List Nat) (l:List V),q8 cx.P fr id xs ts=some l→RVs w (ze σ [(id,.tok 0)]) (setMu μ id ⟨none,0,0,0⟩) (xs.map a.eval) l
 | [],ts,l,h=>by simp only [q8] at h; cases h; exact ⟨rfl,by simp⟩
 | x::xs,ts,l,h=>by
  simp only [q8] at h;split at h
  ·cases h
  ·rename_i l' hl;have ih:=zmj hi hf haf hg xs _ l' hl;have one:∀ {v:V},RV w (ze σ [(id,.tok 0)]) (setMu μ id ⟨none,0,0,0⟩) (a.eval x) v→RVs w (ze σ [(id,.tok 0)]) (setMu μ id ⟨none,0,0,0⟩) ((x::xs).map a.eval) (v::l'):=by
    intro v hv;refine ⟨by simp [ih.1],λ i p q hp hq=>?_⟩
    cases i with
    | zero=>simp at hp hq; subst hp; subst hq; exact hv
    | succ i=>exact ih.2 i p q (by simpa using hp) (by simpa using hq)
   split at h
   ·split at h
    ·cases h;exact one (zeo (w:=w) (μ:=μ) (base:=none) hg (cap:=0) rfl (.inr rfl)).2
    ·cases h
   ·split at h
    ·rename_i v hv;cases h;exact one (haf.rv hi (xe hf hv))
    ·cases h
theorem zox{P:Program}{t xt:Nat}{ok:Bool}{v:Value}{w:World}(ht:qd P t=true)(hif:isIface P t=false) :
  (Instr.typeAssert (.iface t v) xt t ok).run P w=.ok (if ok then .tuple #[v,.bool true] else v) w:=by
 unfold qd at ht;unfold isIface at hif;cases hu:P.underlying t with
 | none=>rw [hu] at ht; cases ht
 | some u=>
  rw [hu] at hif;unfold Instr.typeAssert;cases u <;> first | (cases hif; done) | simp [run_underlying hu]
theorem zwn{P:Program}{g:Nat}(h:zfd P g=true)(x:Value){w:World}:(callFunc g #[x]).run P w=.ok (.value x) w:=by
 unfold zfd at h;split at h
 ·rename_i fn hfn;simp only [pq,beq_iff_eq] at h;obtain ⟨⟨h1,h2⟩,h3⟩:=h;have e1:Extern.findNext fn=none:=by
   unfold Extern.findNext;rw [h2,h3];kernel_rfl
  have e2:Extern.find fn=some Extern.AbiNoEscape.same:=by
   unfold Extern.find;rw [h2,h3];kernel_rfl
  rw [run_callFunc_extern hfn (by rw [h2]; decide) h1 e1 e2]
  rfl
 ·cases h
theorem zxs{R:Type}{s t:Nat}{x:V}{x':Value}{K:V→List Nat→Option R}{r:R}(hi:Inv cx w σ μ)(hx:RV w σ μ x' x)(h:zly cx σ s t x K=some r) :
  ∃ v fp,K v fp=some r∧∃ v',(convert s t x').run cx.P w=.ok v' w∧RV w σ μ v' v:=by
 unfold zly at h;split at h
 ·rename_i id off;split at h
  ·rename_i n u ho;obtain ⟨hc,h⟩:=zd h;have hx0:=hx;cases hx with | ptr _ _ b hcell hb=>?_
   obtain ⟨b',cs,el,hb',hh,hn,htup,h1,hr,htag⟩:=hi.ob id _ ho;obtain rfl:b=b':=by rw [hb] at hb'; exact Option.some.inj hb'
   have hsh:w.shape? b=some (el,cs.size):=by simp [World.shape?,hh]
   refine ⟨_,_,h,_,?_,hx0⟩;unfold zzr at hc;split at hc
   ·rename_i e hs ht;rw [pq] at hc;obtain ⟨c1,c2⟩:=hc;split at c1
    ·rename_i j hj;have c3:off<cs.size:=by
      have:off<szN n:=by simpa using c2
      omega
     exact Go.Lib.run_to_unsafe w ⟨b,off,none⟩ hs ht hj (λ e0=>by rw [e0] at c1; cases c1) hsh c3
    ·cases c1
   ·rename_i e hs ht;simp only [pq,Bool.not_eq_true'] at hc;obtain ⟨⟨c1,c2⟩,c3⟩:=hc;obtain ⟨j,hj⟩:=Option.isSome_iff_exists.1 c1;have hel:el=n / 1048576 - 1:=by
     rcases htag with h | h
     ·have:Nat.blt n 1048576=true:=by simpa using h
      rw [this] at c2; cases c2
     ·show el=n / 1048576 - 1;rw [h]; rfl
    refine Go.Lib.run_from_unsafe w ⟨b,off,none⟩ hs ht hj hsh ?_;rw [hel,hn];exact c3
   ·cases hc
  ·cases h
 ·cases h
theorem zhs{m nt:Nat}{call:Nat→List V→St→Option (Out×St)}(hcall:vq cx call)(hn:yx cx.P)(hi:Inv cx w σ μ){a:Act}{fr:Fr}(hf:FR w σ μ a.tmps fr){o:Oper}
  {K:Oc→De→List Nat→Option R} {r:R} (h:xl cx m nt call o fr σ K=some r):∃ oc δ fp,K oc δ fp=some r∧za9 cx w σ μ a o oc δ:=by
 obtain ⟨dst,op,type,pos,after,guard⟩:=o
 have hval:∀ {v:V} {v':Value} {fp},K (.val v) [] fp=some r→True→RV w σ μ v' v→((execOp a.eval ⟨dst,op,type,pos,after,guard⟩).run cx.P w=.ok (.value v') w) →
   ∃ oc δ fp,K oc δ fp=some r∧za9 cx w σ μ a ⟨dst,op,type,pos,after,guard⟩ oc δ:=λ hK _ hv hr=>⟨_,_,_,hK,za9.value hi _ hr hv⟩
 have hmove:∀ {x:Operand},(execOp a.eval ⟨dst,op,type,pos,after,guard⟩=pure (.value (a.eval x))) →
   (match x with
   | .const (.slice none 0 0)=>
    (match cx.P.underlying type with
    | some (.slice e)=>(match zf σ (m+dst.getD 0) with
     | none=>bif cx.own nt (dst.getD 0) then K (.val (.slo (m+dst.getD 0) (cx.P.cellsOf e) 0)) [(m+dst.getD 0,.row [])] [m+dst.getD 0] else K (.val (.sl (cx.P.cellsOf e) [] (m+dst.getD 0))) [(m+dst.getD 0,.tok 0)] [m+dst.getD 0]
     | some _=>K (.val (.d (.sl (cx.P.cellsOf e) []))) [] [m+dst.getD 0])
    | _=>none)
   | x=>zc (opd fr x) λ v=>bif cx.thaw nt (dst.getD 0) then zgg σ v λ v δ fp=>K (.val v) δ fp else K (.val v) [] [])=some r→∃ oc δ fp,K oc δ fp=some r∧za9 cx w σ μ a ⟨dst,op,type,pos,after,guard⟩ oc δ:=by
  intro x he h;split at h
  ·split at h
   ·split at h
    ·rename_i hg;cases hown:cx.own nt (dst.getD 0) <;> rw [hown] at h
     ·obtain ⟨h1,h2⟩:=zeo (w:=w) (μ:=μ) (sz:=cx.P.cellsOf _) (base:=none) hg rfl (.inr rfl);exact ⟨_,_,_,h,za9.of_upd hi _ (by rw [he]; rfl) (zep hg) h1 h2⟩
     ·obtain ⟨h1,h2⟩:=zur (w:=w) (μ:=μ) (sz:=cx.P.cellsOf _) hg;exact ⟨_,_,_,h,za9.of_upd hi _ (by rw [he]; rfl) (zep hg) h1 h2⟩
    ·exact hval h trivial (.d _ _ (.sl0 none 0 _)) (by rw [he]; rfl)
   ·cases h
  ·obtain ⟨v,hv,h⟩:=za h;cases hth:cx.thaw nt (dst.getD 0) <;> rw [hth] at h
   ·exact hval h trivial (xe hf hv) (by rw [he]; rfl)
   ·rw [p5] at h;obtain ⟨u,δ,fp,hK,μ',ids,h1,h2,h3⟩:=zwe hi (xe hf hv) h;exact ⟨_,_,_,hK,za9.of_upd hi _ (by rw [he]; rfl) h1 h2 h3⟩
 cases op
 case makeFunc fn first caps=>
  cases fn <;> simp only [xl] at h <;> first | (cases h; done) | skip
  cases hfe:first.isEmpty <;> rw [hfe] at h
  ·rw [p6] at h;obtain ⟨hc,q1⟩:=zd h;obtain ⟨l,hl,q2⟩:=za q1;obtain ⟨ds,hds,hKK⟩:=za q2;have hce:caps = #[]:=by simpa using hc
   subst hce;have h1:=zbk hf _ _ _ hl;have h2:RVs w σ μ (first.toList.map a.eval) (l.map V.handed2):=⟨by simpa using h1.1,λ i x y hx hy=>by
    rw [List.getElem?_map,Option.map_eq_some_iff] at hy;obtain ⟨z,hz,rfl⟩:=hy;exact zgy (h1.2 i x z hx hz)⟩
   rw [zp3 hds] at h2;exact hval hKK trivial (.mfunc _ (first.map a.eval) ds (by simpa using h2.rd)) (wj (by simp [Instr.makeFunc]))
  ·rw [p5] at h;obtain ⟨l,hl,h⟩:=za h;have hfe:first = #[]:=by simpa using hfe
   subst hfe;obtain ⟨h1,h2⟩:=zbk hf _ _ _ hl;exact hval h trivial (.func _ (caps.map a.eval) l (by rw [←h1]; simp) λ i x y hx hy=>h2 i x y (by simpa using hx) hy) (wj (by simp [Instr.makeFunc]))
 case makeMap t rr=>
  cases rr <;> simp only [xl] at h <;> first | (cases h; done) | skip
  obtain ⟨hc,h⟩:=zd h;obtain ⟨w',h1,h2,h3,h4⟩:=zsm (cx:=cx) (w:=w) (μ:=μ) (t:=t) (wa hc);exact ⟨_,_,_,h,za9.of_upd hi _ (wj h1) h2 h3 h4⟩
 all_goals simp only [xl] at h
 all_goals first | (cases h; done) | skip
 case move x=>exact hmove rfl h
 case assign x=>exact hmove rfl h
 case pick c x y=>
  obtain ⟨c',hc,h⟩:=za h;obtain ⟨b,rfl,h⟩:=zh4 h;have hcb:a.eval c=.bool b:=by
   have hr:=xe hf hc;generalize a.eval c=q at hr;cases hr with | d _ _ hd=>cases hd; rfl
  cases b
  ·obtain ⟨v,hv,h⟩:=za h;exact hval h trivial (xe hf hv) (by simp [execOp,hcb,Go.asBool])
  ·obtain ⟨v,hv,h⟩:=za h;exact hval h trivial (xe hf hv) (by simp [execOp,hcb,Go.asBool])
 case alloc e=>
  obtain ⟨z,hz,h⟩:=za h;obtain ⟨hc,h⟩:=zd h;rw [pq,pq] at hc;obtain ⟨t1,t2⟩:=zov (cx:=cx) (nt:=nt) (dst:=dst) hc.2;obtain ⟨w',μ',h1,h2,h3,h4⟩:=zx1 (w:=w) (μ:=μ) t1 t2 hz _ rfl hc.1.1 (by
   have:=hc.1.2;cases ha:xq cx.P e
   ·right; simpa [ha] using this
   ·exact .inl rfl)
  exact ⟨_,_,_,h,za9.of_upd hi _ (wj h1) h2 h3 h4⟩
 case box e x=>
  obtain ⟨v,hv,h⟩:=za h;obtain ⟨hc,h⟩:=zd h;simp only [pq,Bool.not_eq_true'] at hc;obtain ⟨w',h1,h2,h3,h4⟩:=z1j (e:=e) hi (x2 hf hv) hc.1.1.1 ((po hc.1.1.2).trans (zov (cx:=cx) (nt:=nt) (dst:=dst) hc.2).1.symm) (zov hc.2).2 (wa hc.1.2);exact ⟨_,_,_,h,za9.of_upd hi _ (wj h1) h2 h3 h4⟩
 case build t ps=>
  cases hty:cx.typed nt (dst.getD 0)
  ·rw [hty,p6] at h;obtain ⟨z,hz,h⟩:=za h;obtain ⟨l,hl,h⟩:=za h;obtain ⟨cs,hcs,h⟩:=za h;obtain ⟨hk,h⟩:=zd h;obtain ⟨v',h1,h2⟩:=zxw (w:=w) hf hz hl hcs hk;exact hval h trivial (zxy h2) (wj h1)
  ·rw [hty,p5] at h;obtain ⟨z,hz,h⟩:=za h;obtain ⟨hc,h⟩:=zd h;simp only [pq] at hc;have hps:ps = #[]:=by simpa using hc.1.1
   obtain ⟨v',μ',h1,h2,h3,h4⟩:=zvs (w:=w) (μ:=μ) hz hc.1.2 hc.2;exact ⟨_,_,_,h,za9.of_upd hi _ (wj (by rw [hps]; simpa using h1)) h2 h3 h4⟩
 case buildSlice t n ps=>
  split at h
  ·rename_i e hu;obtain ⟨z,hz,h⟩:=za h;obtain ⟨l,hl,h⟩:=za h;obtain ⟨xs,hx,h⟩:=za h;obtain ⟨hc,h⟩:=zd h;simp only [pq,Bool.not_eq_true'] at hc;cases hbare:zpd cx nt dst ps.toList <;> rw [hbare] at h
   case true=>
    obtain ⟨w',h1,h2,h3⟩:=zpu hi hf hu hz hl hx (wa hc.1.1.1) (p4 hc.1.1.2) (p4 hc.1.2)
     (λ e=>by simp [e] at hc)
    exact ⟨_,_,_,h,za9.of_upd hi _ (wj h1) h2 (λ j hj=>by simp at hj) h3⟩
   cases hown:cx.own nt (dst.getD 0) <;> rw [hown] at h
   ·obtain ⟨w',lo,h1,h2,h3,h4⟩:=zgn hi hf hu hz hl hx (wa hc.1.1.1) (p4 hc.1.1.2) (p4 hc.1.2)
     (λ e=>by simp [e] at hc)
    exact ⟨_,_,_,h,za9.of_upd hi _ (wj h1) h2 h3 h4⟩
   ·obtain ⟨w',lo,h1,h2,h3,h4⟩:=zl6 hi hf hu hz hl hx (wa hc.1.1.1) (p4 hc.1.1.2) (p4 hc.1.2)
     (λ e=>by simp [e] at hc)
    exact ⟨_,_,_,h,za9.of_upd hi _ (wj h1) h2 h3 h4⟩
  ·cases h
 case makeSlice t n c=>
  obtain ⟨a',ha,h⟩:=za h;obtain ⟨b',hb,h⟩:=za h;obtain ⟨v,δ,fp,hK,v',w',μ',h1,h2,h3,h4⟩:=zm4 hi (xe hf ha) (xe hf hb) h;exact ⟨_,_,_,hK,za9.of_upd hi _ (wj h1) h2 h3 h4⟩
 case lookup t x i ok=>
  obtain ⟨a',ha,h⟩:=za h;obtain ⟨b',hb,h⟩:=za h;obtain ⟨v,fp,hK,v',h1,h2⟩:=zsp hi (xe hf ha) (xe hf hb) h;exact hval hK trivial h2 (wj h1)
 case mapUpdate t mm k x | insert t mm k x=>
  obtain ⟨a',ha,h⟩:=za h;obtain ⟨b',hb,h⟩:=za h;obtain ⟨c',hc,h⟩:=za h;obtain ⟨δ,fp,hK,w',id,h1,h2,h3⟩:=zsl hi (xe hf ha) (xe hf hb) (x2 hf hc) h;exact ⟨_,_,_,hK,za9.of_skip hi (zqj h1) h2 h3⟩
 case load t p=>
  obtain ⟨p',hp,h⟩:=za h;obtain ⟨v,fp,h,v',h1,h2⟩:=zqv hi (xe hf hp) h;exact hval h trivial h2 (wj h1)
 case store t p x=>
  obtain ⟨p',hp,q1⟩:=za h;clear h;cases hnl:(qt x&&cx.nils nt (ztq p)) <;> rw [hnl] at q1 <;> simp only [p5,p6] at q1
  rotate_left
  ·rw [pq] at hnl;have hx:x=.const (.slice none 0 0):=by
    have:=hnl.1;unfold qt at this;split at this
    ·rfl
    ·cases this
   subst hx;unfold zbq at q1;split at q1
   ·obtain ⟨hc,h⟩:=zd q1;clear q1;rw [pq] at hc;have hg:=wa hc.2;obtain ⟨b1,b2⟩:=zeo (w:=w) (μ:=μ) (sz:=cx.P.cellsOf _) (base:=none) (cap:=0) hg rfl (.inr rfl);have haf:=(zep (cx:=cx) hg).after hi b1;obtain ⟨δ,fp,hK,w',id,h1,h2,h3⟩:=zig haf.inv (haf.rv hi (xe hf hp)) b2 h hc.1;refine ⟨_,_,_,hK,λ next Q hk=>?_⟩
    have hr:(execOp a.eval ⟨dst,.store t p (.const (.slice none 0 0)),type,pos,after,guard⟩).run cx.P w=.ok .skip w':=zqj h1;unfold Oper.wp;rw [hr];exact hk undef w' _ (haf.trans (h2.after haf.inv h3)) (.tup #[] [] rfl (by simp))
   ·cases q1
  obtain ⟨v,hv,h⟩:=za q1;clear q1;obtain ⟨hty,h⟩:=zd h;obtain ⟨δ,fp,h,w',id,h1,h2,h3⟩:=zig hi (xe hf hp) (x2 hf hv) h hty;exact ⟨_,_,_,h,za9.of_skip hi (zqj h1) h2 h3⟩
 case nilCheck x=>
  obtain ⟨v,hv,h⟩:=za h;have hr:=xe hf hv;split at h
  ·refine hval h trivial hr ?_;generalize hq:a.eval x=q at hr ⊢;cases hr with | ptr id off b _ _=>simp [execOp,hq]
  ·refine hval h trivial hr ?_;generalize hq:a.eval x=q at hr ⊢;cases hr with | eptr x b o off xs hc hh=>simp [execOp,hq]
  ·refine hval h trivial hr ?_;generalize hq:a.eval x=q at hr ⊢;cases hr with | gptr g off=>simp [execOp,hq]
  ·refine hval h trivial hr ?_;generalize hq:a.eval x=q at hr ⊢;cases hr with | wptr id sz k i off a l _ _ _=>simp [execOp,hq]
  ·refine hval h trivial hr ?_;generalize hq:a.eval x=q at hr ⊢;cases hr with | func f cs l hl hh=>simp [execOp,hq]
  ·refine hval h trivial hr ?_;generalize hq:a.eval x=q at hr ⊢;cases hr with | mfunc f cs l hh=>simp [execOp,hq]
  ·cases h
 case binOp op t x y u=>
  obtain ⟨v1,hv1,h⟩:=za h;obtain ⟨v2,hv2,h⟩:=za h;obtain ⟨v,h,v',h1,h2⟩:=zzm (w:=w) (x2 hf hv1) (x2 hf hv2) h;exact hval h trivial h2 (wj h1)
 case unOp op t x=>
  obtain ⟨v1,hv1,h⟩:=za h;obtain ⟨v,h,v',h1,h2⟩:=zz2 (P:=cx.P) (w:=w) (xe hf hv1) h;exact hval h trivial h2 (wj h1)
 case convert s t x=>
  obtain ⟨v1,hv1,h⟩:=za h;split at h
  ·rename_i e' e sz l id hu1 hu2;split at h
   ·rename_i n hu3 hg;obtain ⟨hc,h'⟩:=zd h;clear h;simp only [pq,Bool.not_eq_true',decide_eq_true_eq] at hc;obtain e3:=po hc.1.1;subst e3;have h:=h';rw [hu1] at hu2; cases hu2;obtain ⟨w',h1,h2,h3,h4⟩:=zu5 hi (x2 hf hv1) (by have:=hc.1.2; intro e; simp [e] at this) hg hc.2 hu1 hu3
    exact ⟨_,_,_,h,za9.of_upd hi _ (wj h1) h2 h3 h4⟩
   ·cases h
  ·cases hun:zw8 cx.P s t <;> rw [hun] at h <;> simp only [p5,p6] at h
   ·obtain ⟨v,h,v',h1,h2⟩:=zxr (w:=w) (x2 hf hv1) h;exact hval h trivial h2 (wj h1)
   ·obtain ⟨v,fp,h,v',h1,h2⟩:=zxs hi (x2 hf hv1) h;exact hval h trivial h2 (wj h1)
 case makeInterface t x=>
  split at h
  ·cases h
  ·cases h
  ·rename_i hu1 hu2;obtain ⟨v,hv,h⟩:=za h;have hr:=x2 hf hv;have hrun:(Instr.makeInterface t (a.eval x)).run cx.P w=.ok (.iface t (a.eval x)) w:=by
    unfold Instr.makeInterface;cases hu:cx.P.underlying t with
    | none=>exact absurd hu hu2
    | some u=>
     rw [Sem.run_bind,run_underlying hu,Result.andThen_ok];cases u <;> first | rfl | exact absurd hu (hu1 _)
   split at h
   ·rename_i y hy;exact hval h trivial (.d _ _ (.iface t _ _ (zdq hr hy))) (wj hrun)
   ·exact hval h trivial (.iface t _ _ hr) (wj hrun)
 case slice t x lo hii mx=>
  obtain ⟨v1,hv1,h⟩:=za h;obtain ⟨l,h,hl⟩:=zko hf h;obtain ⟨hh,h,hhh⟩:=zko hf h;obtain ⟨mm,h,hm⟩:=zko hf h;obtain ⟨v,δ,fp,h,v',μ',ids,h1,h2,h3,h4⟩:=zul (x2 hf hv1) hl hhh hm h;exact ⟨_,_,_,h,za9.of_upd hi _ (wj h1) h2 h3 h4⟩
 case fieldAddr s x f=>
  obtain ⟨v1,hv1,h⟩:=za h;obtain ⟨v,h,v',h1,h2⟩:=zm7 (w:=w) (xe hf hv1) h;exact hval h trivial h2 (wj h1)
 case field t x f=>
  obtain ⟨v1,hv1,h⟩:=za h;obtain ⟨p,hp,h⟩:=za h;obtain ⟨v,h,v',h1,h2⟩:=zxe (w:=w) (xe hf hv1) hp h;exact hval h trivial h2 (wj h1)
 case indexAddr t x i=>
  obtain ⟨v1,hv1,h⟩:=za h;obtain ⟨v2,hv2,h⟩:=za h;obtain ⟨v,h,v',h1,h2⟩:=zm5 (w:=w) (xe hf hv1) (xe hf hv2) h;exact hval h trivial h2 (wj h1)
 case index t x i=>
  obtain ⟨v1,hv1,h⟩:=za h;obtain ⟨v2,hv2,h⟩:=za h;obtain ⟨v,h,v',h1,h2⟩:=zu4 (w:=w) (xe hf hv1) (xe hf hv2) h;exact hval h trivial h2 (wj h1)
 case extract t i=>
  obtain ⟨v1,hv1,h⟩:=za h;obtain ⟨l,rfl,h⟩:=zmc h;obtain ⟨v,hv,h⟩:=zf5 h;have hr:=xe hf hv1;generalize hq:a.eval t=q at hr;cases hr with | tup cs _ hl hh=>?_
  have hlt:i<cs.size:=by rw [hl]; exact (pr.1 hv).1
  exact hval h trivial (hh i cs[i] v (by simp) hv) (wj (by simp [Instr.extract,hq,hlt]))
 case panic x=>
  obtain ⟨v1,hv1,h⟩:=za h;split at h <;> first | (cases h; done) | skip
  rename_i t y;have hr:=xe hf hv1;refine ⟨_,_,_,h,λ next Q hk=>?_⟩
  have hk:=hk _ w μ (After.refl hi) hr;generalize hq:a.eval x=q at hr hk;cases hr with | d v' _ hd=>?_
  cases hd with | iface _ v0 _ h0=>?_
  unfold Oper.wp;have:(execOp a.eval ⟨dst,.panic x,type,pos,after,guard⟩).run cx.P w=.halt (.panic (.iface t v0)) w:=by
   simp [execOp,hq,Instr.panic]
  rw [this];exact hk
 case typeAssert x xt t ok=>
  obtain ⟨v,hv,h1⟩:=za h;clear h;unfold zh3 at h1;obtain ⟨hc,h2⟩:=zd h1;clear h1;simp only [pq,Bool.not_eq_true'] at hc;split at h2
  ·rename_i t' y;cases hb:Nat.beq t' t <;> rw [hb] at h2
   ·cases h2
   ·obtain rfl:=po hb;have hr:=xe hf hv;generalize hq:a.eval x=q at hr;cases hr with | d v' _ hd=>?_
    cases hd with | iface _ v0 _ h0=>?_
    refine hval h2 trivial ?_ (wj (v:=if ok then .tuple #[v0,.bool true] else v0) (by rw [hq]; exact zox hc.1 hc.2))
    cases ok
    ·exact .d _ _ h0
    ·refine .tup _ _ rfl λ i p q hp hq=>?_
     match i with
     | 0=>simp at hp hq; subst hp; subst hq; exact .d _ _ h0
     | 1=>simp at hp hq; subst hp; subst hq; exact .d _ _ (.bool true)
     | i+2=>simp at hp
  ·cases h2
 case call c=>
  obtain ⟨callee,cargs,ctypes⟩:=c;split at h
  ·rename_i f hcl;simp only at hcl;subst hcl;obtain ⟨fv,hfv,h⟩:=za h;split at h <;> first | (cases h; done) | skip
   ·rename_i g first
    have hr:=xe hf hfv;generalize hq:a.eval f=q at hr;cases hr with | mfunc _ cs _ hcs=>?_
    have hrun:∀ {fn:Func},cx.P.funcs[g]?=some fn→fn.body.isNone=false→(execOp a.eval ⟨dst,.call ⟨.value f,cargs,ctypes⟩,type,pos,after,guard⟩).run cx.P w=.ok (.enter g (cs.toList++cargs.toList.map a.eval).toArray) w:=by
     intro fn hfn hbody;simp only [execOp,resolve,hq,Deferred.ofValue];rw [Sem.run_bind];simp only [Sem.run_pure,Result.andThen_ok,invoke];rw [show (cs++Array.map a.eval cargs++#[])=(cs.toList++cargs.toList.map a.eval).toArray by
      apply Array.ext'; simp]
     exact zd4 hn hfn hbody
    obtain ⟨l,hl,h⟩:=za h
    have hargs:RVs w σ μ (cs.toList++cargs.toList.map a.eval) (first.map .d++qv (cx.keep g) l):=
     RVs.append' hcs.rv (zfe (zbk hf _ _ _ hl))
    obtain ⟨oc,δ,fp,hK,⟨fn,hfn,hbody⟩,hcalls⟩:=zl3 hcall hi hargs h;refine ⟨oc,δ,fp,hK,λ next Q hk=>?_⟩
    unfold Oper.wp;rw [hrun hfn hbody,Oper.upon_enter];refine hcalls.mono λ e w' ⟨μ',haf,he⟩=>?_;cases oc with
    | val v=>cases e <;> first | exact hk _ _ _ haf he | exact he.elim
    | pan v=>cases e <;> first | exact he.elim | (obtain ⟨x,rfl,hx⟩:=he; exact hk _ _ _ haf hx)
   rename_i g cap;have hr:=xe hf hfv;generalize hq:a.eval f=q at hr;cases hr with | func _ cs _ hcl hch=>?_
   have hrun:∀ {fn:Func},cx.P.funcs[g]?=some fn→fn.body.isNone=false→(execOp a.eval ⟨dst,.call ⟨.value f,cargs,ctypes⟩,type,pos,after,guard⟩).run cx.P w=.ok (.enter g (cargs.toList.map a.eval++cs.toList).toArray) w:=by
    intro fn hfn hbody;simp only [execOp,resolve,hq,Deferred.ofValue];rw [Sem.run_bind];simp only [Sem.run_pure,Result.andThen_ok,invoke];rw [show (#[]++Array.map a.eval cargs++cs)=(cargs.toList.map a.eval++cs.toList).toArray by
     apply Array.ext'; simp]
    exact zd4 hn hfn hbody
   have hcap:RVs w σ μ cs.toList cap:=⟨by simpa using hcl,λ i x y hx hy=>hch i x y (by simpa using hx) hy⟩
   have tokd:∀ {l:List V} {xs:List Nat},z6 σ [(m+dst.getD 0,Ob.tok 0)]=true →
     (zf σ (m+dst.getD 0)=none→After cx w σ μ w (ze σ [(m+dst.getD 0,.tok 0)]) (setMu μ (m+dst.getD 0) ⟨none,0,0,0⟩)→RVs w (ze σ [(m+dst.getD 0,.tok 0)]) (setMu μ (m+dst.getD 0) ⟨none,0,0,0⟩) (cargs.toList.map a.eval) l) →
     (vf cx call (vv σ (m+dst.getD 0) (.tok 0)) type g (l++cap) xs λ oc δ fp=>K oc ((m+dst.getD 0,Ob.tok 0)::δ) ((m+dst.getD 0)::fp))=some r →
     ∃ oc δ fp,K oc δ fp=some r∧za9 cx w σ μ a ⟨dst,.call ⟨.value f,cargs,ctypes⟩,type,pos,after,guard⟩ oc δ:=by
    intro l xs hfr hl h;have hg:=wa hfr;obtain ⟨hob,_⟩:=zeo (w:=w) (μ:=μ) (sz:=0) (base:=none) hg (cap:=0) rfl (.inr rfl);have haf0:=(zep (cx:=cx) (w:=w) (μ:=μ) (ob:=.tok 0) hg).after hi hob
    have hargs:RVs w (vv σ (m+dst.getD 0) (.tok 0)) (setMu μ (m+dst.getD 0) ⟨none,0,0,0⟩) (cargs.toList.map a.eval++cs.toList) (l++cap):=
     RVs.append' (hl hg haf0) (hcap.map λ v x _ hv=>haf0.rv hi hv)
    obtain ⟨oc,δ,fp,hK,⟨fn,hfn,hbody⟩,hcalls⟩:=zl3 hcall haf0.inv hargs h;refine ⟨oc,_,_,hK,λ next Q hk=>?_⟩
    unfold Oper.wp;rw [hrun hfn hbody,Oper.upon_enter];refine hcalls.mono λ e w' ⟨μ',haf,he⟩=>?_;cases oc with
    | val v=>cases e <;> first | exact hk _ _ _ (haf0.trans haf) he | exact he.elim
    | pan v=>cases e <;> first | exact he.elim | (obtain ⟨x,rfl,hx⟩:=he; exact hk _ _ _ (haf0.trans haf) hx)
   cases hgr:(cx.grow g).isSome <;> rw [hgr] at h <;> simp only [p5,p6] at h
   rotate_left
   ·unfold zgk at h;split at h
    ·rename_i y hargs;obtain ⟨e,he,h⟩:=za h;obtain ⟨v,hv,h⟩:=za h;split at h
     ·rename_i n;obtain ⟨hc,hK⟩:=zd h;simp only [pq,decide_eq_true_eq] at hc;obtain ⟨⟨⟨⟨h0,h1⟩,hce⟩,hfr⟩,hsm⟩:=hc;have hg:=wa hfr;have hc0:cs.toList=[]:=by
       have h1:cap.length=0:=by simpa using hce
       exact List.eq_nil_of_length_eq_zero (by rw [hcap.1]; exact h1)
      obtain ⟨⟨fn,hfn,hbody⟩,hcalls⟩:=hcall.1 g e he n w h0 h1;have hya:=(xe hf hv).int_inv;have hav:(cargs.toList.map a.eval++cs.toList).toArray = #[.slice none 0 0,.int .i64 n]:=by
       rw [hargs,hc0]; simp [hya]; rfl
      have hsm:cx.P.cellsOf e<1048576:=by simpa using hsm
      refine ⟨_,_,_,hK,λ next Q hk=>?_⟩
      unfold Oper.wp;rw [hrun hfn hbody,Oper.upon_enter,hav];refine hcalls.mono λ x w' ⟨base,c,hx,hw⟩=>?_;subst hx;rcases hw with ⟨rfl,rfl,rfl⟩ | ⟨ncs,el,rfl,rfl,hsize⟩
      ·obtain ⟨b1,b2⟩:=zeo (w:=w') (μ:=μ) (sz:=cx.P.cellsOf e) (base:=none) (cap:=0) hg rfl (.inr rfl);exact hk _ _ _ ((zep (cx:=cx) hg).after hi b1) b2
      ·have hnh:(w.drew.alloc (.cells ncs el)).heap[w.heap.size]?=some (.cells ncs el (0,0)):=wh (w:=w.drew)
       have hup:Upd cx w σ μ (w.drew.alloc (.cells ncs el)) (ze σ [(m+dst.getD 0,.tok 0)]) (setMu μ (m+dst.getD 0) ⟨some w.heap.size,0,c * cx.P.cellsOf e,el⟩) [m+dst.getD 0]:=
        zgv (δ:=[(m+dst.getD 0,.tok 0)]) rfl rfl (by simp) (λ b hb=>alloc_old (w:=w.drew) b hb) hfr rfl (λ j hj=>by simp at hj; simp [setMu,hj])
         (λ j hj b hb=>by simp at hj; subst hj; simp [setMu] at hb; omega) (λ j hj j' hj' b _ _=>by simp at hj hj'; rw [hj,hj'])
       have hnew:zf (ze σ [(m+dst.getD 0,Ob.tok 0)]) (m+dst.getD 0)=some (.tok 0):=by simp [ze,zk]
       refine hk _ _ _ (hup.after hi λ j hj o' ho'=>?_) ?_
       ·simp at hj; subst hj;rw [hnew] at ho'; cases ho';intro b' hb';have hbb:w.heap.size=b':=by simpa [setMu] using hb'
        subst hbb;exact ⟨ncs,el,(0,0),hnh,by simp [setMu],by simp [setMu,hsize],.inl rfl⟩
       ·exact .slm (zie hsm) (.sl0 _ _ _) hnew (Nat.le_refl _) λ _=>zdx (zie hsm) (by simp [setMu]) (by simp [setMu]) (by simp [setMu]) (Nat.zero_le _) (.inl hsm)
     ·cases h
    ·cases h
   cases hsm:(zfd cx.P g&&cap.isEmpty) <;> rw [hsm] at h <;> simp only [p5,p6] at h
   rotate_left
   ·rw [pq] at hsm;obtain ⟨l,hl,h⟩:=za h;have hal:=zbk hf _ _ _ hl;unfold zuv at h;split at h
    ·rename_i v;have hc0:cs.toList=[]:=by
      have h1:cap.length=0:=by simpa using hsm.2
      exact List.eq_nil_of_length_eq_zero (by rw [hcap.1]; exact h1)
     obtain ⟨x,hx⟩:∃ x,cargs.toList.map a.eval=[x]:=List.length_eq_one_iff.1 hal.1;have hrx:RV w σ μ x v:=hal.2 0 x v (by rw [hx]; rfl) rfl
     exact hval h trivial hrx (by
      simp only [execOp,resolve,hq,Deferred.ofValue];rw [Sem.run_bind];simp only [Sem.run_pure,Result.andThen_ok,invoke];rw [show (#[]++Array.map a.eval cargs++cs) = #[x] by
       apply Array.ext'; simp [hc0,hx]]
      exact zwn hsm.1 x)
    ·cases h
   cases hgv:cx.gives g <;> rw [hgv] at h
   ·cases hnil:(cx.keep g&&zgx cargs.toList) <;> rw [hnil] at h
    ·obtain ⟨l,hl,h⟩:=za h
     have hargs:RVs w σ μ (cargs.toList.map a.eval++cs.toList) (qv (cx.keep g) l++cap):=
      RVs.append' (zfe (zbk hf _ _ _ hl)) hcap
     obtain ⟨oc,δ,fp,hK,⟨fn,hfn,hbody⟩,hcalls⟩:=zl3 hcall hi hargs h;refine ⟨oc,δ,fp,hK,λ next Q hk=>?_⟩
     unfold Oper.wp;rw [hrun hfn hbody,Oper.upon_enter];refine hcalls.mono λ e w' ⟨μ',haf,he⟩=>?_;cases oc with
     | val v=>cases e <;> first | exact hk _ _ _ haf he | exact he.elim
     | pan v=>cases e <;> first | exact he.elim | (obtain ⟨x,rfl,hx⟩:=he; exact hk _ _ _ haf hx)
    ·obtain ⟨l,hl,h⟩:=za h;obtain ⟨hfr,h⟩:=zd h;exact tokd hfr (λ hg haf0=>zmj hi hf haf0 hg _ _ _ hl) h
   ·obtain ⟨l,hl,h⟩:=za h;obtain ⟨hfr,h⟩:=zd h;exact tokd hfr (λ hg haf0=>zfe ((zbk hf _ _ _ hl).map λ v x _ hv=>haf0.rv hi hv)) h
  ·rename_i hcl;simp only at hcl;subst hcl;split at h
   ·rename_i x t hx ht;obtain ⟨v1,hv1,h⟩:=za h;obtain ⟨v,fp,h,v',h1,h2⟩:=zyv (ty:=type) hi (x2 hf hv1) h;have e1:cargs = #[x]:=by apply Array.ext'; simpa using hx
    have e2:ctypes = #[t]:=by apply Array.ext'; simpa using ht
    subst e1 e2;exact hval h trivial h2 (by
     simp only [execOp,resolve];rw [Sem.run_bind];simp only [Sem.run_pure,Result.andThen_ok,invoke,builtin];exact wj (by simpa using h1))
   ·cases h
  ·rename_i hcl;simp only at hcl;subst hcl;split at h
   ·rename_i s x t t' hx ht;obtain ⟨v1,hv1,h⟩:=za h;obtain ⟨v2,hv2,h⟩:=za h;obtain ⟨ht',h⟩:=zd h;have e1:cargs = #[s,x]:=by apply Array.ext'; simpa using hx
    have e2:ctypes = #[t,t']:=by apply Array.ext'; simpa using ht
    subst e1 e2
    have hexec:∀ {v' w'},(Builtin.append_ #[t,t'] type #[a.eval s,a.eval x]).run cx.P w=.ok v' w' →
      (execOp a.eval ⟨dst,.call ⟨.builtin .append,#[s,x],#[t,t']⟩,type,pos,after,guard⟩).run cx.P w=.ok (.value v') w':=by
     intro v' w' h1;simp only [execOp,resolve];rw [Sem.run_bind];simp only [Sem.run_pure,Result.andThen_ok,invoke,builtin];exact wj (by simpa using h1)
    unfold zc7 at h;split at h
    ·rename_i e hu;obtain ⟨sz',ys,hd,h⟩:=zei h;obtain ⟨hc,h⟩:=zd h;simp only [pq,Bool.or_eq_true,Nat.beq_eq] at hc;obtain ⟨z,hz⟩:=Option.isSome_iff_exists.1 hc.2;have hsz':sz'=cx.P.cellsOf e∨ys=[]:=hc.1.1.imp id λ h=>by simpa using h
     have hby:=p4 hc.1.2;cases hnil:qt s
     ·rw [hnil,p6] at h;split at h
      ·rename_i sz l id;split at h
       ·rename_i n hg;obtain ⟨hc2,h⟩:=zd h;simp only [pq,decide_eq_true_eq] at hc2;obtain ⟨⟨⟨hc3,hcT⟩,hc4⟩,hc5⟩:=hc2;obtain ⟨v',w',lo,h1,h2,h3,h4⟩:=zvw (ty:=type) hi (x2 hf hv1) (x2 hf hv2) hd hu hz ht' hsz' (po hc3) (ztu hcT) hby (hc4 ▸ hg) hc5;exact ⟨_,_,_,h,za9.of_upd hi _ (hexec h1) h2 h3 h4⟩
       ·cases h
      ·rename_i id sz k;split at h
       ·rename_i l hg;obtain ⟨hc2,hK⟩:=zd h;clear h;simp only [pq,decide_eq_true_eq] at hc2;obtain ⟨⟨hc3,hc4⟩,hc5⟩:=hc2;obtain rfl:=po hc4;obtain ⟨v',w',lo,h1,h2,h3,h4⟩:=zpx (ty:=type) hi (x2 hf hv1) (x2 hf hv2) hd hu hz ht' hsz' (po hc3) hby hg hc5;exact ⟨_,_,_,hK,za9.of_upd hi _ (hexec h1) h2 h3 h4⟩
       ·cases h
      ·cases h
     ·rw [hnil,p5] at h;obtain ⟨hc2,h⟩:=zd h;simp only [pq,decide_eq_true_eq] at hc2;have hs:a.eval s=.slice none 0 0:=by
       unfold qt at hnil;split at hnil
       ·rfl
       ·cases hnil
      obtain ⟨v',w',lo,h1,h2,h3,h4⟩:=znb (ty:=type) hi (x2 hf hv2) hd hu hz ht' hsz' hby (wa hc2.1.1) hc2.1.2 (by simpa using hc2.2)
      rw [←hs] at h1;exact ⟨_,_,_,h,za9.of_upd hi _ (hexec h1) h2 h3 h4⟩
    ·cases h
   ·cases h
  ·cases h
end
section
variable {R α:Type} {cx:Cx} {σ:St}
abbrev yn:=Nat→List V→St→Option (Out×St)
theorem zp{β:Type}(o:Option β)(F:β→Option α)(K:α→Option R):zc (zc o F) K=zc o λ x=>zc (F x) K:=by cases o <;> rfl
theorem zi(b:Bool)(X:Option α)(K:α→Option R):zc (zh b X) K=zh b (zc X K):=by cases b <;> rfl
theorem zx(b:Bool)(X Y:Option α)(K:α→Option R):zc (bif b then X else Y) K=bif b then zc X K else zc Y K:=by cases b <;> rfl
theorem zt(K:α→Option R):zc none K=none:=rfl
theorem zsc(x:α)(K:α→Option R):zc (some x) K=K x:=rfl
theorem zrx(v:V)(F:Bool→Option α)(K:α→Option R):zc (asB v F) K=asB v λ x=>zc (F x) K:=by unfold asB; split <;> rfl
theorem zmg(x:D)(k:IntKind)(F:Int→Option α)(K:α→Option R):zc (asInt x k F) K=asInt x k λ x=>zc (F x) K:=by unfold asInt; split <;> simp only [zx,zt]
theorem zjo(x:D)(F:Bool→Option α)(K:α→Option R):zc (asBool x F) K=asBool x λ x=>zc (F x) K:=by unfold asBool; split <;> rfl
theorem zmf(x:D)(F:List UInt8→Option α)(K:α→Option R):zc (zjn x F) K=zjn x λ x=>zc (F x) K:=by unfold zjn; split <;> rfl
theorem zop(x:D)(n:Nat)(F:List D→Option α)(K:α→Option R):zc (zrw x n F) K=zrw x n λ x=>zc (F x) K:=by unfold zrw; split <;> simp only [zx,zt]
theorem zmi(x:D)(n:Nat)(F:D→Option α)(K:α→Option R):zc (asAgg x n F) K=asAgg x n λ x=>zc (F x) K:=by unfold asAgg; split <;> simp only [zx,zt]
theorem zmh(x:V)(F:D→Option α)(K:α→Option R):zc (asD x F) K=asD x λ x=>zc (F x) K:=by unfold asD; split <;> rfl
theorem zam(l:List D)(i:Nat)(F:D→Option α)(K:α→Option R):zc (vd l i F) K=vd l i λ x=>zc (F x) K:=by unfold vd; split <;> rfl
theorem zcc(l:List V)(i:Nat)(F:V→Option α)(K:α→Option R):zc (zqr l i F) K=zqr l i λ x=>zc (F x) K:=by unfold zqr; split <;> rfl
theorem zmd(x:V)(F:List V→Option α)(K:α→Option R):zc (zme x F) K=zme x λ x=>zc (F x) K:=by unfold zme; split <;> rfl
theorem zp5(l:List V)(F:V→List V→Option α)(K:α→Option R):zc (unc l F) K=unc l λ x y=>zc (F x y) K:=by unfold unc; split <;> rfl
theorem zp2(l:List V)(F:Option α)(K:α→Option R):zc (unn l F) K=unn l (zc F K):=by unfold unn; split <;> rfl
theorem zak(P:Program)(t:Nat)(x:D)(F:V→Option α)(K:α→Option R):zc (zbu P t x F) K=zbu P t x λ x=>zc (F x) K:=by
 unfold zbu;split <;> simp only [zmg,zjo,zmf,zop,zmi,zt];split <;> rfl
theorem zek(P:Program)(t:Nat)(x:V)(F:V→Option α)(K:α→Option R):zc (zby P t x F) K=zby P t x λ x=>zc (F x) K:=by
 unfold zby;split
 ·exact zak P t _ F K
 ·exact zi _ _ _
theorem zst(op:BinOp)(k:IntKind)(a b:Int)(F:V→Option α)(K:α→Option R):zc (zn1 op k a b F) K=zn1 op k a b λ x=>zc (F x) K:=by cases op <;> first | rfl | simp only [zn1,zi,zt]
theorem zr5(op:BinOp)(a b:List UInt8)(F:V→Option α)(K:α→Option R):zc (zne op a b F) K=zne op a b λ x=>zc (F x) K:=by cases op <;> first | rfl | simp only [zne,zi,zt]
theorem zow(op:BinOp)(k:IntKind)(a b:Int)(F:V→Option α)(K:α→Option R):zc (zd1 op k a b F) K=zd1 op k a b λ x=>zc (F x) K:=by cases op <;> first | rfl | simp only [zd1,zi,zt]
theorem zrj(op:BinOp)(b:Bool)(F:V→Option α)(K:α→Option R):zc (eqV op b F) K=eqV op b λ x=>zc (F x) K:=by cases op <;> first | rfl | simp only [eqV,zt]
theorem zvu(P:Program)(cst:Bool)(op:BinOp)(t:Nat)(x y:V)(F:V→Option α)(K:α→Option R):zc (zvv P cst op t x y F) K=zvv P cst op t x y λ x=>zc (F x) K:=by
 unfold zvv;split
 case h_10=>
  simp only [zi];congr 1;split <;> simp only [zrj,zt]
 all_goals first | rfl | simp only [zr5,zi,zrj,zt] | skip
 split <;> simp only [zow,zst,zx,zt]
theorem zwa(op:UnOp)(x:V)(F:V→Option α)(K:α→Option R):zc (unV op x F) K=unV op x λ x=>zc (F x) K:=by unfold unV; split <;> rfl
theorem zjl(x:V)(F:Nat→List D→Option α)(K:α→Option R):zc (dataOf x F) K=dataOf x λ a b=>zc (F a b) K:=by unfold dataOf; split <;> rfl
theorem zlw(x:V)(F:Nat→List D→Option α)(K:α→Option R):zc (zjk x F) K=zjk x λ a b=>zc (F a b) K:=by unfold zjk; split <;> rfl
theorem ztc(P:Program)(s d:Nat)(x:V)(F:V→Option α)(K:α→Option R):zc (zol P s d x F) K=zol P s d x λ x=>zc (F x) K:=by
 unfold zol;split <;> try rfl
 split <;> simp only [zlw,zi,zt];congr 1; funext a b; congr 1;split <;> rfl
theorem zl9(v:Option V)(y d:Nat)(F:Nat→Option α)(K:α→Option R):zc (bound v y d F) K=bound v y d λ x=>zc (F x) K:=by unfold bound; split <;> simp only [zi,zt]
theorem zgw(v:V)(n:Nat)(F:Nat→Option α)(K:α→Option R):zc (index v n F) K=index v n λ x=>zc (F x) K:=by unfold index; split <;> simp only [zi,zt]
theorem zus(fr:Fr)(x:Option Operand)(F:Option V→Option α)(K:α→Option R):zc (zd6 fr x F) K=zd6 fr x λ x=>zc (F x) K:=by unfold zd6; split <;> simp only [zp]
theorem zdy(x:D):∀ (n off:Nat) (F:List D→Option α) (K:α→Option R),zc (zcz x off n F) K=zcz x off n λ x=>zc (F x) K
 | 0,off,F,K=>rfl
 | n+1,off,F,K=>by simp only [zcz,zam,zdy x n]
theorem zsq(t:Nat)(p:V)(F:V→List Nat→Option α)(K:α→Option R):zc (zcq cx σ t p F) K=zcq cx σ t p λ a b=>zc (F a b) K:=by
 unfold zcq;rw [zi];congr 1;split
 ·split <;> simp only [zx,zek,zak,zi,zcc,zam,zt]
 ·simp only [zx,zdy,zak,zi,zcc,zam,zt]
 ·split <;> simp only [zx,zdy,zak,zi,zcc,zam,zt]
 ·simp only [zp,zx,zmi,zak,zi,zcc,zam,zt]
 ·rfl
theorem ze7(t:Nat)(p v:V)(F:De→List Nat→Option α)(K:α→Option R):zc (qf cx σ t p v F) K=qf cx σ t p v λ a b=>zc (F a b) K:=by
 unfold qf;split <;> try rfl
 all_goals (split <;> simp only [zp,zx,zi,zt])
theorem zmw(site t:Nat)(p:V)(F:De→List Nat→Option α)(K:α→Option R):zc (zbq cx σ site t p F) K=zbq cx σ site t p λ a b=>zc (F a b) K:=by
 unfold zbq;split
 ·rw [zi,ze7]
 ·rfl
theorem zh0(P:Program):∀ (ts:List Nat) (vs:List V) (F:List V→Option α) (K:α→Option R),zc (zel P ts vs F) K=zel P ts vs λ x=>zc (F x) K
 | [],vs,F,K=>by simp only [zel,zp2]
 | t::ts,vs,F,K=>by
  simp only [zel,zp5,zek];congr 1; funext v r; congr 1; funext u;exact zh0 P ts r _ K
theorem zps(P:Program)(t:Nat)(v:V)(F:V→Option α)(K:α→Option R):zc (zem P t v F) K=zem P t v λ x=>zc (F x) K:=by
 unfold zem;split
 ·split <;> simp only [zmd,zh0]
 ·exact zek P t v F K
theorem zk2(o x:V)(F:V→Option α)(K:α→Option R):zc (zk3 o x F) K=zk3 o x λ x=>zc (F x) K:=by
 unfold zk3;split <;> simp only [zmh,zmg,zjo,zmf,zop];split <;> simp only [zx,zt]
theorem zk4:∀ (os vs:List V) (F:List V→Option α) (K:α→Option R),zc (zk5 os vs F) K=zk5 os vs λ x=>zc (F x) K
 | [],vs,F,K=>by simp only [zk5,zp2]
 | o::os,vs,F,K=>by
  simp only [zk5,zp5,zk2];congr 1; funext v r; congr 1; funext u;exact zk4 os r _ K
theorem zsr(o x:Ob)(F:Ob→Option α)(K:α→Option R):zc (znw o x F) K=znw o x λ x=>zc (F x) K:=by
 unfold znw;split
 ·rw [zi];congr 1;split
  ·exact zk4 _ _ _ K
  ·rfl
 ·rw [zi,zk2]
 ·rfl
theorem zjm(ren:List Nat)(σ':St):∀ (l:List Nat) (k:Nat) (F:De→Option α) (K:α→Option R),zc (qr ren σ σ' k l F) K=qr ren σ σ' k l λ x=>zc (F x) K
 | [],k,F,K=>rfl
 | i::l,k,F,K=>by
  simp only [qr,zp,zsr];congr 1; funext a; congr 1; funext b; congr 1; funext c;exact zjm ren σ' l (k+1) _ K
theorem zg3(call:yn)(t f:Nat)(args:List V)(xs:List Nat)(F:Oc→De→List Nat→Option α)(K:α→Option R):zc (vf cx call σ t f args xs F) K=vf cx call σ t f args xs λ a b c=>zc (F a b c) K:=by
 unfold vf;simp only [zi];congr 1;congr 1;split <;> simp only [zjm,zps,zt]
end
section
variable {R:Type} {cx:Cx} {w:World} {σ:St} {μ:Mu}
def zev(w:World)(σ:St)(μ:Mu):Ex→Exit→Prop
 | .normal,.normal=>True
 | .ret,.ret=>True
 | .exit i,.exit j=>i=j
 | .goto i,.goto j=>i=j
 | .pan v,.panic chain=>∃ x,chain=[{ v:=x,recovered:=false }]∧RV w σ μ x v
 | _,_=>False
structure Now (cx:Cx) (nt:Nat) (ds:List Deferred) (w₀:World) (σ₀:St) (μ₀:Mu) (a:Act) (w:World) (σ:St) (μ:Mu) (fr:Fr):Prop where
 after:After cx w₀ σ₀ μ₀ w σ μ
 fr:FR w σ μ a.tmps fr
 size:nt≤a.tmps.size
 defers:a.defers=ds
def y6(fr fr':Fr):Prop:=∀ t,zf fr' t=zf fr t
theorem FR.same{tmps:Array Value}{fr fr':Fr}(h:FR w σ μ tmps fr)(hs:y6 fr fr'):FR w σ μ tmps fr':=λ t v ht=>h t v (by rw [←hs t]; exact ht)
theorem y6.refl(fr:Fr):y6 fr fr:=λ _=>rfl
theorem y6.dup{fr:Fr}{t:Nat}{v:V}(h:zf fr t=some v):y6 fr ((t,v)::fr):=by
 intro t';simp only [zf];cases hb:Nat.beq t t'
 ·rfl
 ·obtain rfl:=po hb;exact h.symm
theorem RV.bool_of{v:V}{b:Bool}(h:RV w σ μ (.bool b) v):v=.d (.bool b):=by
 cases h with
 | d _ x hd=>cases hd; rfl
 | sl _ sz l id n hd=>cases hd
theorem zy4{tmps:Array Value}{t:Nat}{v:Value}(h:tmps[t]?=some v):tmps.getD t undef=v:=by
 simp [Array.getD_eq_getD_getElem?,h]
theorem zyj{tmps:Array Value}{t:Nat}{b:Bool}(h:tmps.getD t undef=.bool b):tmps[t]?=some (.bool b):=by
 cases hg:tmps[t]? with
 | none=>simp [Array.getD_eq_getD_getElem?,hg,undef] at h
 | some v=>simp [Array.getD_eq_getD_getElem?,hg] at h; rw [h]
def ze1(ops:List Oper)(o:Oper)(fr:Fr):Option Bool:=
 match o.guard with
 | none=>some true
 | some (j,want)=>
  match zkb ops j with
  | none=>some false
  | some t=>
   match zf fr t with
   | some (.d (.bool b))=>some (b == want)
   | some _=>some false
   | none=>none
theorem zjg{ops:List Oper}{o:Oper}{fr:Fr}{yes no:Fr→Option R}{r:R}(h:zah ops o fr yes no=some r) :
  ∃ fr',y6 fr fr'∧((ze1 ops o fr=some true∧yes fr'=some r)∨(ze1 ops o fr=some false∧no fr'=some r)):=by
 unfold zah at h;unfold ze1;split at h
 ·exact ⟨fr,y6.refl fr,.inl ⟨by simp [*],h⟩⟩
 ·rename_i j want hg;simp only [hg];split at h
  ·exact ⟨fr,y6.refl fr,.inr ⟨by simp [*],h⟩⟩
  ·rename_i t ht;simp only [ht];split at h
   ·rename_i b hb;cases b <;> cases want <;> simp only [p5,p6] at h
    ·exact ⟨_,y6.dup hb,.inl ⟨by simp [hb],h⟩⟩
    ·exact ⟨_,y6.dup hb,.inr ⟨by simp [hb],h⟩⟩
    ·exact ⟨_,y6.dup hb,.inr ⟨by simp [hb],h⟩⟩
    ·exact ⟨_,y6.dup hb,.inl ⟨by simp [hb],h⟩⟩
   ·rename_i x hn hx;refine ⟨fr,y6.refl fr,.inr ⟨?_,h⟩⟩;rw [hx];split
    ·rename_i b hb; exact (hn _ (Option.some.inj hb)).elim
    ·rfl
    ·rename_i hb; cases hb
   ·cases h
theorem zqg{ops:List Oper}{arr:Array Oper}(h:arr.toList=ops)(j:Nat):(arr[j]?).bind (·.dst)=zkb ops j:=by
 unfold zkb;rw [←h,Array.getElem?_toList];cases arr[j]? <;> rfl
theorem zbo{ops:List Oper}{arr:Array Oper}(harr:arr.toList=ops){o:Oper}{fr:Fr}{tmps:Array Value}(hf:FR w σ μ tmps fr){b:Bool}(h:ze1 ops o fr=some b) :
  Region.wanted o (yielded arr tmps)=b:=by
 unfold ze1 at h;unfold Region.wanted;split at h
 ·rename_i hg; simp only [hg]; cases h; rfl
 ·rename_i j want hg;simp only [hg,yielded,zqg harr];split at h
  ·rename_i ht; cases h; simp [ht]
  ·rename_i t ht;simp only [ht,Option.bind_some];split at h
   ·rename_i c hb;cases h;have hr:=hf t _ hb;have:tmps[t]?=some (.bool c):=by
     cases hr':tmps.getD t undef <;> rw [hr'] at hr
     case bool c'=>
      have:=hr.bool_of; cases this;exact zyj hr'
     all_goals (cases hr with | d _ _ hd=>cases hd)
    rw [this];cases c <;> cases want <;> rfl
   ·rename_i x hn hx;cases h;have hr:=hf t _ hx;cases hq:tmps[t]? with
    | none=>simp
    | some q=>
     rw [zy4 hq] at hr;cases q <;> first | rfl | skip
     have:=hr.bool_of;subst this;exact (hn _ rfl).elim
   ·cases h
theorem ziw{fr:Fr}{dst:Option Nat}{v:V}{t:Nat}:zf (zcv fr dst v) t=if dst=some t then some v else zf fr t:=by
 cases dst with
 | none=>simp [zcv]
 | some d=>
  simp only [zcv,zf];by_cases h:d=t
  ·subst h; simp
  ·simp [h,zh2 h]
theorem FR.put{nt:Nat}{a:Act}{fr:Fr}(h:FR w σ μ a.tmps fr){dst:Option Nat}(hd:zjj nt dst=true)(hs:nt≤a.tmps.size){v':Value}{v:V}(hv:RV w σ μ v' v) :
  FR w σ μ (a.put dst v').tmps (zcv fr dst v):=by
 intro t u ht;rw [ziw] at ht;cases dst with
 | none=>exact h t u (by simpa using ht)
 | some d=>
  have hlt:d<a.tmps.size:=Nat.lt_of_lt_of_le (p4 hd) hs;by_cases he:d=t
  ·subst he;simp at ht; subst ht;simpa [Act.put,Array.getD_eq_getD_getElem?,hlt] using hv
  ·simp [he] at ht;have:=h t u ht;simpa [Act.put,Array.getD_eq_getD_getElem?,Array.getElem?_setIfInBounds_ne he] using this
theorem w6(a:Act)(dst:Option Nat)(v:Value):(a.put dst v).tmps.size=a.tmps.size:=by cases dst <;> simp [Act.put]
theorem x6(a:Act)(dst:Option Nat)(v:Value):(a.put dst v).defers=a.defers:=by cases dst <;> rfl
theorem zj8:RV w σ μ undef x8:=.tup #[] [] rfl (by simp)
theorem FR.nil{tmps:Array Value}:FR w σ μ tmps []:=λ _ _ h=>by cases h
variable {nt:Nat} {ds:List Deferred} {w₀:World} {σ₀:St} {μ₀:Mu}
theorem zeb{m:Nat}{call:Nat→List V→St→Option (Out×St)}(hcall:vq cx call)(hn:yx cx.P){arr:Array Oper}{tl:List Oper}{K:Ex→Fr→St→Option R}{r:R}
  {Q:Exit→Act→World→Prop}
  (hend:∀ fr σ,K .normal fr σ=some r→∀ a w μ,Now cx nt ds w₀ σ₀ μ₀ a w σ μ fr→∀ i,arr.toList.drop i=tl→wpOps cx.P arr Q ((List.range arr.size).drop i) a w)
  (hQ:∀ v fr σ,K (.pan v) fr σ=some r→∀ x a w μ,zev w σ μ (.pan v) x→Now cx nt ds w₀ σ₀ μ₀ a w σ μ fr→Q x a w) :
  ∀ (l:List Oper) (i:Nat),arr.toList.drop i=l++tl→∀ (fr:Fr) (σ:St),qw cx m nt call arr.toList l fr σ K=some r →
   ∀ a w μ,Now cx nt ds w₀ σ₀ μ₀ a w σ μ fr→wpOps cx.P arr Q ((List.range arr.size).drop i) a w:=by
 intro l
 induction l with
 | nil=>
  intro i hi fr σ h a w μ hnow;exact hend _ _ h _ _ _ hnow i hi
 | cons o l ih=>
  intro i hi fr σ h a w μ hnow;have hlt:i<arr.size:=by
   have:=congrArg List.length hi;simp at this; omega
  have ho:arr[i]?=some o:=by
   have:=congrArg (·[0]?) hi;simpa using this
  have hrest:arr.toList.drop (i+1)=l++tl:=by
   rw [←List.drop_drop,hi]; rfl
  have hdrop:(List.range arr.size).drop i=i::(List.range arr.size).drop (i+1):=by
   rw [List.drop_eq_getElem_cons (by simpa using hlt)]; simp
  rw [hdrop];simp only [wpOps,ho];unfold qw at h;obtain ⟨hd,h⟩:=zd h;obtain ⟨fr',hs,h⟩:=zjg h;have hf':=hnow.fr.same hs;rcases h with ⟨hw,h⟩ | ⟨hw,h⟩
  ·rw [zbo rfl hnow.fr hw,if_pos rfl];left;obtain ⟨p,hp,h⟩:=za h;obtain ⟨oc,δ,fp,hK0,hok⟩:=zhs hcall hn hnow.after.inv hf' hp;cases hK0;have hK:=h;refine hok _ _ ?_;cases oc with
   | val v=>
    intro v' w' μ' haf hv;refine ih (i+1) hrest _ _ hK _ _ μ' ⟨hnow.after.trans haf,FR.put (haf.frs hnow.after.inv hf') hd hnow.size hv,?_,?_⟩
    ·rw [w6]; exact hnow.size
    ·rw [x6]; exact hnow.defers
   | pan v=>
    intro x w' μ' haf hv;exact hQ _ _ _ hK _ _ _ μ' ⟨x,rfl,hv⟩ ⟨hnow.after.trans haf,haf.frs hnow.after.inv hf',hnow.size,hnow.defers⟩
  ·rw [zbo rfl hnow.fr hw];simp only [Bool.false_eq_true,if_false];refine ih (i+1) hrest _ _ h _ _ μ ⟨hnow.after,FR.put hf' hd hnow.size zj8,?_,?_⟩
   ·rw [w6]; exact hnow.size
   ·rw [x6]; exact hnow.defers
theorem zrh{m:Nat}{call:Nat→List V→St→Option (Out×St)}(hcall:vq cx call)(hn:yx cx.P){arr:Array Oper}{K:Ex→Fr→St→Option R}{r:R}
  {Q:Exit→Act→World→Prop}
  (hQ:∀ e fr σ,K e fr σ=some r→∀ x a w μ,zev w σ μ e x→Now cx nt ds w₀ σ₀ μ₀ a w σ μ fr→Q x a w) :
  ∀ (l:List Oper) (i:Nat),arr.toList.drop i=l→∀ (fr:Fr) (σ:St),qw cx m nt call arr.toList l fr σ K=some r →
   ∀ a w μ,Now cx nt ds w₀ σ₀ μ₀ a w σ μ fr→wpOps cx.P arr Q ((List.range arr.size).drop i) a w:=by
 intro l i hi;refine zeb hcall hn (tl:=[]) (λ fr σ h a w μ hnow i hi=>?_) (λ v=>hQ (.pan v)) l i (by rw [hi,List.append_nil])
 have:arr.size≤i:=by have:=congrArg List.length hi; simp at this; omega
 rw [List.drop_eq_nil_of_le (by simpa using this)]
 exact hQ _ _ _ h _ _ _ _ trivial hnow
end
section
variable {R:Type} {cx:Cx} {w:World} {σ:St} {μ:Mu} {nt:Nat} {ds:List Deferred} {w₀:World} {σ₀:St} {μ₀:Mu}
theorem znm{y:Operand}{a:Nat}(h:zut y a=true):y=.tmp a:=by
 unfold zut at h;split at h
 ·rw [po h]
 ·cases h
theorem zd7{y:Operand}{a:Nat}(h:zbx y a=true)(c:Act)(v:Value):(c.put (some a) v).eval y=c.eval y:=by
 unfold zbx at h;split at h
 ·rename_i b;have hne:b ≠ a:=by
   intro e;subst e;simp at h
  simp only [Act.eval,Act.put];simp [Array.getD_eq_getD_getElem?,Array.getElem?_setIfInBounds_ne (Ne.symm hne)]
 ·cases y <;> first | rfl | (rename_i hn; exact (hn _ rfl).elim)
theorem zfb{o i s:Oper}{q:Pend}(h:zim o i s=some q) :
  ∃ ty1 p1 f1 ty2 p2 f2 ty3 p3 f3,o=⟨some q.a,.call ⟨.builtin .append,#[q.sv,q.pv],#[q.t,q.t2]⟩,ty1,p1,f1,none⟩∧i=⟨some q.p,.indexAddr q.t (.tmp q.a) q.j,ty2,p2,f2,none⟩ ∧
   s=⟨none,.store q.e (.tmp q.p) q.x,ty3,p3,f3,none⟩∧zbx q.j q.a=true∧zbx q.x q.a=true∧zbx q.x q.p=true∧q.a ≠ q.p:=by
 obtain ⟨d1,op1,ty1,p1,f1,g1⟩:=o;obtain ⟨d2,op2,ty2,p2,f2,g2⟩:=i;obtain ⟨d3,op3,ty3,p3,f3,g3⟩:=s;unfold zim at h;split at h
 ·rename_i c t' y j e q' x h1 h2 h3;simp only at h1 h2 h3;subst h1 h2 h3;split at h
  ·rename_i sv pv t t2 a p hc ha hty hd1 hd2;simp only at hd1 hd2;subst hd1 hd2;cases hb:(zut y a&&zut q' p&&zbx j a&&zbx x a&&zbx x p&&!Nat.beq a p&&Nat.beq t' t&&g1.isNone&&g2.isNone&&g3.isNone&&d3.isNone) <;> simp only [hb] at h
   ·cases h
   ·cases h;simp only [pq,Bool.not_eq_true',Option.isNone_iff_eq_none] at hb;obtain ⟨⟨⟨⟨⟨⟨⟨⟨⟨⟨k1,k2⟩,k3⟩,k4⟩,k5⟩,k6⟩,k7⟩,k8⟩,k9⟩,k10⟩,k11⟩:=hb;subst k8 k9 k10 k11;have k7:=po k7;subst k7;obtain rfl:=znm k1;obtain rfl:=znm k2;obtain ⟨callee,cargs,ctys⟩:=c;simp only at hc ha hty;subst hc;have e1:cargs = #[sv,pv]:=by apply Array.ext'; simpa using ha
    have e2:ctys = #[t',t2]:=by apply Array.ext'; simpa using hty
    subst e1 e2;exact ⟨_,_,_,_,_,_,_,_,_,rfl,rfl,rfl,k3,k4,k5,λ e=>by have e':a=p:=e; subst e'; simp at k6⟩
  ·cases h
 ·cases h
theorem zqs{P:Program}{t:Nat}(h:zwt P t=true):(match P.underlying t with | some (.int _)=>false | some _=>true | none=>false)=true:=h
theorem zqn(hi:Inv cx w σ μ){a:Act}{fr:Fr}(hf:FR w σ μ a.tmps fr)(hs:nt≤a.tmps.size){q:Pend}{K:Fr→St→Option R}{r:R}{o i s:Oper}(hq:zim o i s=some q)(h:zc1 cx nt σ fr q K=some r) :
  ∃ fr' σ',K fr' σ'=some r∧∃ v1 v2 w1 w' μ',(execOp a.eval o).run cx.P w=.ok (.value v1) w1∧(execOp (a.put o.dst v1).eval i).run cx.P w1=.ok (.value v2) w1 ∧
   (execOp ((a.put o.dst v1).put i.dst v2).eval s).run cx.P w1=.ok .skip w'∧After cx w σ μ w' σ' μ'∧FR w' σ' μ' (((a.put o.dst v1).put i.dst v2).put s.dst undef).tmps fr' ∧
   (∀ w2,(execOp (a.put o.dst v1).eval i).run cx.P w2=.ok (.value v2) w2)∧∃ b ncs id n,zf σ' id=some (.tok n)∧(μ' id).blk=some b∧w'=w1.setRow b ncs ∧
    ∀ w2:World,w2.heap[b]?=w1.heap[b]?→(execOp ((a.put o.dst v1).put i.dst v2).eval s).run cx.P w2=.ok .skip (w2.setRow b ncs):=by
 obtain ⟨ty1,p1,f1,ty2,p2,f2,ty3,p3,f3,rfl,rfl,rfl,hj,hx1,hx2,hap⟩:=zfb hq;unfold zc1 at h;obtain ⟨hlt,h0⟩:=zd h;clear h;rw [pq] at hlt;split at h0
 case h_2=>cases h0
 rename_i e hu;obtain ⟨hc,h1⟩:=zd h0;clear h0;simp only [pq] at hc;obtain ⟨⟨⟨⟨he,hty⟩,hby⟩,hz⟩,hni⟩:=hc;have he:=po he;subst he;obtain ⟨z,hz⟩:=Option.isSome_iff_exists.1 hz;obtain ⟨sv,hsv,h2⟩:=za h1;clear h1;obtain ⟨pl,hpl,h3⟩:=za h2;clear h2;obtain ⟨jv,hjv,h4⟩:=za h3;clear h3;obtain ⟨v,hv,h5⟩:=za h4;clear h4;obtain ⟨y,hy,h6⟩:=za h5;clear h5;split at h6
 case h_2=>cases h6
 rename_i sz l id k n;split at h6
 case h_2=>cases h6
 rename_i kk hid;obtain ⟨hc,h7⟩:=zd h6;clear h6;simp only [pq,decide_eq_true_eq,Bool.not_eq_true'] at hc;obtain ⟨⟨⟨⟨⟨⟨hsz,hT⟩,hkk⟩,hn⟩,hle⟩,hyc⟩,htup⟩:=hc;have hsz:=po hsz;have hyc:=po hyc;subst hkk hn;obtain ⟨sz',ps,hd,h8⟩:=zei h7;clear h7;obtain ⟨hc,h⟩:=zd h8;clear h8;rw [pq] at hc;have hsz':=po hc.1;have hps:=po hc.2;have rs:=x2 (t:=q.t) hf hsv;have rp:=x2 (t:=q.t2) hf hpl;have rj:=xe hf hjv;have rv:=x2 (t:=q.e) hf hv;have hyr:=zdq rv hy;have hcells:=V.cells_ok (RV.d _ _ hyr);have hvd:RDs w (zo σ μ) (a.eval q.x).cells.toList y.cells:=by
  have:(V.d y).cells=y.cells.map .d:=by cases y <;> rfl
  rw [this] at hcells;exact hcells.rd
 have hone:=V.cells_one (RV.d _ _ hyr) rfl;obtain ⟨b,oo,cap,w1,w',lo,g1,g2,g3,g4,g5,g6,ncs,g7,g8⟩:=zy6 (ty:=ty1) hi rs rp hd hps hvd hone hyc hu hz (zqs hni) (.inl hsz') hsz (ztu hT) (p4 hby) hid hle;have haf:=g3.after hi g4;have hjint:a.eval q.j=.int k (l.length:Int):=rj.int_inv;have hidx:∀ w2:World,(execOp (a.put (some q.a) (.slice (some ⟨b,oo,none⟩) (l.length+1) cap)).eval ⟨some q.p,.indexAddr q.t (.tmp q.a) q.j,ty2,p2,f2,none⟩).run cx.P w2=.ok (.value (.pointer (some ⟨b,oo+l.length * cx.P.cellsOf q.e,none⟩))) w2:=by
  intro w2;simp only [execOp];refine wj ?_;rw [zd7 hj,hjint];have hsl:(a.put (some q.a) (.slice (some ⟨b,oo,none⟩) (l.length+1) cap)).eval (.tmp q.a)=.slice (some ⟨b,oo,none⟩) (l.length+1) cap:=by
   have:q.a<a.tmps.size:=Nat.lt_of_lt_of_le (p4 hlt.1) hs;simp [Act.eval,Act.put,Array.getD_eq_getD_getElem?,this]
  rw [hsl];have:=run_indexAt_slice (w:=w2) (k:=k) (i:=(l.length:Int)) (b:=b) (o:=oo) (n:=l.length+1) (cap:=cap) hu (by omega) (by omega) (wu hty)
  simpa using this
 have hput:∀ w2 w3:World,(storeCells ⟨b,oo+l.length * cx.P.cellsOf q.e,none⟩ (a.eval q.x).cells.toList).run cx.P w2=.ok () w3 →
   (execOp ((a.put (some q.a) (.slice (some ⟨b,oo,none⟩) (l.length+1) cap)).put (some q.p) (.pointer (some ⟨b,oo+l.length * cx.P.cellsOf q.e,none⟩))).eval ⟨none,.store q.e (.tmp q.p) q.x,ty3,p3,f3,none⟩).run cx.P w2=.ok .skip w3:=by
  intro w2 w3 hst;simp only [execOp];refine zqj ?_;rw [zd7 hx2,zd7 hx1];have hpp:((a.put (some q.a) (.slice (some ⟨b,oo,none⟩) (l.length+1) cap)).put (some q.p) (.pointer (some ⟨b,oo+l.length * cx.P.cellsOf q.e,none⟩))).eval (.tmp q.p)=.pointer (some ⟨b,oo+l.length * cx.P.cellsOf q.e,none⟩):=by
   have:q.p<a.tmps.size:=Nat.lt_of_lt_of_le (p4 hlt.2) hs;simp [Act.eval,Act.put,Array.getD_eq_getD_getElem?,this]
  rw [hpp];obtain ⟨dd,hdd⟩:=qh hty;unfold Instr.storeAt Instr.sureAddr storeVar;have hcs:(a.eval q.x).cells.size=cx.P.cellsOf q.e:=by have:=hvd.1; simp at this; omega
  simp [run_sizeOf hdd,hcs,hst]
 refine ⟨_,_,h,.slice (some ⟨b,oo,none⟩) (l.length+1) cap,.pointer (some ⟨b,oo+l.length * cx.P.cellsOf q.e,none⟩),w1,w',_,?_,hidx w1,hput w1 w' g2,haf,?_,hidx,
  b,ncs,id,l.length+1,by simp [zk],by simp [setMu,g6],g7,λ w2 h2=>hput w2 _ (g8 w2 h2)⟩
 ·simp only [execOp,resolve,invoke,builtin];simp [Sem.run_bind,g1]
 ·have hptr:RV w' (vv σ id (.tok (l.length+1))) (setMu μ id lo) (.pointer (some ⟨b,oo+l.length * cx.P.cellsOf q.e,none⟩)) (.eptr y 0):=by
   have hrd:=g5.slD;rw [hsz] at hrd;obtain ⟨b',o',n',cap',xs,he,_,hyl,hc1,hr1⟩:=hrd.slot (j:=l.length) (y:=y) (by simp)
   cases he;exact .eptr y b _ 0 xs (λ k hk=>hc1 k (by omega)) hr1
  exact FR.put (dst:=some q.p) (a:=a.put (some q.a) (.slice (some ⟨b,oo,none⟩) (l.length+1) cap)) (FR.put (dst:=some q.a) (haf.frs hi hf) hlt.1 hs g5) hlt.2 (by rw [w6]; exact hs) hptr
theorem zv4{P:Program}{arr:Array Oper}{Q:Exit→Act→World→Prop}{k:Nat}{o i s:Oper}{l:List Oper}{a:Act}{w w1 w':World}{v1 v2:Value}(hdrop:arr.toList.drop k=o::i::s::l)
  (hg:o.guard=none∧i.guard=none∧s.guard=none) (h1:(execOp a.eval o).run P w=.ok (.value v1) w1) (h2:(execOp (a.put o.dst v1).eval i).run P w1=.ok (.value v2) w1)
  (h3:(execOp ((a.put o.dst v1).put i.dst v2).eval s).run P w1=.ok .skip w') (h:wpOps P arr Q ((List.range arr.size).drop (k+3)) (((a.put o.dst v1).put i.dst v2).put s.dst undef) w') :
  wpOps P arr Q ((List.range arr.size).drop k) a w:=by
 have hlen:k+3≤arr.size:=by have:=congrArg List.length hdrop; simp at this; omega
 have ho:arr[k]?=some o:=by have:=congrArg (·[0]?) hdrop; simpa using this
 have hi:arr[k+1]?=some i:=by have:=congrArg (·[1]?) hdrop; simpa using this
 have hs:arr[k+2]?=some s:=by have:=congrArg (·[2]?) hdrop; simpa using this
 have hd:(List.range arr.size).drop k=k::(k+1)::(k+2)::(List.range arr.size).drop (k+3):=by
  rw [List.drop_eq_getElem_cons (by simp; omega),List.drop_eq_getElem_cons (by simp; omega),List.drop_eq_getElem_cons (by simp; omega)]
  simp
 rw [hd];simp only [wpOps,ho,hi,hs];rw [if_pos (by simp [Region.wanted,hg.1])]
 left;unfold Oper.wp;rw [h1,Oper.upon_value,if_pos (by simp [Region.wanted,hg.2.1])]
 left;rw [h2,Oper.upon_value,if_pos (by simp [Region.wanted,hg.2.2])]
 left;rw [h3,Oper.upon_skip];exact h
theorem zm2{o i s:Oper}{q:Pend}(h:zim o i s=some q):o.guard=none∧i.guard=none∧s.guard=none:=by
 obtain ⟨ty1,p1,f1,ty2,p2,f2,ty3,p3,f3,rfl,rfl,rfl,_⟩:=zfb h;exact ⟨rfl,rfl,rfl⟩
theorem zng(a:Act)(x y z:Option Nat)(u v t:Value):(((a.put x u).put y v).put z t).tmps.size=a.tmps.size∧(((a.put x u).put y v).put z t).defers=a.defers:=by
 rw [w6,w6,w6,x6,x6,x6];exact ⟨rfl,rfl⟩
theorem zu9{arr:Array Oper}{Q:Exit→Act→World→Prop}{k:Nat}{fr:Fr}{K:List Oper→Fr→St→Option R}{r:R}(h:zai cx nt arr.toList k fr σ K=some r){a:Act}(hnow:Now cx nt ds w₀ σ₀ μ₀ a w σ μ fr)
  (hnext:∀ l fr' σ',K l fr' σ'=some r→arr.toList.drop (k+3)=l→∀ a w μ,Now cx nt ds w₀ σ₀ μ₀ a w σ' μ fr'→wpOps cx.P arr Q ((List.range arr.size).drop (k+3)) a w) :
  wpOps cx.P arr Q ((List.range arr.size).drop k) a w:=by
 unfold zai at h;split at h
 case h_2=>cases h
 rename_i o i s l hdrop;obtain ⟨q,hq,h⟩:=za h;obtain ⟨fr',σ',hK,v1,v2,w1,w',μ',g1,g2,g3,haf,hf,_⟩:=zqn hnow.after.inv hnow.fr hnow.size hq h;refine zv4 hdrop (zm2 hq) g1 g2 g3 (hnext l fr' σ' hK ?_ _ _ μ' ⟨hnow.after.trans haf,hf,?_,?_⟩)
 ·rw [←List.drop_drop,hdrop]; rfl
 ·rw [(zng ..).1]; exact hnow.size
 ·rw [(zng ..).2]; exact hnow.defers
end
section
variable {R:Type} {cx:Cx} {σ σ':St}
theorem za0{P:Program}{t:Nat}{fr fr':Fr}{x:Operand}(h:opd fr' x=opd fr x):zco P t fr' x=zco P t fr x:=by
 unfold zco;split
 ·rfl
 ·exact h
theorem zo1{P:Program}{t:Nat}{fr fr':Fr}:∀ {ps:List (Nat×Operand)},(∀ p∈ps,opd fr' p.2=opd fr p.2)→zhm P fr' t ps=zhm P fr t ps
 | [],_=>rfl
 | (i,x)::ps,h=>by
  simp only [zhm];rw [za0 (h (i,x) py),zo1 λ p hp=>h p (p0 _ hp)]
theorem zgb{P:Program}{fr fr':Fr}:∀ {xs:List Operand} {ts:List Nat},(∀ x∈xs,opd fr' x=opd fr x)→vo P fr' xs ts=vo P fr xs ts
 | [],_,_=>rfl
 | x::xs,ts,h=>by
  simp only [vo];rw [za0 (h x py),zgb λ p hp=>h p (p0 _ hp)]
theorem zmk{P:Program}{fr fr':Fr}{id:Nat}:∀ {xs:List Operand} {ts:List Nat},(∀ x∈xs,opd fr' x=opd fr x)→q8 P fr' id xs ts=q8 P fr id xs ts
 | [],_,_=>rfl
 | x::xs,ts,h=>by
  have e:=zmk (P:=P) (id:=id) (ts:=ts.tail) λ p hp=>h p (p0 _ hp);have e2:=h x py;simp only [q8];rw [e];cases q8 P fr id xs ts.tail with
  | none=>rfl
  | some l=>
   simp only;split
   ·rfl
   ·rw [e2]
theorem zo2{fr fr':Fr}{x:Option Operand}(h:∀ y∈x,opd fr' y=opd fr y){K:Option V→Option R}:zd6 fr' x K=zd6 fr x K:=by
 cases x with
 | none=>rfl
 | some x=>simp only [zd6,h x rfl]
theorem zt8{m nt : Nat}{call : Nat → List V → St → Option (Out × St)}{o : Oper}{fr fr' : Fr}(h : ∀ x ∈ o.op.operands, opd fr' x = opd fr x){K : Oc → De → List Nat → Option R} :
    xl cx m nt call o fr' σ K = xl cx m nt call o fr σ K := by
  obtain ⟨dst, op, type, pos, after, guard⟩ := o;cases op <;> simp only [Op.operands] at h
  case move x | assign x =>
    simp only [xl];split
    · rfl
    · rw [h x (by simp)]
  case makeFunc fn first caps =>
    cases fn <;> simp only [xl];rw [zgb λ x hx => h x (by simp at hx; simp [hx]), zgb λ x hx => h x (by simp at hx; simp [hx])]
  case makeMap t r => cases r <;> simp only [xl]
  case makeSlice t n c => simp only [xl]; rw [h n (by simp), h c (by simp)]
  case lookup t x i ok => simp only [xl]; rw [h x (by simp), h i (by simp)]
  case mapUpdate t mm k x | insert t mm k x => simp only [xl]; rw [h mm (by simp), h k (by simp), za0 (h x (by simp))]
  case build t ps => simp only [xl]; rw [zo1 λ p hp => h p.2 (by simp; exact ⟨p.1, by simpa using hp⟩)]
  case buildSlice t n ps => simp only [xl]; rw [zo1 λ p hp => h p.2 (by simp; exact ⟨p.1, by simpa using hp⟩)]
  case box t x => simp only [xl]; rw [za0 (h x (by simp))]
  case store t p x => simp only [xl]; rw [h p (by simp), za0 (h x (by simp))]
  case binOp op t x y u => simp only [xl]; rw [za0 (h x (by simp)), za0 (h y (by simp))]
  case convert s t x => simp only [xl]; rw [za0 (h x (by simp))]
  case makeInterface t x => simp only [xl]; rw [za0 (h x (by simp))]
  case slice t x lo hi mx =>
    simp only [xl];have e1 : ∀ {K : Option V → Option R}, zd6 fr' lo K = zd6 fr lo K := zo2 λ y hy => h y (by cases hy; simp)
    have e2 : ∀ {K : Option V → Option R}, zd6 fr' hi K = zd6 fr hi K := zo2 λ y hy => h y (by cases hy; simp)
    have e3 : ∀ {K : Option V → Option R}, zd6 fr' mx K = zd6 fr mx K := zo2 λ y hy => h y (by cases hy; simp)
    simp only [za0 (h x (by simp)), e1, e2, e3]
  case call c =>
    obtain ⟨callee, cargs, ctypes⟩ := c;simp only [Call.operands] at h;cases callee with
    | value f =>
      simp only [xl];rw [h f (by simp)]
      have e : ∀ {ts}, vo cx.P fr' cargs.toList ts = vo cx.P fr cargs.toList ts := zgb λ x hx => h x (by simp at hx; simp [hx])
      have e' : ∀ {id ts}, q8 cx.P fr' id cargs.toList ts = q8 cx.P fr id cargs.toList ts := zmk λ x hx => h x (by simp at hx; simp [hx])
      have e2 : ∀ {site g cap} {K : Oc → De → List Nat → Option R}, zgk cx σ site g cap cargs.toList fr' K = zgk cx σ site g cap cargs.toList fr K := by
        intro site g cap K;unfold zgk;split
        · rename_i y hy
          rw [h y (by have : y ∈ cargs.toList := by rw [hy]; simp
                      simp at this; simp [this])]
        · rfl
      simp only [e, e', e2]
    | invoke r nm => simp only [xl]
    | builtin b =>
      have e : ∀ x ∈ cargs.toList, ∀ {P t}, zco P t fr' x = zco P t fr x := λ x hx {P t} => za0 (h x (by simp at hx; simp [hx]))
      cases b <;> simp only [xl]
      · split
        · rename_i s x t t' hx ht;rw [e s (by rw [hx]; simp), e x (by rw [hx]; simp)]
        · rfl
      · split
        · rename_i x t hx ht;rw [e x (by rw [hx]; simp)]
        · rfl
  all_goals simp only [xl]
  all_goals first | rfl | skip
  all_goals (simp only [Array.mem_def, List.mem_cons, List.not_mem_nil, or_false, forall_eq_or_imp, forall_eq] at h)
  all_goals first | (simp only [h]; done) | (simp only [h.1, h.2]; done) | (simp only [h.1, h.2.1, h.2.2]; done)
end
section
variable {R:Type} {cx:Cx} {σ σ':St}
def agree(S:List Nat)(σ σ':St):Prop:=∀ i∈S,zf σ' i=zf σ i
theorem zwo{S:List Nat}(ha:agree S σ σ')(hc:∀ i∈S,∃ o,zf σ i=some o∧∀ j∈o.ids,j∈S) :
  ∀ (n:Nat) (todo seen:List Nat),(∀ i∈todo,i∈S)→wy σ' n todo seen=wy σ n todo seen:=by
 intro n
 induction n with
 | zero=>intro todo seen _; rfl
 | succ n ih=>
  intro todo seen ht;cases todo with
  | nil=>rfl
  | cons i todo=>
   have hi:=ht i py;have htl:∀ j∈todo,j∈S:=λ j hj=>ht j (p0 _ hj);simp only [wy];rw [ha i hi];obtain ⟨o,ho,hids⟩:=hc i hi;rw [ho];cases seen.elem i
   ·simp only [p6];exact ih _ _ λ j hj=>by
     rcases List.mem_append.1 hj with h | h
     ·exact hids j h
     ·exact htl j h
   ·exact ih _ _ htl
theorem zkh(full:List Nat):∀ (ren:List Nat) (k:Nat),agree ren σ σ'→y9 σ' full k ren=y9 σ full k ren
 | [],_,_=>rfl
 | i::r,k,h=>by
  simp only [y9,h i py];split
  ·rw [zkh full r (k+1) λ j hj=>h j (p0 _ hj)]
  ·exact zkh full r (k+1) λ j hj=>h j (p0 _ hj)
theorem zoo{full:List Nat}{τ:St}:∀ (ren:List Nat) (k:Nat) {K:De→Option R},agree ren σ σ'→qr full σ' τ k ren K=qr full σ τ k ren K
 | [],_,_,_=>rfl
 | i::r,k,K,h=>by
  have e:∀ K:De→Option R,qr full σ' τ (k+1) r K=qr full σ τ (k+1) r K:=λ K=>zoo r (k+1) λ j hj=>h j (p0 _ hj);simp only [qr,h i py,e]
theorem ztk{α:Type}{l:List α}{f g:α→Bool}(h:∀ x∈l,f x=g x):l.all f=l.all g:=by
 induction l with
 | nil=>rfl
 | cons a l ih=>simp only [List.all_cons]; rw [h a py,ih λ x hx=>h x (p0 _ hx)]
theorem zrq{ids:List Nat}{ren:List Nat}(h:agree ren σ σ'):closedIn σ' ids ren=closedIn σ ids ren:=by
 unfold closedIn;congr 1;exact ztk λ i hi=>by rw [h i hi]
abbrev Tri:=Oc×De×List Nat
theorem zl2{call:Nat→List V→St→Option (Out×St)}{t f:Nat}{args:List V}{xs:List Nat}{p:Tri}(h:vf cx call σ t f args xs (λ oc δ fp=>some (oc,δ,fp))=some p)(ha:agree p.2.2 σ σ') :
  vf cx call σ' t f args xs (λ oc δ fp=>some (oc,δ,fp))=some p:=by
 have hfp:wy σ 1000 (V.idsL args++xs) []=p.2.2:=by
  unfold vf at h;obtain ⟨_,h⟩:=zd h;obtain ⟨_,h⟩:=zd h;split at h
  ·obtain ⟨δ,h1,_⟩:=zcf _ _ h;obtain ⟨u,h2,_⟩:=zl1 h1;cases h2; rfl
  ·obtain ⟨δ,h1,_⟩:=zcf _ _ h;cases h1; rfl
  ·cases h
 unfold vf at h ⊢;simp only [hfp] at h ⊢;obtain ⟨hc,h⟩:=zd h;obtain ⟨_,hargs,hcl⟩:=zde hc;obtain ⟨hdom,h⟩:=zd h;rw [zwo ha hcl 1000 _ _ hargs,hfp,zrq ha,hc,hdom];simp only [zkh _ _ _ ha,zoo _ _ ha];exact h
theorem zc5:∀ {δ:De},agree (δ.map (·.1)) σ σ'→z6 σ' δ=z6 σ δ
 | [],_=>rfl
 | (i,o)::δ,h=>by
  simp only [z6];rw [h i (by simp),zc5 (δ:=δ) λ j hj=>h j (by simp at hj ⊢; exact .inr hj)]
theorem wo{i:Nat}{o:Ob}(h:zf σ' i=zf σ i):z6 σ' [(i,o)]=z6 σ [(i,o)]:=zc5 (by intro j hj; simp at hj; subst hj; exact h)
theorem zwz{t:Nat}{q:V}{p:Tri}(h:zcq cx σ t q (λ v fp=>some (Oc.val v,([]:De),fp))=some p)(ha:agree p.2.2 σ σ') :
  zcq cx σ' t q (λ v fp=>some (Oc.val v,([]:De),fp))=some p:=by
 cases q with
 | ptr id off=>
  have:zf σ' id=zf σ id:=by
   refine ha id ?_;unfold zcq at h;obtain ⟨_,h⟩:=zd h;simp only at h;split at h
   ·cases hb:(Nat.beq off 0&&Nat.beq _ (cx.P.cellsOf t)) <;> rw [hb] at h
    ·rw [p6] at h;cases ha:xq cx.P t <;> rw [ha] at h
     ·obtain ⟨c,_,h⟩:=zf5 h;obtain ⟨u,h,_⟩:=zce h;cases h; simp
     ·obtain ⟨_,h⟩:=zd h;cases h; simp
    ·obtain ⟨u,h,_⟩:=zce h;cases h; simp
   ·cases h
  unfold zcq at h ⊢;simp only [this];exact h
 | wptr id sz k i off=>
  have:zf σ' id=zf σ id:=by
   refine ha id ?_;unfold zcq at h;obtain ⟨_,h⟩:=zd h;simp only at h;split at h
   ·obtain ⟨_,h⟩:=zd h;obtain ⟨x,_,h⟩:=v6 h;cases ha:xq cx.P t <;> rw [ha] at h
    ·obtain ⟨c,_,h⟩:=v6 h;obtain ⟨u,h,_⟩:=zce (v:=.d c) (K:=λ v=>some (Oc.val v,([]:De),[id])) (by simpa only [zby] using h)
     cases h; simp
    ·obtain ⟨_,h⟩:=zb0 _ _ h;cases h; simp
   ·cases h
  unfold zcq at h ⊢;simp only [this];exact h
 | _=>exact h
theorem znf{t:Nat}{q v:V}{p:Tri}(h:qf cx σ t q v (λ δ fp=>some (Oc.val x8,δ,fp))=some p)(ha:agree p.2.2 σ σ') :
  qf cx σ' t q v (λ δ fp=>some (Oc.val x8,δ,fp))=some p:=by
 cases q with
 | ptr id off=>
  have:zf σ' id=zf σ id:=by
   refine ha id ?_;unfold qf at h;simp only at h;split at h
   ·cases hb:(Nat.beq off 0&&Nat.beq _ (cx.P.cellsOf t)) <;> rw [hb] at h
    ·rw [p6] at h;obtain ⟨_,h⟩:=zd h;cases h; simp
    ·obtain ⟨_,h⟩:=zd h;cases h; simp
   ·cases h
  unfold qf at h ⊢;simp only [this];exact h
 | wptr id sz k i off=>
  have:zf σ' id=zf σ id:=by
   refine ha id ?_;unfold qf at h;simp only at h;split at h
   ·obtain ⟨_,h⟩:=zd h;obtain ⟨y,_,h⟩:=za h;obtain ⟨_,h⟩:=zd h;cases h; simp
   ·cases h
  unfold qf at h ⊢;simp only [this];exact h
 | _=>exact h
theorem zqb{site t:Nat}{q:V}{p:Tri}(h:zbq cx σ site t q (λ δ fp=>some (Oc.val x8,δ,fp))=some p)(ha:agree p.2.2 σ σ') :
  zbq cx σ' site t q (λ δ fp=>some (Oc.val x8,δ,fp))=some p:=by
 unfold zbq at h ⊢;split at h
 ·rename_i e hu;obtain ⟨hc,h⟩:=zd h
  have key:∀ τ:St,qf cx τ t q (.sl (cx.P.cellsOf e) [] site) (λ δ fp=>some (Oc.val x8,(site,Ob.tok 0)::δ,site::fp)) =
    zc (qf cx τ t q (.sl (cx.P.cellsOf e) [] site) (λ δ fp=>some (Oc.val x8,δ,fp))) λ z:Tri=>some (z.1,(site,Ob.tok 0)::z.2.1,site::z.2.2):=λ τ=>by
   rw [ze7];rfl
  rw [key] at h;obtain ⟨z,hz,h⟩:=za h;cases h;rw [pq] at hc;have h1:z6 σ' [(site,.tok 0)]=true:=by rw [wo (ha _ py)]; exact hc.2
  have h2:agree z.2.2 (vv σ site (.tok 0)) (vv σ' site (.tok 0)):=λ i hi=>by
   rw [zk,zk];by_cases he:site=i
   ·rw [if_pos he,if_pos he]
   ·rw [if_neg he,if_neg he];exact ha i (p0 _ hi)
  rw [hc.1,h1,key,znf hz h2];rfl
 ·cases h
theorem zyu{t:Nat}{x:V}{p:Tri}(h:lenV cx σ t x (λ v fp=>some (Oc.val v,([]:De),fp))=some p)(ha:agree p.2.2 σ σ') :
  lenV cx σ' t x (λ v fp=>some (Oc.val v,([]:De),fp))=some p:=by
 unfold lenV at h ⊢;split at h <;> first | exact h | skip
 split at h
 ·rename_i ks vs hg;cases h;have:zf σ' _=zf σ _:=ha _ py;rw [this,hg]
 ·cases h
theorem ztj{site t:Nat}{s x:V}{b:Bool}{p:Tri}(h:zc7 cx σ site t s x b (λ v δ fp=>some (Oc.val v,δ,fp))=some p)(ha:agree p.2.2 σ σ') :
  zc7 cx σ' site t s x b (λ v δ fp=>some (Oc.val v,δ,fp))=some p:=by
 unfold zc7 at h ⊢;split at h <;> first | (cases h; done) | skip
 unfold dataOf at h ⊢;split at h <;> first | (cases h; done) | skip
 all_goals
  obtain ⟨hc,h⟩:=zd h;simp only [hc,zh,p5];cases b
  ·simp only [p6] at h ⊢;split at h
   ·rename_i id _;split at h
    ·rename_i n hg;obtain ⟨hc2,h⟩:=zd h;cases h;have:zf σ' _=zf σ _:=ha _ py;rw [this,hg];simp only [hc2,p5]
    ·cases h
   ·rename_i id sz k;split at h
    ·rename_i l hg;obtain ⟨hc2,h⟩:=zd h;cases h;have:zf σ' _=zf σ _:=ha _ py;rw [this,hg];simp only [hc2,p5]
    ·cases h
   ·cases h
  ·simp only [p5] at h ⊢;obtain ⟨hc2,h⟩:=zd h;cases h;rw [wo (ha _ py),hc2];rfl
theorem zu0{P:Program}{e id:Nat}{vs:List D}{a b:V→V}{z:D}{o:Option (Option Nat)}{q:Tri}(h:(zc o λ o=>zkp o (λ i=>vd vs i λ y=>zbu P e y λ v=>some (Oc.val (a v),([]:De),[id]))
  (some (Oc.val (b (.d z)),([]:De),[id])))=some q):q.2.2=[id]:=by
 obtain ⟨o,_,h⟩:=za h;rcases zf4 h with ⟨i,_,h⟩ | ⟨_,h⟩
 ·obtain ⟨y,_,h⟩:=v6 h;obtain ⟨u,h,_⟩:=zce (v:=.d y) (K:=λ v=>some (Oc.val (a v),([]:De),[id])) (by simpa only [zby] using h)
  cases h; rfl
 ·cases h; rfl
theorem zso{t:Nat}{x k:V}{ok:Bool}{p:Tri}(h:zb4 cx σ t x k ok (λ v fp=>some (Oc.val v,([]:De),fp))=some p)(ha:agree p.2.2 σ σ') :
  zb4 cx σ' t x k ok (λ v fp=>some (Oc.val v,([]:De),fp))=some p:=by
 unfold zb4 at h ⊢;split at h
 ·rename_i kt e hu;obtain ⟨z,hz,q1⟩:=za h;clear h;obtain ⟨key,rfl,q2⟩:=za6 q1;clear q1;obtain ⟨hty,h⟩:=zd q2;clear q2;simp only [hz,zc,asD,hty,zh,p5];split at h <;> first | exact h | skip
  rename_i id;split at h
  ·rename_i ks vs hg;have:=zu0 (id:=id) (a:=λ v=>bif ok then V.tup [v,.d (.bool true)] else v) (b:=λ v=>bif ok then V.tup [v,.d (.bool false)] else v) h;rw [this] at ha;simp only [ha _ py,hg];exact h
  ·cases h
 ·cases h
theorem zsk{t:Nat}{x k v:V}{p:Tri}(h:zb3 cx σ t x k v (λ δ fp=>some (Oc.val x8,δ,fp))=some p)(ha:agree p.2.2 σ σ') :
  zb3 cx σ' t x k v (λ δ fp=>some (Oc.val x8,δ,fp))=some p:=by
 unfold zb3 at h ⊢;split at h
 ·rename_i kt e hu;split at h
  ·rename_i id;split at h
   ·rename_i ks vs hg;obtain ⟨key,rfl,h⟩:=za6 h;obtain ⟨y,hy,h⟩:=za h;obtain ⟨hty,h⟩:=zd h;obtain ⟨o,ho,h⟩:=za h;have:zf σ' id=zf σ id:=by
     refine ha id ?_;rcases zf4 h with ⟨i,_,h⟩ | ⟨_,h⟩ <;> cases h <;> simp
    simp only [this,hg,asD,hy,zc,hty,zh,p5,ho];exact h
   ·cases h
  ·cases h
 ·cases h
theorem zm3{site t:Nat}{l c:V}{p:Tri}(h:vj cx σ site t l c (λ v δ fp=>some (Oc.val v,δ,fp))=some p)(ha:agree p.2.2 σ σ') :
  vj cx σ' site t l c (λ v δ fp=>some (Oc.val v,δ,fp))=some p:=by
 unfold vj at h ⊢;split at h
 ·obtain ⟨z,hz,h⟩:=za h;obtain ⟨hc,h⟩:=zd h;cases h;simp only [hz,zc];rw [wo (ha _ py),hc];rfl
 ·cases h
theorem zwd{v:V}{p:Tri}(h:zgg σ v (λ v δ fp=>some (Oc.val v,δ,fp))=some p)(ha:agree p.2.2 σ σ') :
  zgg σ' v (λ v δ fp=>some (Oc.val v,δ,fp))=some p:=by
 unfold zgg at h ⊢;split at h
 ·split at h
  ·rename_i l hg;obtain ⟨hc,h⟩:=zd h;cases h;rw [ha _ py,hg];simp only [hc,zh,p5]
  ·cases h
 ·cases h
theorem zi2{v:Option V}{y d:Nat}{K:Nat→Option R}{r:R}(h:bound v y d K=some r):∃ n,K n=some r∧∀ (R':Type) (K':Nat→Option R'),bound v y d K'=K' n:=by
 unfold bound at h ⊢;split at h
 ·exact ⟨_,h,λ _ _=>rfl⟩
 ·obtain ⟨hc,h⟩:=zd h;exact ⟨_,h,λ _ _=>by simp only [hc,zh,p5]⟩
 ·cases h
theorem zuk{site t:Nat}{x:V}{lo hi mx:Option V}{p:Tri}(h:zd0 cx σ site t x lo hi mx (λ v δ fp=>some (Oc.val v,δ,fp))=some p)(ha:agree p.2.2 σ σ') :
  zd0 cx σ' site t x lo hi mx (λ v δ fp=>some (Oc.val v,δ,fp))=some p:=by
 unfold zd0 at h ⊢;split at h <;> first | exact h | skip
 obtain ⟨h1,h⟩:=zd h;simp only [h1,zh,p5];unfold zjk at h ⊢;split at h <;> first | (cases h; done) | skip
 all_goals
  obtain ⟨h2,h⟩:=zd h;simp only [h2,zh,p5];split at h <;> first | exact h | skip
  obtain ⟨h3,h⟩:=zd h;simp only [h3,zh,p5];obtain ⟨n1,h,e1⟩:=zi2 h;obtain ⟨n2,h,e2⟩:=zi2 h;obtain ⟨n3,h,e3⟩:=zi2 h;rw [e1,e2,e3];cases hb:Nat.beq n1 n3 <;> rw [hb] at h
  ·exact h
  ·rw [p5] at h ⊢;obtain ⟨h4,h⟩:=zd h;cases h;rw [wo (ha _ py),h4];rfl
theorem zkq{fr:Fr}{x:Option Operand}{K:Option V→Option R}{r:R}(h:zd6 fr x K=some r):∃ v,K v=some r∧∀ (R':Type) (K':Option V→Option R'),zd6 fr x K'=K' v:=by
 unfold zd6 at h ⊢;split at h
 ·exact ⟨_,h,λ _ _=>rfl⟩
 ·obtain ⟨v,hv,h⟩:=za h;exact ⟨_,h,λ _ _=>by simp only [hv,zc]⟩
theorem zza{m nt:Nat}{call:Nat→List V→St→Option (Out×St)}{o:Oper}{fr:Fr}{p:Tri}(h:qx cx m nt call o fr σ=some p)(ha:agree p.2.2 σ σ') :
  qx cx m nt call o fr σ'=some p:=by
 unfold qx at h ⊢;obtain ⟨dst,op,type,pos,after,guard⟩:=o;cases op
 case makeFunc fn first caps=>cases fn <;> exact h
 case makeMap t r=>
  cases r <;> simp only [xl] at h ⊢
  ·obtain ⟨hc,h⟩:=zd h;cases h;rw [wo (ha _ py),hc];rfl
  ·cases h
 case move x | assign x=>
  simp only [xl] at h ⊢;split at h
  ·split at h <;> first | exact h | skip
   split at h
   ·rename_i hg;cases hown:cx.own nt (dst.getD 0) <;> rw [hown] at h <;> cases h <;> rw [ha _ py,hg] <;> rfl
   ·rename_i hg;cases h;rw [ha _ py,hg]
  ·obtain ⟨v,hv,h⟩:=za h;simp only [hv,zc];cases hth:cx.thaw nt (dst.getD 0) <;> rw [hth] at h
   ·exact h
   ·exact zwd h ha
 case alloc e=>
  simp only [xl] at h ⊢;obtain ⟨z,hz,h⟩:=za h;simp only [hz,zc];obtain ⟨hc,h⟩:=zd h;cases h;rw [zc5 ha,hc];rfl
 case box e x=>
  simp only [xl] at h ⊢;obtain ⟨z,hz,h⟩:=za h;simp only [hz,zc];obtain ⟨hc,h⟩:=zd h;cases h;rw [wo (ha _ py),hc];rfl
 case build t ps=>
  simp only [xl] at h ⊢;cases hty:cx.typed nt (dst.getD 0)
  ·rw [hty] at h; exact h
  ·rw [hty] at h;simp only [p5] at h ⊢;obtain ⟨z,hz,h⟩:=za h;simp only [hz,zc];obtain ⟨hc,h⟩:=zd h;cases h;rw [zc5 ha,hc];rfl
 case buildSlice t n ps=>
  simp only [xl] at h ⊢;split at h
  ·obtain ⟨z,hz,h⟩:=za h;obtain ⟨l,hl,h⟩:=za h;obtain ⟨xs,hx,h⟩:=za h;obtain ⟨hc,h⟩:=zd h;cases hbare:zpd cx nt dst ps.toList <;> rw [hbare] at h <;> cases hown:cx.own nt (dst.getD 0) <;> rw [hown] at h <;>
   ·cases h;simp only [hz,hl,hx,zc];rw [wo (ha _ py),hc];rfl
  ·cases h
 case makeSlice t n c=>
  simp only [xl] at h ⊢;obtain ⟨z,hz,h⟩:=za h;obtain ⟨y,hy,h⟩:=za h;simp only [hz,hy,zc];exact zm3 h ha
 case lookup t x i ok=>
  simp only [xl] at h ⊢;obtain ⟨z,hz,h⟩:=za h;obtain ⟨y,hy,h⟩:=za h;simp only [hz,hy,zc];exact zso h ha
 case mapUpdate t mm k x | insert t mm k x=>
  simp only [xl] at h ⊢;obtain ⟨z,hz,h⟩:=za h;obtain ⟨y,hy,h⟩:=za h;obtain ⟨q,hq,h⟩:=za h;simp only [hz,hy,hq,zc];exact zsk h ha
 case load t q=>
  simp only [xl] at h ⊢;obtain ⟨z,hz,h⟩:=za h;simp only [hz,zc];exact zwz h ha
 case store t q x=>
  simp only [xl] at h ⊢;obtain ⟨z,hz,h⟩:=za h;simp only [hz,zc];cases hnl:(qt x&&cx.nils nt (ztq q)) <;> rw [hnl] at h
  ·rw [p6] at h ⊢;obtain ⟨v,hv,h⟩:=za h;obtain ⟨hc,h⟩:=zd h;simp only [hv,hc,zh,p5];exact znf h ha
  ·rw [p5] at h ⊢;exact zqb h ha
 case convert s t x=>
  simp only [xl] at h ⊢;obtain ⟨v,hv,h⟩:=za h;simp only [hv,zc];split at h
  ·split at h
   ·rename_i hu hg;obtain ⟨hc,h⟩:=zd h;cases h;rw [hu,ha _ py,hg];simp only [hc,zh,p5]
   ·cases h
  ·rename_i hno;cases hun:zw8 cx.P s t <;> rw [hun] at h
   ·exact h
   ·simp only [p5] at h ⊢;unfold zly at h ⊢;split at h
    ·split at h
     ·rename_i hg;obtain ⟨hc,h⟩:=zd h;cases h;rw [ha _ py,hg];simp only [hc,zh,p5]
     ·cases h
    ·cases h
 case slice t x lo hi mx=>
  simp only [xl] at h ⊢;obtain ⟨v,hv,h⟩:=za h;simp only [hv,zc];obtain ⟨v1,h,e1⟩:=zkq h;obtain ⟨v2,h,e2⟩:=zkq h;obtain ⟨v3,h,e3⟩:=zkq h;rw [e1,e2,e3];exact zuk h ha
 case call c=>
  obtain ⟨callee,cargs,ctypes⟩:=c;cases callee with
  | value f=>
   simp only [xl] at h ⊢;obtain ⟨v,hv,h⟩:=za h;simp only [hv,zc];split at h
   ·rename_i g first
    obtain ⟨l,hl,h⟩:=za h;simp only [hl];exact zl2 h ha
   ·rename_i g cap
    have wrap:∀ {l:List V} {xs:List Nat},z6 σ [(m+dst.getD 0,Ob.tok 0)]=true →
      (vf cx call (vv σ (m+dst.getD 0) (.tok 0)) type g l xs λ oc δ fp=>some (oc,(m+dst.getD 0,Ob.tok 0)::δ,(m+dst.getD 0)::fp))=some p →
      (zh (z6 σ' [(m+dst.getD 0,Ob.tok 0)]) (vf cx call (vv σ' (m+dst.getD 0) (.tok 0)) type g l xs λ oc δ fp=>some (oc,(m+dst.getD 0,Ob.tok 0)::δ,(m+dst.getD 0)::fp)))=some p:=by
     intro l xs hfr h
     have e:∀ τ:St,(vf cx call (vv τ (m+dst.getD 0) (.tok 0)) type g l xs λ oc δ fp=>some (oc,(m+dst.getD 0,Ob.tok 0)::δ,(m+dst.getD 0)::fp)) =
       zc (vf cx call (vv τ (m+dst.getD 0) (.tok 0)) type g l xs λ oc δ fp=>some (oc,δ,fp)) λ p=>some (p.1,(m+dst.getD 0,Ob.tok 0)::p.2.1,(m+dst.getD 0)::p.2.2):=λ τ=>(zg3 (σ:=vv τ (m+dst.getD 0) (.tok 0)) call type g l xs (λ oc δ fp=>some (oc,δ,fp)) (λ p:Tri=>some (p.1,(m+dst.getD 0,Ob.tok 0)::p.2.1,(m+dst.getD 0)::p.2.2))).symm
     rw [e] at h;obtain ⟨q,hq,h⟩:=za h;cases h;have hfr':z6 σ' [(m+dst.getD 0,Ob.tok 0)]=true:=by
      have:=ha (m+dst.getD 0) py;unfold z6 at hfr ⊢;rw [this]; exact hfr
     rw [hfr',e,zl2 hq (σ':=vv σ' (m+dst.getD 0) (.tok 0)) λ i hi=>by
      rw [zk,zk,ha i (p0 _ hi)]]
     rfl
    cases hgr:(cx.grow g).isSome <;> rw [hgr] at h <;> simp only [p5,p6] at h ⊢
    rotate_left
    ·unfold zgk at h ⊢;split at h
     ·rename_i y hargs;obtain ⟨e,he,h⟩:=za h;obtain ⟨v,hv,h⟩:=za h;simp only [hargs,he,hv,zc];split at h
      ·obtain ⟨hc,h⟩:=zd h;cases h;rw [wo (ha _ py),hc];rfl
      ·cases h
     ·cases h
    cases hsm:(zfd cx.P g&&cap.isEmpty) <;> rw [hsm] at h <;> simp only [p5,p6] at h ⊢
    rotate_left
    ·obtain ⟨l,hl,h⟩:=za h;simp only [hl];exact h
    cases hgv:cx.gives g <;> rw [hgv] at h
    ·cases hnil:(cx.keep g&&zgx cargs.toList) <;> rw [hnil] at h
     ·obtain ⟨l,hl,h⟩:=za h;simp only [hl,p6];exact zl2 h ha
     ·obtain ⟨l,hl,h⟩:=za h;obtain ⟨hfr,h⟩:=zd h;simp only [hl,p5,p6];exact wrap hfr h
    ·obtain ⟨l,hl,h⟩:=za h;obtain ⟨hfr,h⟩:=zd h;simp only [hl,p5];exact wrap hfr h
   ·cases h
  | invoke r nm=>exact h
  | builtin b=>
   cases b <;> first | exact h | skip
   ·simp only [xl] at h ⊢;split at h
    ·obtain ⟨v,hv,h⟩:=za h;obtain ⟨u,hu,h⟩:=za h;obtain ⟨hc,h⟩:=zd h;simp only [hv,hu,zc,hc,zh,p5];exact ztj h ha
    ·cases h
   ·simp only [xl] at h ⊢;split at h
    ·obtain ⟨v,hv,h⟩:=za h;simp only [hv,zc];exact zyu h ha
    ·cases h
 all_goals exact h
end
section
variable {R:Type} {cx:Cx} {w:World} {σ σ':St} {μ:Mu}
def xr(σ σ':St):Prop:=∀ i,zf σ' i=zf σ i
theorem xr.own(h:xr σ σ'):zo σ' μ=zo σ μ:=by
 funext b i;simp only [zo,Mine,h _]
theorem xr.after(h:xr σ σ')(hi:Inv cx w σ μ):After cx w σ μ w σ' μ:=by
 have hown:=h.own (μ:=μ);have hst:Stays w (zo σ μ) w (zo σ' μ):=by rw [hown]; exact Stays.refl _ _
 have hstill:∀ id o,zf σ id=some o→yr μ id o μ (zf σ' id):=λ id o ho=>by rw [h id,ho]; exact yr.refl μ id o
 have rv:∀ v x,RV w σ μ v x→RV w σ' μ v x:=λ v x hv=>hv.stays hst λ id _ o ho=>hstill id o ho;have hm:Mine σ' μ=Mine σ μ:=by funext b i; simp only [Mine,h _]
 refine ⟨⟨λ id o ho=>?_,λ id id' o o' b i ho ho'=>hi.apart id id' o o' b i (h id ▸ ho) (h id' ▸ ho'),by rw [hown]; exact hi.glob,λ id o b i ho=>hi.frame id o b i (h id ▸ ho),hi.frLt,hi.frMap⟩,⟨⟨rfl,rfl,Nat.le_refl _,λ _ _ _=>rfl,λ _ _ _ _ h=>h⟩,λ b i _ ho=>by rw [hm] at ho; exact ho,rfl⟩,hstill,rfl⟩
 have hok:=hi.ob id o (h id ▸ ho);cases o with
 | val n v=>
  obtain ⟨b,cs,el,hb,hh,hn,ht,h1,hr,htag⟩:=hok;exact ⟨b,cs,el,hb,hh,hn,ht,h1,hr.map λ v x _=>rv v x,htag⟩
 | row l=>
  exact wz.stays hst hok λ _ _ _=>rfl
 | tok n=>exact hok
 | map ks vs=>
  obtain ⟨b,es,clock,hb,hh,hk,hv⟩:=hok;exact ⟨b,es,clock,hb,hh,hk.stays hst,hv.stays hst⟩
inductive Res where
 | dep
 | off
 | val (v:V) (δ:De) (fp:List Nat)
 | pan (v:V) (δ:De) (fp:List Nat)
structure It where
 i:Nat
 o:Oper
 res:Res
def It.wf(t:It):Option (Nat×V):=
 match t.res with
 | .off=>t.o.dst.map λ d=>(d,x8)
 | .val v _ _=>t.o.dst.map λ d=>(d,v)
 | _=>none
def It.ws(t:It):De:=
 match t.res with
 | .val _ δ _ | .pan _ δ _=>δ
 | _=>[]
def It.rf(ops:List Oper)(t:It):List Nat:=
 match t.res with
 | .dep=>[]
 | _=>looks ops t.o
def It.rs(t:It):List Nat:=
 match t.res with
 | .val _ _ fp | .pan _ _ fp=>fp
 | _=>[]
def It.nextF(t:It)(fr:Fr):Fr:=match t.wf with | some p=>p::fr | none=>fr
def It.nextS(t:It)(σ:St):St:=ze σ t.ws
def Good(cx:Cx)(m nt:Nat)(call:Nat→List V→St→Option (Out×St))(ops:List Oper)(fr:Fr)(σ:St)(t:It):Prop:=
 match t.res with
 | .dep=>True
 | .off=>ze1 ops t.o fr=some false
 | .val v δ fp=>ze1 ops t.o fr=some true∧qx cx m nt call t.o fr σ=some (.val v,δ,fp)
 | .pan v δ fp=>ze1 ops t.o fr=some true∧qx cx m nt call t.o fr σ=some (.pan v,δ,fp)
structure Comm (ops:List Oper) (a b:It):Prop where
 ab:∀ p,a.wf=some p→p.1 ∉ b.rf ops
 ba:∀ p,b.wf=some p→p.1 ∉ a.rf ops
 ff:∀ p q,a.wf=some p→b.wf=some q→p.1 ≠ q.1
 sab:∀ i∈a.ws.map (·.1),i ∉ b.rs∧i ∉ b.ws.map (·.1)
 sba:∀ i∈b.ws.map (·.1),i ∉ a.rs∧i ∉ a.ws.map (·.1)
variable {m nt:Nat} {call:Nat→List V→St→Option (Out×St)} {ops:List Oper}
theorem zqq{fr fr':Fr}{x:Operand}(h:∀ t,x=.tmp t→zf fr' t=zf fr t):opd fr' x=opd fr x:=by
 cases x <;> first | rfl | exact h _ rfl
theorem zwy{o:Oper}{x:Operand}(hx:x∈o.op.operands){t:Nat}(ht:x=.tmp t):t∈looks ops o:=by
 subst ht;exact List.mem_append_left _ (List.mem_filterMap.2 ⟨.tmp t,by simpa using hx,rfl⟩)
theorem zgp{o:Oper}{fr fr':Fr}(h:∀ t∈looks ops o,zf fr' t=zf fr t):ze1 ops o fr'=ze1 ops o fr:=by
 unfold ze1;split
 ·rfl
 ·rename_i j want hg;split
  ·rfl
  ·rename_i t ht;rw [h t (List.mem_append_right _ (by simp [hg,ht]))]
theorem Good.same{fr fr':Fr}{t:It}(h:Good cx m nt call ops fr σ t)(hf:∀ s∈t.rf ops,zf fr' s=zf fr s)(hs:agree t.rs σ σ'):Good cx m nt call ops fr' σ' t:=by
 unfold Good at h ⊢;obtain ⟨i,o,res⟩:=t;have key:∀ p:Tri,(∀ s∈looks ops o,zf fr' s=zf fr s)→qx cx m nt call o fr σ=some p→agree p.2.2 σ σ'→qx cx m nt call o fr' σ'=some p:=λ p hl h1 h2=>by
  have:qx cx m nt call o fr' σ'=qx cx m nt call o fr σ':=zt8 λ x hx=>zqq λ t ht=>hl t (zwy hx ht);rw [this];exact zza h1 h2
 cases res with
 | dep=>trivial
 | off=>exact (zgp hf).trans h
 | val v δ fp=>exact ⟨(zgp hf).trans h.1,key _ hf h.2 hs⟩
 | pan v δ fp=>exact ⟨(zgp hf).trans h.1,key _ hf h.2 hs⟩
theorem qo(t:It)(fr:Fr)(s:Nat):zf (t.nextF fr) s=match t.wf with | some p=>if p.1=s then some p.2 else zf fr s | none=>zf fr s:=by
 unfold It.nextF;cases t.wf with
 | none=>rfl
 | some p=>
  obtain ⟨d,v⟩:=p;simp only [zf];by_cases h:d=s
  ·subst h; simp
  ·simp [h,zh2 h]
theorem znn{t:It}{fr:Fr}{s:Nat}(h:∀ p,t.wf=some p→p.1 ≠ s):zf (t.nextF fr) s=zf fr s:=by
 rw [qo];cases hw:t.wf with
 | none=>rfl
 | some p=>simp [h p hw]
theorem zbd{t:It}{s:Nat}(h:s ∉ t.ws.map (·.1)):zf (t.nextS σ) s=zf σ s:=qp h
theorem zes{δ : De} : ∀ {σ σ' : St} {i : Nat}, i ∈ δ.map (·.1) ∨ zf σ' i = zf σ i → zf (ze σ' δ) i = zf (ze σ δ) i := by
  induction δ with
  | nil => intro σ σ' i h; rcases h with h | h; · simp at h
           exact h
  | cons p δ ih =>
    intro σ σ' i h;obtain ⟨j, o⟩ := p;simp only [ze];refine ih ?_;by_cases hj : j = i
    · right; subst hj; simp [zk]
    · simp only [List.map_cons, List.mem_cons] at h;rcases h with (h | h) | h
      · exact absurd h.symm hj
      · exact .inl h
      · right; simp [zk, hj, h]
theorem zku{t:It}(h:xr σ σ'):xr (t.nextS σ) (t.nextS σ'):=λ i=>zes (.inr (h i))
theorem zkv{t:It}{fr fr':Fr}(h:y6 fr fr'):y6 (t.nextF fr) (t.nextF fr'):=λ i=>by rw [qo,qo]; split <;> simp [h i]
theorem Comm.swapF{a b:It}(h:Comm ops a b)(fr:Fr):y6 (b.nextF (a.nextF fr)) (a.nextF (b.nextF fr)):=λ i=>by
 rw [qo,qo,qo,qo];cases ha:a.wf with
 | none=>rfl
 | some p=>
  cases hb:b.wf with
  | none=>rfl
  | some q=>
   have:=h.ff p q ha hb;by_cases h1:p.1=i
   ·have:q.1 ≠ i:=λ e=>this (h1.trans e.symm);simp [h1,this]
   ·simp [h1]
theorem Comm.swapS{a b:It}(h:Comm ops a b)(σ:St):xr (b.nextS (a.nextS σ)) (a.nextS (b.nextS σ)):=λ i=>by
 by_cases ha:i∈a.ws.map (·.1)
 ·have hb:=(h.sab i ha).2;rw [zbd (t:=b) hb];exact zes (.inl ha)
 ·rw [zbd (t:=a) ha];by_cases hb:i∈b.ws.map (·.1)
  ·exact (zes (.inl hb))
  ·rw [zbd (t:=b) hb,zbd (t:=b) hb,zbd (t:=a) ha]
def Rem(cx:Cx)(m nt:Nat)(call:Nat→List V→St→Option (Out×St))(ops:List Oper):List It→Fr→St→Prop
 | [],_,_=>True
 | t::L,fr,σ=>Good cx m nt call ops fr σ t∧Rem cx m nt call ops L (t.nextF fr) (t.nextS σ)
def zna:List It→Fr→Fr
 | [],fr=>fr
 | t::L,fr=>zna L (t.nextF fr)
def zgf:List It→St→St
 | [],σ=>σ
 | t::L,σ=>zgf L (t.nextS σ)
theorem Rem.same:∀ {L:List It} {fr fr':Fr} {σ σ':St},Rem cx m nt call ops L fr σ→y6 fr fr'→xr σ σ'→Rem cx m nt call ops L fr' σ'
 | [],_,_,_,_,_,_,_=>trivial
 | _::_,_,_,_,_,h,hf,hs=>⟨h.1.same (λ s _=>hf s) (λ i _=>hs i),Rem.same h.2 (zkv hf) (zku hs)⟩
theorem zf8:∀ {L:List It} {fr fr':Fr},y6 fr fr'→y6 (zna L fr) (zna L fr')
 | [],_,_,h=>h
 | t::L,fr,fr',h=>zf8 (L:=L) (fr:=t.nextF fr) (fr':=t.nextF fr') (zkv h)
theorem zoh:∀ {L:List It} {σ σ':St},xr σ σ'→xr (zgf L σ) (zgf L σ')
 | [],_,_,h=>h
 | t::L,σ,σ',h=>zoh (L:=L) (σ:=t.nextS σ) (σ':=t.nextS σ') (zku h)
theorem y6.trans{a b c:Fr}(h:y6 a b)(h':y6 b c):y6 a c:=λ t=>(h' t).trans (h t)
theorem xr.trans{a b c:St}(h:xr a b)(h':xr b c):xr a c:=λ t=>(h' t).trans (h t)
theorem xr.refl(a:St):xr a a:=λ _=>rfl
theorem Rem.pull{b:It}{B:List It}:∀ {A:List It} {fr:Fr} {σ:St},Rem cx m nt call ops (A++b::B) fr σ→(∀ a∈A,Comm ops a b) →
  Good cx m nt call ops fr σ b∧Rem cx m nt call ops (A++B) (b.nextF fr) (b.nextS σ)∧y6 (zna (A++b::B) fr) (zna (A++B) (b.nextF fr))∧xr (zgf (A++b::B) σ) (zgf (A++B) (b.nextS σ))
 | [],fr,σ,h,_=>⟨h.1,h.2,y6.refl _,xr.refl _⟩
 | a::A,fr,σ,h,hc=>by
  have hab:=hc a py;obtain ⟨h1,h2⟩:=h;obtain ⟨g1,g2,g3,g4⟩:=Rem.pull h2 λ x hx=>hc x (p0 _ hx);have gb:Good cx m nt call ops fr σ b:=g1.same (λ s hs=>(znn λ p hp e=>hab.ab p hp (e ▸ hs)).symm) (λ i hi=>(zbd λ hm=>(hab.sab i hm).1 hi).symm);have ga:Good cx m nt call ops (b.nextF fr) (b.nextS σ) a:=h1.same (λ s hs=>znn λ p hp e=>hab.ba p hp (e ▸ hs)) (λ i hi=>zbd λ hm=>(hab.sba i hm).1 hi);exact ⟨gb,⟨ga,g2.same (hab.swapF fr) (hab.swapS σ)⟩,g3.trans (zf8 (hab.swapF fr)),g4.trans (zoh (hab.swapS σ))⟩
end
end Go.Vai
end

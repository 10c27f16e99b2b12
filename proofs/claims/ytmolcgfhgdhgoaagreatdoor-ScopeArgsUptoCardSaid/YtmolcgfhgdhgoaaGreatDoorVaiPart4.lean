/-
  A call from the caller's side: the whole. To: Regions whose order is open.
-/
import Derived.Test.YtmolcgfhgdhgoaaGreatDoorVaiPart3
import Derived.Lib.Builder
import Derived.Orders
import Derived.LoopN
import Derived.Scope
set_option linter.all false
noncomputable section
namespace Go.Vai
section
variable {R:Type} {cx:Cx} {w w':World} {σ τ:St} {μ ν:Mu}
theorem Ob.ren_ids(f:Nat→Nat)(o:Ob):(o.ren f).ids=o.ids.map f:=by
 cases o <;> simp [Ob.ren,Ob.ids,V.ren_ids]
def zmd(σ:St)(μ:Mu)(ren:List Nat):Own:=λ b i=>μ.fr b i∨∃ j o,j ∉ ren∧zd σ j=some o∧owns μ j o b i
def yk(σ:St)(μ:Mu)(ren:List Nat):Mu:=⟨λ k=>μ (wx ren k),zmd σ μ ren⟩
theorem zad{ren:List Nat}(hex:∀ i∈ren,∃ o,zd σ i=some o){i:Nat}(hi:i∈ren) :
  zd (z7 σ ren 0 ren) (z8 ren i)=(zd σ i).map (Ob.ren (z8 ren)):=by
 rw [zcv σ ren ren 0 _ hex];obtain ⟨h1,h2⟩:=yd hi;simp only [Nat.zero_le,if_true,Nat.sub_zero];rw [ww h2,h1];rfl
theorem x9{ren:List Nat}(hex:∀ i∈ren,∃ o,zd σ i=some o){k:Nat}{o:Ob}(h:zd (z7 σ ren 0 ren) k=some o) :
  ∃ i q,ren[k]?=some i∧zd σ i=some q∧o=q.ren (z8 ren)∧k<ren.length:=by
 rw [zcv σ ren ren 0 k hex] at h;simp only [Nat.zero_le,if_true,Nat.sub_zero] at h;cases hk:ren[k]? with
 | none=>rw [hk] at h; cases h
 | some i=>
  rw [hk] at h;simp only [Option.bind_some,Option.map_eq_some_iff] at h;obtain ⟨q,hq,rfl⟩:=h;exact ⟨i,q,rfl,hq,rfl,(pm.1 hk).1⟩
theorem vk{ren:List Nat}{k i:Nat}(h:ren[k]?=some i):wx ren k=i:=by
 have:=ww (pm.1 h).1;rw [h] at this;exact (Option.some.inj this).symm
theorem y8{μ ν:Mu}{id k:Nat}(h:ν k=μ id)(o:Ob)(b i:Nat):owns ν k o b i↔owns μ id o b i:=by
 cases o <;> simp [owns,h]
theorem zhu{ren:List Nat}(hex:∀ i∈ren,∃ o,zd σ i=some o):zg (z7 σ ren 0 ren) (yk σ μ ren)=zg σ μ:=by
 funext b i;apply propext;constructor
 ·rintro ((hf | ⟨j,o,hj,ho,hown⟩) | ⟨k,o,ho,hown⟩)
  ·exact .inl hf
  ·exact .inr ⟨j,o,ho,hown⟩
  ·obtain ⟨a,q,hk,hq,rfl,_⟩:=x9 hex ho;exact .inr ⟨a,q,hq,(y8 (show yk σ μ ren k=μ a from congrArg μ.lo (vk hk)) q b i).1 ((wn _ _ _ _ _).1 hown)⟩
 ·rintro (hf | ⟨j,o,ho,hown⟩)
  ·exact .inl (.inl hf)
  ·by_cases hj:j∈ren
   ·have hg:=zad hex hj;rw [ho] at hg;exact .inr ⟨z8 ren j,_,hg,(wn _ _ _ _ _).2 ((y8 (show yk σ μ ren (z8 ren j)=μ j from congrArg μ.lo (yd hj).1) o b i).2 hown)⟩
   ·exact .inl (.inr ⟨j,o,hj,ho,hown⟩)
theorem q9{ids:List Nat}{ren:List Nat}(h:closedIn σ ids ren=true):ren.Nodup∧(∀ i∈ids,i∈ren)∧∀ i∈ren,∃ o,zd σ i=some o∧∀ j∈o.ids,j∈ren:=by
 unfold closedIn at h;simp only [pj,List.all_eq_true] at h;obtain ⟨⟨h1,h2⟩,h3⟩:=h;refine ⟨qo h1,λ i hi=>by simpa using h2 i hi,λ i hi=>?_⟩
 have:=h3 i hi;split at this
 ·rename_i o ho;exact ⟨o,ho,λ j hj=>by simpa using List.all_eq_true.1 this j hj⟩
 ·cases this
theorem zm8{ren:List Nat}(hi:Inv cx w σ μ)(hnd:ren.Nodup)(hcl:∀ i∈ren,∃ o,zd σ i=some o∧∀ j∈o.ids,j∈ren):Inv cx w (z7 σ ren 0 ren) (yk σ μ ren):=by
 have hex:∀ i∈ren,∃ o,zd σ i=some o:=λ i h=>let ⟨o,ho,_⟩:=hcl i h; ⟨o,ho⟩;have hown:=zhu (μ:=μ) hex;have hst:Stays w (zg σ μ) w (zg (z7 σ ren 0 ren) (yk σ μ ren)):=by rw [hown]; exact Stays.refl _ _
 refine ⟨λ k o ho=>?_,λ k k' o o' b i ho ho' h1 h2=>?_,by rw [hown]; exact hi.glob,λ k o b i ho h j hf=>?_,λ b i hf=>?_,λ r es clock i hm hf=>?_⟩
 ·obtain ⟨a,q,hk,hq,rfl,hlt⟩:=x9 hex ho;have ha:a∈ren:=pp hk;have hpos:=xw hnd hk;obtain ⟨q',hq',hids⟩:=hcl a ha;rw [hq] at hq'; cases hq';have:=(hi.ob a q hq).rename (τ:=z7 σ ren 0 ren) (ν:=yk σ μ ren) (z8 ren) hst (congrArg μ.lo (yd ha).1) λ j hj=>
   ⟨by rw [zad hex (hids j hj)]; exact xv.ren _ _,congrArg μ.lo (yd (hids j hj)).1⟩
  rw [hpos] at this;exact this
 ·obtain ⟨a,q,hk,hq,rfl,_⟩:=x9 hex ho;obtain ⟨a',q',hk',hq',rfl,_⟩:=x9 hex ho';have e1:=(y8 (show yk σ μ ren k=μ a from congrArg μ.lo (vk hk)) q b i).1 ((wn _ _ _ _ _).1 h1);have e2:=(y8 (show yk σ μ ren k'=μ a' from congrArg μ.lo (vk hk')) q' b i).1 ((wn _ _ _ _ _).1 h2);have:=hi.apart a a' q q' b i hq hq' e1 e2;subst this;rw [←xw hnd hk,←xw hnd hk']
 ·obtain ⟨a,q,hk,hq,rfl,_⟩:=x9 hex ho;have e1:=(y8 (show yk σ μ ren k=μ a from congrArg μ.lo (vk hk)) q b i).1 ((wn _ _ _ _ _).1 h);rcases hf with hf | ⟨j',o',hj',ho',hown'⟩
  ·exact hi.frame a q b i hq e1 j hf
  ·have:=hi.blockApart hq ho' e1 hown';exact hj' (this ▸ pp hk)
 ·rcases hf with hf | ⟨j',o',hj',ho',hown'⟩
  ·exact hi.frLt b i hf
  ·exact vq hi ho' hown'
 ·rcases hf with hf | ⟨j',o',hj',ho',hown'⟩
  ·exact .inl (hi.frMap r es clock i hm hf)
  ·refine .inr ⟨j',o',hj',ho',?_⟩;have hok:=hi.ob j' o' ho';cases o' with
   | tok n=>
    obtain ⟨cs,el,fr,hh,_⟩:=hok r hown'.1;rw [hm] at hh; cases hh
   | _=>exact hown'
def ye(μ μ1:Mu)(ren:List Nat):Mu:=⟨λ j=>if j∈ren then μ1 (z8 ren j) else μ j,μ.fr⟩
theorem zkw(hi:Inv cx w σ μ){ren:List Nat}(hnd:ren.Nodup)(hcl:∀ i∈ren,∃ o,zd σ i=some o∧∀ j∈o.ids,j∈ren){σ':St}{δ:De}(hδm:δ.map (·.1)=ren)
  (hδ:∀ (j i:Nat),ren[j]?=some i→∃ old new o,zd σ i=some old∧zd σ' (0+j)=some new∧δ[j]?=some (i,o)∧LikeO (new.ren (wx ren)) o)
  (hσ':∀ k o,zd σ' k=some o→k<ren.length∧∀ i∈o.ids,i<ren.length) {w':World} {μ1:Mu} (haf:After cx w (z7 σ ren 0 ren) (yk σ μ ren) w' σ' μ1) :
  After cx w σ μ w' (zc σ δ) (ye μ μ1 ren) ∧
   ∀ (x:Value) (v:V),(∀ i∈v.ids,i<ren.length)→RV w' σ' μ1 x v→RV w' (zc σ δ) (ye μ μ1 ren) x (v.ren (wx ren)):=by
 have hex:∀ i∈ren,∃ o,zd σ i=some o:=λ i h=>let ⟨o,ho,_⟩:=hcl i h; ⟨o,ho⟩;have hget:∀ {j i:Nat},ren[j]?=some i→∃ new o,zd σ' j=some new∧zd (zc σ δ) i=some o∧LikeO (new.ren (wx ren)) o:=by
  intro j i hj;obtain ⟨old,new,o,h1,h2,h3,h4⟩:=hδ j i hj;rw [Nat.zero_add] at h2;exact ⟨new,o,h2,yi (by rw [hδm]; exact hnd) (pp h3),h4⟩
 have hrest:∀ {j:Nat},j ∉ ren→zd (zc σ δ) j=zd σ j:=λ hj=>xy (by rw [hδm]; exact hj)
 have hmu:∀ {j i:Nat},ren[j]?=some i→ye μ μ1 ren i=μ1 j:=λ {j i} hj=>by
  have hm:i∈ren:=pp hj;simp only [ye,if_pos hm,xw hnd hj]
 have hmu':∀ {j:Nat},j ∉ ren→ye μ μ1 ren j=μ j:=λ {j} hj=>by simp only [ye,if_neg hj]
 have hfr1:μ1.fr=zmd σ μ ren:=haf.fr;have hown2:zg (zc σ δ) (ye μ μ1 ren)=zg σ' μ1:=by
  funext b i;apply propext;constructor
  ·rintro (hf | ⟨j,o,ho,hown⟩)
   ·exact .inl (by rw [hfr1]; exact .inl hf)
   ·by_cases hj:j∈ren
    ·obtain ⟨h1,h2⟩:=yd hj;have hk:ren[z8 ren j]?=some j:=by rw [ww h2,h1]
     obtain ⟨new,o',h3,h4,h5⟩:=hget hk;rw [ho] at h4; cases h4;exact .inr ⟨z8 ren j,new,h3,(y8 (hmu hk) new b i).1 ((wn _ _ _ _ _).1 ((h5.owns _ _ _ _).1 hown))⟩
    ·rw [hrest hj] at ho;exact .inl (by rw [hfr1]; exact .inr ⟨j,o,hj,ho,(y8 (hmu' hj) o b i).1 hown⟩)
  ·rintro (hf | ⟨k,o,ho,hown⟩)
   ·rw [hfr1] at hf;rcases hf with hf | ⟨j,o,hj,ho,hown⟩
    ·exact .inl hf
    ·exact .inr ⟨j,o,by rw [hrest hj]; exact ho,(y8 (hmu' hj) o b i).2 hown⟩
   ·obtain ⟨i',hk⟩:=zq (hσ' k o ho).1;obtain ⟨new,o',h3,h4,h5⟩:=hget hk;rw [ho] at h3; cases h3;exact .inr ⟨i',o',h4,(h5.owns _ _ _ _).2 ((wn _ _ _ _ _).2 ((y8 (hmu hk) o b i).2 hown))⟩
 have hst2:Stays w' (zg σ' μ1) w' (zg (zc σ δ) (ye μ μ1 ren)):=by rw [hown2]; exact Stays.refl _ _
 have hmine:∀ b i,Mine (z7 σ ren 0 ren) (yk σ μ ren) b i→∃ j o,j∈ren∧zd σ j=some o∧owns μ j o b i:=by
  rintro b i ⟨k,o,ho,h1⟩;obtain ⟨a,q,hk,hq,rfl,_⟩:=x9 hex ho;exact ⟨a,q,pp hk,hq,(y8 (show yk σ μ ren k=μ a from congrArg μ.lo (vk hk)) q b i).1 ((wn _ _ _ _ _).1 h1)⟩
 have hmine':∀ b i,Mine (z7 σ ren 0 ren) (yk σ μ ren) b i→Mine σ μ b i:=λ b i h=>let ⟨j,o,_,ho,h1⟩:=hmine b i h; ⟨j,o,ho,h1⟩
 -- the callee's objects,outside
 have hback:∀ {j:Nat},j∈ren→∀ {o},zd (zc σ δ) j=some o→∃ new,zd σ' (z8 ren j)=some new∧LikeO (new.ren (wx ren)) o∧ye μ μ1 ren j=μ1 (z8 ren j):=by
  intro j hj o ho;obtain ⟨h1,h2⟩:=yd hj;have hk:ren[z8 ren j]?=some j:=by rw [ww h2,h1]
  obtain ⟨new,o',h3,h4,h5⟩:=hget hk;rw [ho] at h4; cases h4;exact ⟨new,h3,h5,hmu hk⟩
 have hownIn:∀ {j:Nat},j∈ren→∀ {o b i},zd (zc σ δ) j=some o→owns (ye μ μ1 ren) j o b i→∃ new,zd σ' (z8 ren j)=some new∧owns μ1 (z8 ren j) new b i:=by
  intro j hj o b i ho h1;obtain ⟨new,h3,h5,h6⟩:=hback hj ho;exact ⟨new,h3,(y8 h6 new b i).1 ((wn _ _ _ _ _).1 ((h5.owns _ _ _ _).1 h1))⟩
 have hgoes:Goes w σ μ w' (zc σ δ) (ye μ μ1 ren):=by
  have hg:=haf.goes;refine ⟨⟨hg.kept.os,hg.kept.output,hg.kept.size,λ b hb hn=>hg.kept.blk b hb λ i hm=>hn i (hmine' b i hm),λ b i x hn hc=>hg.kept.cell b i x (λ hm=>hn (hmine' b i hm)) hc⟩,?_,rfl⟩;rintro b i hb ⟨j,o,ho,h1⟩;by_cases hj:j∈ren
  ·obtain ⟨new,h3,h4⟩:=hownIn hj ho h1;exact hmine' b i (hg.own b i hb ⟨_,new,h3,h4⟩)
  ·exact ⟨j,o,by rw [←hrest hj]; exact ho,(y8 (hmu' hj) o b i).1 h1⟩
 have hs:=hgoes.stays' hi
 -- names of the callee's,outside
 have hname:∀ k,k<ren.length→∀ new,zd σ' k=some new→∃ o,zd (zc σ δ) (wx ren k)=some o∧LikeO (new.ren (wx ren)) o∧ye μ μ1 ren (wx ren k)=μ1 k:=by
  intro k hk new hnew;have hk':=ww hk;obtain ⟨new',o,h3,h4,h5⟩:=hget hk';rw [hnew] at h3; cases h3;exact ⟨o,h4,h5,hmu hk'⟩
 have hcompat:∀ k,k<ren.length→xv (zd σ' k) (zd (zc σ δ) (wx ren k))∧ye μ μ1 ren (wx ren k)=μ1 k:=by
  intro k hk;refine ⟨?_,hmu (ww hk)⟩;cases hn:zd σ' k with
  | none=>trivial
  | some new=>
   obtain ⟨o,h1,h2,_⟩:=hname k hk new hn;rw [h1];have:=h2.compat;cases new <;> cases o <;> first | exact this.elim | exact this
 have hrv:∀ (x:Value) (v:V),(∀ i∈v.ids,i<ren.length)→RV w' σ' μ1 x v→RV w' (zc σ δ) (ye μ μ1 ren) x (v.ren (wx ren)):=
  λ x v hv hrv=>hrv.rename (wx ren) hst2 λ id hid=>hcompat id (hv id hid)
 have hstill:∀ id o,zd σ id=some o→zt μ id o (ye μ μ1 ren) (zd (zc σ δ) id):=by
  intro id o ho;by_cases hj:id∈ren
  ·obtain ⟨h1,h2⟩:=yd hj;have hk:ren[z8 ren id]?=some id:=by rw [ww h2,h1]
   obtain ⟨new,o',h3,h4,h5⟩:=hget hk;rw [h4];refine h5.still _ _ _ _ ?_;have hg:=zad hex hj;rw [ho] at hg;have:=haf.still _ _ hg;rw [h3] at this;have e1:yk σ μ ren (z8 ren id)=μ id:=congrArg μ.lo h1;have e2:ye μ μ1 ren id=μ1 (z8 ren id):=hmu hk
   cases o <;> cases new <;> simp only [Option.map_some,Ob.ren,zt] at this ⊢ <;> first
    | exact this.elim
    | (rw [e2,←e1]; exact this)
  ·rw [hrest hj,ho];have e:=hmu' hj;cases o <;> simp [zt,e]
 refine ⟨⟨⟨λ id o ho=>?_,λ id id' o o' b i ho ho' h1 h2=>?_,by rw [hown2]; exact haf.inv.glob,λ id o b i ho h j hf=>?_,λ b i hf=>?_,λ q es clock i hm hf=>?_⟩,hgoes,hstill,rfl⟩,hrv⟩
 ·-- the objects
  by_cases hj:id∈ren
  ·obtain ⟨h1,h2⟩:=yd hj;have hk:ren[z8 ren id]?=some id:=by rw [ww h2,h1]
   obtain ⟨new,o',h3,h4,h5⟩:=hget hk;rw [ho] at h4; cases h4;refine h5.ok _ _ _ _ ?_;have:=(haf.inv.ob _ _ h3).rename (τ:=zc σ δ) (ν:=ye μ μ1 ren) (wx ren) hst2 (by rw [h1]; exact hmu hk) λ j hj=>hcompat j ((hσ' _ _ h3).2 j hj)
   rw [h1] at this;exact this
  ·rw [hrest hj] at ho;have hok:=hi.ob id o ho;have e2:=hmu' hj;have hfree:∀ b,(μ id).blk=some b→w'.heap[b]?=w.heap[b]?:=by
    intro b hb;have hoi:owns μ id o b (μ id).f:=by cases o <;> simp [owns,hb]
    refine haf.goes.kept.blk b (vq hi ho hoi) λ i hm=>hj ?_;obtain ⟨a,q,ha,hq,h1⟩:=hmine b i hm;exact hi.blockApart ho hq hoi h1 ▸ ha
   have rv:∀ v x,RV w σ μ v x→RV w' (zc σ δ) (ye μ μ1 ren) v x:=λ v x hv=>hv.stays hs λ id _ o ho=>hstill id o ho;cases o with
   | val n v=>
    obtain ⟨b,cs,el,hb,hh,hn,ht,h1,hr,htag⟩:=hok;exact ⟨b,cs,el,e2 ▸ hb,(hfree b hb).trans hh,hn,ht,h1,hr.map λ v x _=>rv v x,htag⟩
   | row l=>
    show y7 w' _ (ye μ μ1 ren id) l;rw [e2];exact y7.stays hs hok λ b hb _=>hfree b hb
   | tok n=>
    intro b hb;rw [e2] at hb ⊢;obtain ⟨cs,el,fr,hh,hz⟩:=hok b hb;exact ⟨cs,el,fr,(hfree b hb).trans hh,hz⟩
   | map ks vs=>
    obtain ⟨b,es,clock,hb,hh,hk,hv⟩:=hok;exact ⟨b,es,clock,e2 ▸ hb,(hfree b hb).trans hh,hk.stays hs,hv.stays hs⟩
 ·by_cases hj:id∈ren
  ·obtain ⟨new,h3,h4⟩:=hownIn hj ho h1;by_cases hj':id'∈ren
   ·obtain ⟨new',h3',h4'⟩:=hownIn hj' ho' h2;have:=haf.inv.apart _ _ _ _ b i h3 h3' h4 h4';rw [← (yd hj).1,← (yd hj').1,this]
   ·rw [hrest hj'] at ho';exact (haf.inv.frame _ _ b i h3 h4 i (by rw [hfr1]; exact .inr ⟨id',o',hj',ho',(y8 (hmu' hj') o' b i).1 h2⟩)).elim
  ·rw [hrest hj] at ho;have h1':=(y8 (hmu' hj) o b i).1 h1;by_cases hj':id'∈ren
   ·obtain ⟨new',h3',h4'⟩:=hownIn hj' ho' h2;exact (haf.inv.frame _ _ b i h3' h4' i (by rw [hfr1]; exact .inr ⟨id,o,hj,ho,h1'⟩)).elim
   ·rw [hrest hj'] at ho';exact hi.apart _ _ _ _ b i ho ho' h1' ((y8 (hmu' hj') o' b i).1 h2)
 ·by_cases hj:id∈ren
  ·obtain ⟨new,h3,h4⟩:=hownIn hj ho h;exact haf.inv.frame _ _ b i h3 h4 j (by rw [hfr1]; exact .inl hf)
  ·rw [hrest hj] at ho;exact hi.frame id o b i ho ((y8 (hmu' hj) o b i).1 h) j hf
 ·exact Nat.lt_of_lt_of_le (hi.frLt b i hf) haf.goes.kept.size
 ·have hlt:=hi.frLt q i hf;rw [haf.goes.kept.blk q hlt λ k hm=>by
   obtain ⟨a,p,ha,hp,h1⟩:=hmine q k hm;exact hi.frame a p q k hp h1 i hf] at hm
  exact hi.frMap q es clock i hm hf
theorem zml(hi:Inv cx w σ μ){args:List V}{vs:List Value}(hv:RVs w σ μ vs args){ren:List Nat}(hnd:ren.Nodup)(hargs:∀ i∈V.idsL args,i∈ren)
  (hcl:∀ i∈ren,∃ o,zd σ i=some o∧∀ j∈o.ids,j∈ren) :
  (z7 σ ren 0 ren).length=ren.length∧Inv cx w (z7 σ ren 0 ren) (yk σ μ ren)∧Canon (z7 σ ren 0 ren)∧RVs w (z7 σ ren 0 ren) (yk σ μ ren) vs (V.renL (z8 ren) args) ∧
   (∀ i∈V.idsL (V.renL (z8 ren) args),i<(z7 σ ren 0 ren).length)∧(∀ k,k<(z7 σ ren 0 ren).length→∃ o,zd (z7 σ ren 0 ren) k=some o) ∧
   zg (z7 σ ren 0 ren) (yk σ μ ren)=zg σ μ:=by
 have hex:∀ i∈ren,∃ o,zd σ i=some o:=λ i h=>let ⟨o,ho,_⟩:=hcl i h; ⟨o,ho⟩;have hown:=zhu (μ:=μ) hex;have hst:Stays w (zg σ μ) w (zg (z7 σ ren 0 ren) (yk σ μ ren)):=by rw [hown]; exact Stays.refl _ _
 have hlen:(z7 σ ren 0 ren).length=ren.length:=zc7 σ ren ren 0 hex;have hinv:=zm8 hi hnd hcl;have hcanon:Canon (z7 σ ren 0 ren):=λ k o ho=>by
  obtain ⟨a,q,hk,hq,rfl,hlt⟩:=x9 hex ho;refine ⟨by omega,λ i hin=>?_⟩
  rw [Ob.ren_ids,List.mem_map] at hin;obtain ⟨j,hj,rfl⟩:=hin;obtain ⟨q',hq',hids⟩:=hcl a (pp hk);rw [hq] at hq'; cases hq';rw [hlen];exact (yd (hids j hj)).2
 have hvs:RVs w (z7 σ ren 0 ren) (yk σ μ ren) vs (V.renL (z8 ren) args):=
  hv.rename (z8 ren) hst λ id hid=>⟨by rw [zad hex (hargs id hid)]; exact xv.ren _ _,congrArg μ.lo (yd (hargs id hid)).1⟩
 have hargs':∀ i∈V.idsL (V.renL (z8 ren) args),i<(z7 σ ren 0 ren).length:=λ i hin=>by
  rw [V.renL_ids,List.mem_map] at hin;obtain ⟨j,hj,rfl⟩:=hin;rw [hlen];exact (yd (hargs j hj)).2
 have hfull:∀ k,k<(z7 σ ren 0 ren).length→∃ o,zd (z7 σ ren 0 ren) k=some o:=λ k hk=>by
  rw [hlen] at hk;obtain ⟨i,hik⟩:=zq hk;obtain ⟨o,ho⟩:=hex i (pp hik);have:=zad hex (pp hik);rw [xw hnd hik,ho] at this;exact ⟨_,this⟩
 exact ⟨hlen,hinv,hcanon,hvs,hargs',hfull,hown⟩
theorem zgd{call:Nat→List V→St→Option (Out×St)}(hcall:xe cx call)(hi:Inv cx w σ μ){t f:Nat}{args:List V}{xs:List Nat}{vs:List Value}(hv:RVs w σ μ vs args){K:Oc→De→List Nat→Option R}{r:R}
  (h:xa cx call σ t f args xs K=some r) :
  ∃ oc δ fp,K oc δ fp=some r∧(∃ fn,cx.P.funcs[f]?=some fn∧fn.body.isNone=false)∧Calls cx.P f vs.toArray w λ e w'=>∃ μ',After cx w σ μ w' (zc σ δ) μ' ∧
   match oc,e with
   | .val v,.returned x=>RV w' (zc σ δ) μ' x v
   | .pan v,.panicked chain=>∃ x,chain=[{ v:=x,recovered:=false }]∧RV w' (zc σ δ) μ' x v
   | _,_=>False:=by
 unfold xa at h;simp only at h;generalize hren:y6 σ 1000 (V.idsL args++xs) []=ren at h;obtain ⟨hc,h⟩:=za h;obtain ⟨_,h⟩:=za h;obtain ⟨hnd,hargs0,hcl⟩:=q9 hc;have hargs:∀ i∈V.idsL args,i∈ren:=λ i hi=>hargs0 i (List.mem_append_left _ hi);have hex:∀ i∈ren,∃ o,zd σ i=some o:=λ i h=>let ⟨o,ho,_⟩:=hcl i h; ⟨o,ho⟩;obtain ⟨hlen,hinv,hcanon,hvs,hargs',hfull,_⟩:=zml hi hv hnd hargs hcl
 have fin:∀ (out:Out) (σ':St) (δ:De),call f (V.renL (z8 ren) args) (z7 σ ren 0 ren)=some (out,σ')→δ.map (·.1)=ren →
   (∀ (j i:Nat),ren[j]?=some i→∃ old new o,zd σ i=some old∧zd σ' (0+j)=some new∧δ[j]?=some (i,o)∧LikeO (new.ren (wx ren)) o) →
   (∀ k o,zd σ' k=some o→k<ren.length∧∀ i∈o.ids,i<ren.length) →
   ∀ (w':World) (μ1:Mu),After cx w (z7 σ ren 0 ren) (yk σ μ ren) w' σ' μ1 →
    After cx w σ μ w' (zc σ δ) (ye μ μ1 ren) ∧
    ∀ (x:Value) (v:V),(∀ i∈v.ids,i<ren.length)→RV w' σ' μ1 x v→RV w' (zc σ δ) (ye μ μ1 ren) x (v.ren (wx ren)):=
  λ _ _ _ _ h1 h2 h3 _ _ h4=>zkw hi hnd hcl h1 h2 h3 h4
 cases hcl2:call f (V.renL (z8 ren) args) (z7 σ ren 0 ren) with
 | none=>rw [hcl2] at h; cases h
 | some p=>
  obtain ⟨out,σ'⟩:=p;rw [hcl2] at h;obtain ⟨hfn,hσ',hout,hrun⟩:=hcall.2 f _ _ out σ' hcl2 w (yk σ μ ren) vs hinv hcanon hargs' hfull hvs;rw [hlen] at hσ' hout;cases out with
  | ret v=>
   obtain ⟨δ,h1,h2,h3⟩:=v7 ren 0 h;obtain ⟨u,h4,h5⟩:=zgb h1;refine ⟨.val u,δ,ren,h4,hfn,hrun.mono ?_⟩;intro e w' ⟨μ1,haf,hv⟩;obtain ⟨g1,g2⟩:=fin _ σ' δ hcl2 h2 h3 hσ' w' μ1 haf;refine ⟨ye μ μ1 ren,g1,?_⟩;cases e with
   | returned x=>exact h5 _ _ _ _ (g2 x v hout hv)
   | _=>exact hv.elim
  | pan v=>
   obtain ⟨δ,h1,h2,h3⟩:=v7 ren 0 h;refine ⟨.pan (v.ren (wx ren)),δ,ren,h1,hfn,hrun.mono ?_⟩;intro e w' ⟨μ1,haf,hv⟩;obtain ⟨g1,g2⟩:=fin _ σ' δ hcl2 h2 h3 hσ' w' μ1 haf;refine ⟨ye μ μ1 ren,g1,?_⟩;cases e with
   | panicked chain=>obtain ⟨x,hx,hr⟩:=hv; exact ⟨x,hx,g2 x v hout hr⟩
   | _=>exact hv.elim
end
section
variable {R:Type} {cx:Cx} {w:World} {σ:St} {μ:Mu}
theorem yv{s:Sem Value}{P:Program}{w w':World}{v:Value}(h:s.run P w=.ok v w'):(do pure (Next.value (←s)):Sem Next).run P w=.ok (.value v) w':=by
 rw [Sem.run_bind,h]; rfl
theorem zjw{s:Sem Unit}{P:Program}{w w':World}(h:s.run P w=.ok () w'):(do s; pure Next.skip:Sem Next).run P w=.ok .skip w':=by
 rw [Sem.run_bind,h]; rfl
theorem za0{x:V}{K:Nat→List D→Option R}{r:R}(h:dataOf x K=some r):∃ sz l,dataOf x (λ a b=>some (a,b))=some (sz,l)∧K sz l=some r:=by
 unfold dataOf at h ⊢
 split at h <;> first
  | exact ⟨_,_,rfl,h⟩
  | cases h
theorem yp{id:Nat}{o:Ob}(h:zl σ [(id,o)]=true):zd σ id=none:=by
 unfold zl at h;cases hg:zd σ id with
 | none=>rfl
 | some q=>rw [hg] at h; simp at h
def zw(P : Program) : Prop := ∀ (f : Nat) (fn : Func), P.funcs[f]? = some fn → fn.name ≠ "runtime.NumGoroutine"
theorem zan(hn:zw cx.P){f:Nat}{fn:Func}{args:Array Value}(hf:cx.P.funcs[f]?=some fn)(hb:fn.body.isNone=false) :
  (callFunc f args).run cx.P w=.ok (.enter f args) w:=by
 have h1 : (fn.name == "runtime.NumGoroutine") = false := by simpa using hn f fn hf
 unfold callFunc;rw [Sem.run_bind,run_program,Result.andThen_ok];simp only [hf,h1,hb,Bool.false_eq_true,if_false];rfl
theorem zhv{v:V}{v':Value}(h:RV w σ μ v' v):RV w σ μ v' v.handed:=by
 cases h with
 | sl v sz l id n h ht hn he=>exact .d _ _ h
 | d v x h=>exact .d _ _ h
 | ptr id off b hi hb=>exact .ptr id off b hi hb
 | eptr x b o off xs hc h=>exact .eptr x b o off xs hc h
 | gptr g off=>exact .gptr g off
 | agg cs l hl ho h=>exact .agg cs l hl ho h
 | slo id sz k cap base l hi hk hcap hn he=>exact .slo id sz k cap base l hi hk hcap hn he
 | wptr id sz k i off a l hi hk he=>exact .wptr id sz k i off a l hi hk he
 | mfunc f cs l h=>exact .mfunc f cs l h
 | func f cs l hl h=>exact .func f cs l hl h
 | map id b ks vs hi hb=>exact .map id b ks vs hi hb
 | iface t v u h=>exact .iface t v u h
 | tup cs l hl h=>exact .tup cs l hl h
theorem zcu{v:V}{v':Value}(h:RV w σ μ v' v):RV w σ μ v' v.handed2:=by
 cases v with
 | agg l=>
  cases hd:zbd (.agg l) with
  | some d=>
   have e:V.handed2 (.agg l)=.d d:=by simp [V.handed2,hd]
   rw [e];exact .d _ _ (zag h hd)
  | none=>
   have e:V.handed2 (.agg l)=.agg l:=by simp [V.handed2,hd]
   rw [e];exact h
 | _=>exact zhv h
theorem zo2{b:Bool}{v:V}{v':Value}(h:RV w σ μ v' v):RV w σ μ v' (zps b v):=by
 cases b
 ·exact h
 ·exact zcu h
theorem zbs{keep:Bool}{vs:List Value}{l:List V}(h:RVs w σ μ vs l):RVs w σ μ vs (x2 keep l):=by
 unfold x2;cases keep
 ·refine ⟨by simp [h.1],λ i x y hx hy=>?_⟩
  simp only [pw,List.getElem?_map,Option.map_eq_some_iff] at hy;obtain ⟨z,hz,rfl⟩:=hy;exact zcu (h.2 i x z hx hz)
 ·exact h
theorem RVs.append'{vs ws:List Value}{l k:List V}(h:RVs w σ μ vs l)(h':RVs w σ μ ws k):RVs w σ μ (vs++ws) (l++k):=by
 refine ⟨by simp [h.1,h'.1],λ i x y hx hy=>?_⟩
 by_cases hi:i<vs.length
 ·rw [List.getElem?_append_left hi] at hx;rw [List.getElem?_append_left (by rw [←h.1]; exact hi)] at hy
  exact h.2 i x y hx hy
 ·rw [List.getElem?_append_right (by omega)] at hx
  rw [List.getElem?_append_right (by rw [←h.1]; omega)] at hy
  rw [←h.1] at hy;exact h'.2 _ x y hx hy
theorem zjj:∀ {l:List V} {ds:List D},v8 l=some ds→l=ds.map .d
 | [],ds,h=>by cases h; rfl
 | x::l,ds,h=>by
  cases x <;> first | (simp [v8] at h; done) | skip
  simp only [v8] at h;split at h
  ·rename_i l' hl; cases h; rw [zjj hl]; rfl
  ·cases h
theorem zfh{a:Act}{fr:Fr}(hf:FR w σ μ a.tmps fr){x:Option Operand}{K:Option V→Option R}{r:R}
  (h:zap fr x K=some r):∃ v,K v=some r∧zhh w σ μ v (x.map a.eval):=by
 cases x with
 | none=>exact ⟨none,h,trivial⟩
 | some x=>obtain ⟨v,hv,h⟩:=zb h; exact ⟨some v,h,ya hf hv⟩
theorem zgr{a:Act}{fr:Fr}(hi:Inv cx w σ μ)(hf:FR w σ μ a.tmps fr){id:Nat}(haf:After cx w σ μ w (zc σ [(id,.tok 0)]) (setMu μ id ⟨none,0,0,0⟩))(hg:zd σ id=none) :
  ∀ (xs:List Operand) (ts:List Nat) (l:List V),x8 cx.P fr id xs ts=some l→RVs w (zc σ [(id,.tok 0)]) (setMu μ id ⟨none,0,0,0⟩) (xs.map a.eval) l
 | [],ts,l,h=>by simp only [x8] at h; cases h; exact ⟨rfl,by simp⟩
 | x::xs,ts,l,h=>by
  simp only [x8] at h;split at h
  ·cases h
  ·rename_i l' hl;have ih:=zgr hi hf haf hg xs _ l' hl;have one:∀ {v:V},RV w (zc σ [(id,.tok 0)]) (setMu μ id ⟨none,0,0,0⟩) (a.eval x) v→RVs w (zc σ [(id,.tok 0)]) (setMu μ id ⟨none,0,0,0⟩) ((x::xs).map a.eval) (v::l'):=by
    intro v hv;refine ⟨by simp [ih.1],λ i p q hp hq=>?_⟩
    cases i with
    | zero=>simp at hp hq; subst hp; subst hq; exact hv
    | succ i=>exact ih.2 i p q (by simpa using hp) (by simpa using hq)
   split at h
   ·split at h
    ·cases h;exact one (za6 (w:=w) (μ:=μ) (base:=none) hg (cap:=0) rfl (.inr rfl)).2
    ·cases h
   ·split at h
    ·rename_i v hv;cases h;exact one (haf.rv hi (ya hf hv))
    ·cases h
theorem zif{P:Program}{t xt:Nat}{ok:Bool}{v:Value}{w:World}(ht:xn P t=true)(hif:isIface P t=false) :
  (Instr.typeAssert (.iface t v) xt t ok).run P w=.ok (if ok then .tuple #[v,.bool true] else v) w:=by
 unfold xn at ht;unfold isIface at hif;cases hu:P.underlying t with
 | none=>rw [hu] at ht; cases ht
 | some u=>
  rw [hu] at hif;unfold Instr.typeAssert;cases u <;> first | (cases hif; done) | simp [run_underlying hu]
theorem zn7{P:Program}{g:Nat}(h:zbr P g=true)(x:Value){w:World}:(callFunc g #[x]).run P w=.ok (.value x) w:=by
 unfold zbr at h;split at h
 ·rename_i fn hfn;simp only [pj,beq_iff_eq] at h;obtain ⟨⟨h1,h2⟩,h3⟩:=h;have e1:Extern.findNext fn=none:=by
   unfold Extern.findNext;rw [h2,h3];kernel_rfl
  have e2:Extern.find fn=some Extern.AbiNoEscape.same:=by
   unfold Extern.find;rw [h2,h3];kernel_rfl
  rw [run_callFunc_extern hfn (by rw [h2]; decide) h1 e1 e2]
  rfl
 ·cases h
theorem zoy{R:Type}{s t:Nat}{x:V}{x':Value}{K:V→List Nat→Option R}{r:R}(hi:Inv cx w σ μ)(hx:RV w σ μ x' x)(h:zf8 cx σ s t x K=some r) :
  ∃ v fp,K v fp=some r∧∃ v',(convert s t x').run cx.P w=.ok v' w∧RV w σ μ v' v:=by
 unfold zf8 at h;split at h
 ·rename_i id off;split at h
  ·rename_i n u ho;obtain ⟨hc,h⟩:=za h;have hx0:=hx;cases hx with | ptr _ _ b hcell hb=>?_
   obtain ⟨b',cs,el,hb',hh,hn,htup,h1,hr,htag⟩:=hi.ob id _ ho;obtain rfl:b=b':=by rw [hb] at hb'; exact Option.some.inj hb'
   have hsh:w.shape? b=some (el,cs.size):=by simp [World.shape?,hh]
   refine ⟨_,_,h,_,?_,hx0⟩;unfold zpq at hc;split at hc
   ·rename_i e hs ht;rw [pj] at hc;obtain ⟨c1,c2⟩:=hc;split at c1
    ·rename_i j hj;have c3:off<cs.size:=by
      have:off<szN n:=by simpa using c2
      omega
     exact Go.Lib.run_to_unsafe w ⟨b,off,none⟩ hs ht hj (λ e0=>by rw [e0] at c1; cases c1) hsh c3
    ·cases c1
   ·rename_i e hs ht;simp only [pj,Bool.not_eq_true'] at hc;obtain ⟨⟨c1,c2⟩,c3⟩:=hc;obtain ⟨j,hj⟩:=Option.isSome_iff_exists.1 c1;have hel:el=n / 1048576 - 1:=by
     rcases htag with h | h
     ·have:Nat.blt n 1048576=true:=by simpa using h
      rw [this] at c2; cases c2
     ·show el=n / 1048576 - 1;rw [h]; rfl
    refine Go.Lib.run_from_unsafe w ⟨b,off,none⟩ hs ht hj hsh ?_;rw [hel,hn];exact c3
   ·cases hc
  ·cases h
 ·cases h
theorem zdg{m nt:Nat}{call:Nat→List V→St→Option (Out×St)}(hcall:xe cx call)(hn:zw cx.P)(hi:Inv cx w σ μ){a:Act}{fr:Fr}(hf:FR w σ μ a.tmps fr){o:Oper}
  {K:Oc→De→List Nat→Option R} {r:R} (h:yc cx m nt call o fr σ K=some r):∃ oc δ fp,K oc δ fp=some r∧wz cx w σ μ a o oc δ:=by
 obtain ⟨dst,op,type,pos,after,guard⟩:=o
 have hval:∀ {v:V} {v':Value} {fp},K (.val v) [] fp=some r→True→RV w σ μ v' v→((execOp a.eval ⟨dst,op,type,pos,after,guard⟩).run cx.P w=.ok (.value v') w) →
   ∃ oc δ fp,K oc δ fp=some r∧wz cx w σ μ a ⟨dst,op,type,pos,after,guard⟩ oc δ:=λ hK _ hv hr=>⟨_,_,_,hK,wz.value hi _ hr hv⟩
 have hmove:∀ {x:Operand},(execOp a.eval ⟨dst,op,type,pos,after,guard⟩=pure (.value (a.eval x))) →
   (match x with
   | .const (.slice none 0 0)=>
    (match cx.P.underlying type with
    | some (.slice e)=>(match zd σ (m+dst.getD 0) with
     | none=>bif cx.own nt (dst.getD 0) then K (.val (.slo (m+dst.getD 0) (cx.P.cellsOf e) 0)) [(m+dst.getD 0,.row [])] [m+dst.getD 0] else K (.val (.sl (cx.P.cellsOf e) [] (m+dst.getD 0))) [(m+dst.getD 0,.tok 0)] [m+dst.getD 0]
     | some _=>K (.val (.d (.sl (cx.P.cellsOf e) []))) [] [m+dst.getD 0])
    | _=>none)
   | x=>ze (opd fr x) λ v=>bif cx.thaw nt (dst.getD 0) then zcf σ v λ v δ fp=>K (.val v) δ fp else K (.val v) [] [])=some r→∃ oc δ fp,K oc δ fp=some r∧wz cx w σ μ a ⟨dst,op,type,pos,after,guard⟩ oc δ:=by
  intro x he h;split at h
  ·split at h
   ·split at h
    ·rename_i hg;cases hown:cx.own nt (dst.getD 0) <;> rw [hown] at h
     ·obtain ⟨h1,h2⟩:=za6 (w:=w) (μ:=μ) (sz:=cx.P.cellsOf _) (base:=none) hg rfl (.inr rfl);exact ⟨_,_,_,h,wz.of_upd hi _ (by rw [he]; rfl) (za7 hg) h1 h2⟩
     ·obtain ⟨h1,h2⟩:=zmx (w:=w) (μ:=μ) (sz:=cx.P.cellsOf _) hg;exact ⟨_,_,_,h,wz.of_upd hi _ (by rw [he]; rfl) (za7 hg) h1 h2⟩
    ·exact hval h trivial (.d _ _ (.sl0 none 0 _)) (by rw [he]; rfl)
   ·cases h
  ·obtain ⟨v,hv,h⟩:=zb h;cases hth:cx.thaw nt (dst.getD 0) <;> rw [hth] at h
   ·exact hval h trivial (ya hf hv) (by rw [he]; rfl)
   ·rw [pu] at h;obtain ⟨u,δ,fp,hK,μ',ids,h1,h2,h3⟩:=zn1 hi (ya hf hv) h;exact ⟨_,_,_,hK,wz.of_upd hi _ (by rw [he]; rfl) h1 h2 h3⟩
 cases op
 case makeFunc fn first caps=>
  cases fn <;> simp only [yc] at h <;> first | (cases h; done) | skip
  cases hfe:first.isEmpty <;> rw [hfe] at h
  ·rw [pw] at h;obtain ⟨hc,q1⟩:=za h;obtain ⟨l,hl,q2⟩:=zb q1;obtain ⟨ds,hds,hKK⟩:=zb q2;have hce:caps = #[]:=by simpa using hc
   subst hce;have h1:=vd hf _ _ _ hl;have h2:RVs w σ μ (first.toList.map a.eval) (l.map V.handed2):=⟨by simpa using h1.1,λ i x y hx hy=>by
    rw [List.getElem?_map,Option.map_eq_some_iff] at hy;obtain ⟨z,hz,rfl⟩:=hy;exact zcu (h1.2 i x z hx hz)⟩
   rw [zjj hds] at h2;exact hval hKK trivial (.mfunc _ (first.map a.eval) ds (by simpa using h2.rd)) (yv (by simp [Instr.makeFunc]))
  ·rw [pu] at h;obtain ⟨l,hl,h⟩:=zb h;have hfe:first = #[]:=by simpa using hfe
   subst hfe;obtain ⟨h1,h2⟩:=vd hf _ _ _ hl;exact hval h trivial (.func _ (caps.map a.eval) l (by rw [←h1]; simp) λ i x y hx hy=>h2 i x y (by simpa using hx) hy) (yv (by simp [Instr.makeFunc]))
 case makeMap t rr=>
  cases rr <;> simp only [yc] at h <;> first | (cases h; done) | skip
  obtain ⟨hc,h⟩:=za h;obtain ⟨w',h1,h2,h3,h4⟩:=zli (cx:=cx) (w:=w) (μ:=μ) (t:=t) (yp hc);exact ⟨_,_,_,h,wz.of_upd hi _ (yv h1) h2 h3 h4⟩
 all_goals simp only [yc] at h
 all_goals first | (cases h; done) | skip
 case move x=>exact hmove rfl h
 case assign x=>exact hmove rfl h
 case pick c x y=>
  obtain ⟨c',hc,h⟩:=zb h;obtain ⟨b,rfl,h⟩:=zdr h;have hcb:a.eval c=.bool b:=by
   have hr:=ya hf hc;generalize a.eval c=q at hr;cases hr with | d _ _ hd=>cases hd; rfl
  cases b
  ·obtain ⟨v,hv,h⟩:=zb h;exact hval h trivial (ya hf hv) (by simp [execOp,hcb,Go.asBool])
  ·obtain ⟨v,hv,h⟩:=zb h;exact hval h trivial (ya hf hv) (by simp [execOp,hcb,Go.asBool])
 case alloc e=>
  obtain ⟨z,hz,h⟩:=zb h;obtain ⟨hc,h⟩:=za h;rw [pj,pj] at hc;obtain ⟨t1,t2⟩:=zid (cx:=cx) (nt:=nt) (dst:=dst) hc.2;obtain ⟨w',μ',h1,h2,h3,h4⟩:=zo5 (w:=w) (μ:=μ) t1 t2 hz _ rfl hc.1.1 (by
   have:=hc.1.2;cases ha:yf cx.P e
   ·right; simpa [ha] using this
   ·exact .inl rfl)
  exact ⟨_,_,_,h,wz.of_upd hi _ (yv h1) h2 h3 h4⟩
 case box e x=>
  obtain ⟨v,hv,h⟩:=zb h;obtain ⟨hc,h⟩:=za h;simp only [pj,Bool.not_eq_true'] at hc;obtain ⟨w',h1,h2,h3,h4⟩:=zp0 (e:=e) hi (yj hf hv) hc.1.1.1 ((pi hc.1.1.2).trans (zid (cx:=cx) (nt:=nt) (dst:=dst) hc.2).1.symm) (zid hc.2).2 (yp hc.1.2);exact ⟨_,_,_,h,wz.of_upd hi _ (yv h1) h2 h3 h4⟩
 case build t ps=>
  cases hty:cx.typed nt (dst.getD 0)
  ·rw [hty,pw] at h;obtain ⟨z,hz,h⟩:=zb h;obtain ⟨l,hl,h⟩:=zb h;obtain ⟨cs,hcs,h⟩:=zb h;obtain ⟨hk,h⟩:=za h;obtain ⟨v',h1,h2⟩:=zo1 (w:=w) hf hz hl hcs hk;exact hval h trivial (zo2 h2) (yv h1)
  ·rw [hty,pu] at h;obtain ⟨z,hz,h⟩:=zb h;obtain ⟨hc,h⟩:=za h;simp only [pj] at hc;have hps:ps = #[]:=by simpa using hc.1.1
   obtain ⟨v',μ',h1,h2,h3,h4⟩:=zns (w:=w) (μ:=μ) hz hc.1.2 hc.2;exact ⟨_,_,_,h,wz.of_upd hi _ (yv (by rw [hps]; simpa using h1)) h2 h3 h4⟩
 case buildSlice t n ps=>
  split at h
  ·rename_i e hu;obtain ⟨z,hz,h⟩:=zb h;obtain ⟨l,hl,h⟩:=zb h;obtain ⟨xs,hx,h⟩:=zb h;obtain ⟨hc,h⟩:=za h;simp only [pj,Bool.not_eq_true'] at hc;cases hbare:zix cx nt dst ps.toList <;> rw [hbare] at h
   case true=>
    obtain ⟨w',h1,h2,h3⟩:=zjc hi hf hu hz hl hx (yp hc.1.1.1) (pr hc.1.1.2) (pr hc.1.2)
     (λ e=>by simp [e] at hc)
    exact ⟨_,_,_,h,wz.of_upd hi _ (yv h1) h2 (λ j hj=>by simp at hj) h3⟩
   cases hown:cx.own nt (dst.getD 0) <;> rw [hown] at h
   ·obtain ⟨w',lo,h1,h2,h3,h4⟩:=zcj hi hf hu hz hl hx (yp hc.1.1.1) (pr hc.1.1.2) (pr hc.1.2)
     (λ e=>by simp [e] at hc)
    exact ⟨_,_,_,h,wz.of_upd hi _ (yv h1) h2 h3 h4⟩
   ·obtain ⟨w',lo,h1,h2,h3,h4⟩:=zgg hi hf hu hz hl hx (yp hc.1.1.1) (pr hc.1.1.2) (pr hc.1.2)
     (λ e=>by simp [e] at hc)
    exact ⟨_,_,_,h,wz.of_upd hi _ (yv h1) h2 h3 h4⟩
  ·cases h
 case makeSlice t n c=>
  obtain ⟨a',ha,h⟩:=zb h;obtain ⟨b',hb,h⟩:=zb h;obtain ⟨v,δ,fp,hK,v',w',μ',h1,h2,h3,h4⟩:=zg2 hi (ya hf ha) (ya hf hb) h;exact ⟨_,_,_,hK,wz.of_upd hi _ (yv h1) h2 h3 h4⟩
 case lookup t x i ok=>
  obtain ⟨a',ha,h⟩:=zb h;obtain ⟨b',hb,h⟩:=zb h;obtain ⟨v,fp,hK,v',h1,h2⟩:=zlk hi (ya hf ha) (ya hf hb) h;exact hval hK trivial h2 (yv h1)
 case mapUpdate t mm k x | insert t mm k x=>
  obtain ⟨a',ha,h⟩:=zb h;obtain ⟨b',hb,h⟩:=zb h;obtain ⟨c',hc,h⟩:=zb h;obtain ⟨δ,fp,hK,w',id,h1,h2,h3⟩:=zlh hi (ya hf ha) (ya hf hb) (yj hf hc) h;exact ⟨_,_,_,hK,wz.of_skip hi (zjw h1) h2 h3⟩
 case load t p=>
  obtain ⟨p',hp,h⟩:=zb h;obtain ⟨v,fp,h,v',h1,h2⟩:=zj7 hi (ya hf hp) h;exact hval h trivial h2 (yv h1)
 case store t p x=>
  obtain ⟨p',hp,q1⟩:=zb h;clear h;cases hnl:(x1 x&&cx.nils nt (zma p)) <;> rw [hnl] at q1 <;> simp only [pu,pw] at q1
  rotate_left
  ·rw [pj] at hnl;have hx:x=.const (.slice none 0 0):=by
    have:=hnl.1;unfold x1 at this;split at this
    ·rfl
    ·cases this
   subst hx;unfold vg at q1;split at q1
   ·obtain ⟨hc,h⟩:=za q1;clear q1;rw [pj] at hc;have hg:=yp hc.2;obtain ⟨b1,b2⟩:=za6 (w:=w) (μ:=μ) (sz:=cx.P.cellsOf _) (base:=none) (cap:=0) hg rfl (.inr rfl);have haf:=(za7 (cx:=cx) hg).after hi b1;obtain ⟨δ,fp,hK,w',id,h1,h2,h3⟩:=zdu haf.inv (haf.rv hi (ya hf hp)) b2 h hc.1;refine ⟨_,_,_,hK,λ next Q hk=>?_⟩
    have hr:(execOp a.eval ⟨dst,.store t p (.const (.slice none 0 0)),type,pos,after,guard⟩).run cx.P w=.ok .skip w':=zjw h1;unfold Oper.wp;rw [hr];exact hk undef w' _ (haf.trans (h2.after haf.inv h3)) (.tup #[] [] rfl (by simp))
   ·cases q1
  obtain ⟨v,hv,h⟩:=zb q1;clear q1;obtain ⟨hty,h⟩:=za h;obtain ⟨δ,fp,h,w',id,h1,h2,h3⟩:=zdu hi (ya hf hp) (yj hf hv) h hty;exact ⟨_,_,_,h,wz.of_skip hi (zjw h1) h2 h3⟩
 case nilCheck x=>
  obtain ⟨v,hv,h⟩:=zb h;have hr:=ya hf hv;split at h
  ·refine hval h trivial hr ?_;generalize hq:a.eval x=q at hr ⊢;cases hr with | ptr id off b _ _=>simp [execOp,hq]
  ·refine hval h trivial hr ?_;generalize hq:a.eval x=q at hr ⊢;cases hr with | eptr x b o off xs hc hh=>simp [execOp,hq]
  ·refine hval h trivial hr ?_;generalize hq:a.eval x=q at hr ⊢;cases hr with | gptr g off=>simp [execOp,hq]
  ·refine hval h trivial hr ?_;generalize hq:a.eval x=q at hr ⊢;cases hr with | wptr id sz k i off a l _ _ _=>simp [execOp,hq]
  ·refine hval h trivial hr ?_;generalize hq:a.eval x=q at hr ⊢;cases hr with | func f cs l hl hh=>simp [execOp,hq]
  ·refine hval h trivial hr ?_;generalize hq:a.eval x=q at hr ⊢;cases hr with | mfunc f cs l hh=>simp [execOp,hq]
  ·cases h
 case binOp op t x y u=>
  obtain ⟨v1,hv1,h⟩:=zb h;obtain ⟨v2,hv2,h⟩:=zb h;obtain ⟨v,h,v',h1,h2⟩:=zpp (w:=w) (yj hf hv1) (yj hf hv2) h;exact hval h trivial h2 (yv h1)
 case unOp op t x=>
  obtain ⟨v1,hv1,h⟩:=zb h;obtain ⟨v,h,v',h1,h2⟩:=zpt (P:=cx.P) (w:=w) (ya hf hv1) h;exact hval h trivial h2 (yv h1)
 case convert s t x=>
  obtain ⟨v1,hv1,h⟩:=zb h;split at h
  ·rename_i e' e sz l id hu1 hu2;split at h
   ·rename_i n hu3 hg;obtain ⟨hc,h'⟩:=za h;clear h;simp only [pj,Bool.not_eq_true',decide_eq_true_eq] at hc;obtain e3:=pi hc.1.1;subst e3;have h:=h';rw [hu1] at hu2; cases hu2;obtain ⟨w',h1,h2,h3,h4⟩:=zna hi (yj hf hv1) (by have:=hc.1.2; intro e; simp [e] at this) hg hc.2 hu1 hu3
    exact ⟨_,_,_,h,wz.of_upd hi _ (yv h1) h2 h3 h4⟩
   ·cases h
  ·cases hun:zoi cx.P s t <;> rw [hun] at h <;> simp only [pu,pw] at h
   ·obtain ⟨v,h,v',h1,h2⟩:=zox (w:=w) (yj hf hv1) h;exact hval h trivial h2 (yv h1)
   ·obtain ⟨v,fp,h,v',h1,h2⟩:=zoy hi (yj hf hv1) h;exact hval h trivial h2 (yv h1)
 case makeInterface t x=>
  split at h
  ·cases h
  ·cases h
  ·rename_i hu1 hu2;obtain ⟨v,hv,h⟩:=zb h;have hr:=yj hf hv;have hrun:(Instr.makeInterface t (a.eval x)).run cx.P w=.ok (.iface t (a.eval x)) w:=by
    unfold Instr.makeInterface;cases hu:cx.P.underlying t with
    | none=>exact absurd hu hu2
    | some u=>
     rw [Sem.run_bind,run_underlying hu,Result.andThen_ok];cases u <;> first | rfl | exact absurd hu (hu1 _)
   split at h
   ·rename_i y hy;exact hval h trivial (.d _ _ (.iface t _ _ (zag hr hy))) (yv hrun)
   ·exact hval h trivial (.iface t _ _ hr) (yv hrun)
 case slice t x lo hii mx=>
  obtain ⟨v1,hv1,h⟩:=zb h;obtain ⟨l,h,hl⟩:=zfh hf h;obtain ⟨hh,h,hhh⟩:=zfh hf h;obtain ⟨mm,h,hm⟩:=zfh hf h;obtain ⟨v,δ,fp,h,v',μ',ids,h1,h2,h3,h4⟩:=zmt (yj hf hv1) hl hhh hm h;exact ⟨_,_,_,h,wz.of_upd hi _ (yv h1) h2 h3 h4⟩
 case fieldAddr s x f=>
  obtain ⟨v1,hv1,h⟩:=zb h;obtain ⟨v,h,v',h1,h2⟩:=zg5 (w:=w) (ya hf hv1) h;exact hval h trivial h2 (yv h1)
 case field t x f=>
  obtain ⟨v1,hv1,h⟩:=zb h;obtain ⟨p,hp,h⟩:=zb h;obtain ⟨v,h,v',h1,h2⟩:=zon (w:=w) (ya hf hv1) hp h;exact hval h trivial h2 (yv h1)
 case indexAddr t x i=>
  obtain ⟨v1,hv1,h⟩:=zb h;obtain ⟨v2,hv2,h⟩:=zb h;obtain ⟨v,h,v',h1,h2⟩:=zg3 (w:=w) (ya hf hv1) (ya hf hv2) h;exact hval h trivial h2 (yv h1)
 case index t x i=>
  obtain ⟨v1,hv1,h⟩:=zb h;obtain ⟨v2,hv2,h⟩:=zb h;obtain ⟨v,h,v',h1,h2⟩:=zm9 (w:=w) (ya hf hv1) (ya hf hv2) h;exact hval h trivial h2 (yv h1)
 case extract t i=>
  obtain ⟨v1,hv1,h⟩:=zb h;obtain ⟨l,rfl,h⟩:=zgk h;obtain ⟨v,hv,h⟩:=zb6 h;have hr:=ya hf hv1;generalize hq:a.eval t=q at hr;cases hr with | tup cs _ hl hh=>?_
  have hlt:i<cs.size:=by rw [hl]; exact (pm.1 hv).1
  exact hval h trivial (hh i cs[i] v (by simp) hv) (yv (by simp [Instr.extract,hq,hlt]))
 case panic x=>
  obtain ⟨v1,hv1,h⟩:=zb h;split at h <;> first | (cases h; done) | skip
  rename_i t y;have hr:=ya hf hv1;refine ⟨_,_,_,h,λ next Q hk=>?_⟩
  have hk:=hk _ w μ (After.refl hi) hr;generalize hq:a.eval x=q at hr hk;cases hr with | d v' _ hd=>?_
  cases hd with | iface _ v0 _ h0=>?_
  unfold Oper.wp;have:(execOp a.eval ⟨dst,.panic x,type,pos,after,guard⟩).run cx.P w=.halt (.panic (.iface t v0)) w:=by
   simp [execOp,hq,Instr.panic]
  rw [this];exact hk
 case typeAssert x xt t ok=>
  obtain ⟨v,hv,h1⟩:=zb h;clear h;unfold zdq at h1;obtain ⟨hc,h2⟩:=za h1;clear h1;simp only [pj,Bool.not_eq_true'] at hc;split at h2
  ·rename_i t' y;cases hb:Nat.beq t' t <;> rw [hb] at h2
   ·cases h2
   ·obtain rfl:=pi hb;have hr:=ya hf hv;generalize hq:a.eval x=q at hr;cases hr with | d v' _ hd=>?_
    cases hd with | iface _ v0 _ h0=>?_
    refine hval h2 trivial ?_ (yv (v:=if ok then .tuple #[v0,.bool true] else v0) (by rw [hq]; exact zif hc.1 hc.2))
    cases ok
    ·exact .d _ _ h0
    ·refine .tup _ _ rfl λ i p q hp hq=>?_
     match i with
     | 0=>simp at hp hq; subst hp; subst hq; exact .d _ _ h0
     | 1=>simp at hp hq; subst hp; subst hq; exact .d _ _ (.bool true)
     | i+2=>simp at hp
  ·cases h2
 case call c=>
  obtain ⟨callee,cargs,ctypes⟩:=c;split at h
  ·rename_i f hcl;simp only at hcl;subst hcl;obtain ⟨fv,hfv,h⟩:=zb h;split at h <;> first | (cases h; done) | skip
   ·rename_i g first
    have hr:=ya hf hfv;generalize hq:a.eval f=q at hr;cases hr with | mfunc _ cs _ hcs=>?_
    have hrun:∀ {fn:Func},cx.P.funcs[g]?=some fn→fn.body.isNone=false→(execOp a.eval ⟨dst,.call ⟨.value f,cargs,ctypes⟩,type,pos,after,guard⟩).run cx.P w=.ok (.enter g (cs.toList++cargs.toList.map a.eval).toArray) w:=by
     intro fn hfn hbody;simp only [execOp,resolve,hq,Deferred.ofValue];rw [Sem.run_bind];simp only [Sem.run_pure,Result.andThen_ok,invoke];rw [show (cs++Array.map a.eval cargs++#[])=(cs.toList++cargs.toList.map a.eval).toArray by
      apply Array.ext'; simp]
     exact zan hn hfn hbody
    obtain ⟨l,hl,h⟩:=zb h
    have hargs:RVs w σ μ (cs.toList++cargs.toList.map a.eval) (first.map .d++x2 (cx.keep g) l):=
     RVs.append' hcs.rv (zbs (vd hf _ _ _ hl))
    obtain ⟨oc,δ,fp,hK,⟨fn,hfn,hbody⟩,hcalls⟩:=zgd hcall hi hargs h;refine ⟨oc,δ,fp,hK,λ next Q hk=>?_⟩
    unfold Oper.wp;rw [hrun hfn hbody,Oper.upon_enter];refine hcalls.mono λ e w' ⟨μ',haf,he⟩=>?_;cases oc with
    | val v=>cases e <;> first | exact hk _ _ _ haf he | exact he.elim
    | pan v=>cases e <;> first | exact he.elim | (obtain ⟨x,rfl,hx⟩:=he; exact hk _ _ _ haf hx)
   rename_i g cap;have hr:=ya hf hfv;generalize hq:a.eval f=q at hr;cases hr with | func _ cs _ hcl hch=>?_
   have hrun:∀ {fn:Func},cx.P.funcs[g]?=some fn→fn.body.isNone=false→(execOp a.eval ⟨dst,.call ⟨.value f,cargs,ctypes⟩,type,pos,after,guard⟩).run cx.P w=.ok (.enter g (cargs.toList.map a.eval++cs.toList).toArray) w:=by
    intro fn hfn hbody;simp only [execOp,resolve,hq,Deferred.ofValue];rw [Sem.run_bind];simp only [Sem.run_pure,Result.andThen_ok,invoke];rw [show (#[]++Array.map a.eval cargs++cs)=(cargs.toList.map a.eval++cs.toList).toArray by
     apply Array.ext'; simp]
    exact zan hn hfn hbody
   have hcap:RVs w σ μ cs.toList cap:=⟨by simpa using hcl,λ i x y hx hy=>hch i x y (by simpa using hx) hy⟩
   have tokd:∀ {l:List V} {xs:List Nat},zl σ [(m+dst.getD 0,Ob.tok 0)]=true →
     (zd σ (m+dst.getD 0)=none→After cx w σ μ w (zc σ [(m+dst.getD 0,.tok 0)]) (setMu μ (m+dst.getD 0) ⟨none,0,0,0⟩)→RVs w (zc σ [(m+dst.getD 0,.tok 0)]) (setMu μ (m+dst.getD 0) ⟨none,0,0,0⟩) (cargs.toList.map a.eval) l) →
     (xa cx call (xh σ (m+dst.getD 0) (.tok 0)) type g (l++cap) xs λ oc δ fp=>K oc ((m+dst.getD 0,Ob.tok 0)::δ) ((m+dst.getD 0)::fp))=some r →
     ∃ oc δ fp,K oc δ fp=some r∧wz cx w σ μ a ⟨dst,.call ⟨.value f,cargs,ctypes⟩,type,pos,after,guard⟩ oc δ:=by
    intro l xs hfr hl h;have hg:=yp hfr;obtain ⟨hob,_⟩:=za6 (w:=w) (μ:=μ) (sz:=0) (base:=none) hg (cap:=0) rfl (.inr rfl);have haf0:=(za7 (cx:=cx) (w:=w) (μ:=μ) (ob:=.tok 0) hg).after hi hob
    have hargs:RVs w (xh σ (m+dst.getD 0) (.tok 0)) (setMu μ (m+dst.getD 0) ⟨none,0,0,0⟩) (cargs.toList.map a.eval++cs.toList) (l++cap):=
     RVs.append' (hl hg haf0) (hcap.map λ v x _ hv=>haf0.rv hi hv)
    obtain ⟨oc,δ,fp,hK,⟨fn,hfn,hbody⟩,hcalls⟩:=zgd hcall haf0.inv hargs h;refine ⟨oc,_,_,hK,λ next Q hk=>?_⟩
    unfold Oper.wp;rw [hrun hfn hbody,Oper.upon_enter];refine hcalls.mono λ e w' ⟨μ',haf,he⟩=>?_;cases oc with
    | val v=>cases e <;> first | exact hk _ _ _ (haf0.trans haf) he | exact he.elim
    | pan v=>cases e <;> first | exact he.elim | (obtain ⟨x,rfl,hx⟩:=he; exact hk _ _ _ (haf0.trans haf) hx)
   cases hgr:(cx.grow g).isSome <;> rw [hgr] at h <;> simp only [pu,pw] at h
   rotate_left
   ·unfold zci at h;split at h
    ·rename_i y hargs;obtain ⟨e,he,h⟩:=zb h;obtain ⟨v,hv,h⟩:=zb h;split at h
     ·rename_i n;obtain ⟨hc,hK⟩:=za h;simp only [pj,decide_eq_true_eq] at hc;obtain ⟨⟨⟨⟨h0,h1⟩,hce⟩,hfr⟩,hsm⟩:=hc;have hg:=yp hfr;have hc0:cs.toList=[]:=by
       have h1:cap.length=0:=by simpa using hce
       exact List.eq_nil_of_length_eq_zero (by rw [hcap.1]; exact h1)
      obtain ⟨⟨fn,hfn,hbody⟩,hcalls⟩:=hcall.1 g e he n w h0 h1;have hya:=(ya hf hv).int_inv;have hav:(cargs.toList.map a.eval++cs.toList).toArray = #[.slice none 0 0,.int .i64 n]:=by
       rw [hargs,hc0]; simp [hya]; rfl
      have hsm:cx.P.cellsOf e<1048576:=by simpa using hsm
      refine ⟨_,_,_,hK,λ next Q hk=>?_⟩
      unfold Oper.wp;rw [hrun hfn hbody,Oper.upon_enter,hav];refine hcalls.mono λ x w' ⟨base,c,hx,hw⟩=>?_;subst hx;rcases hw with ⟨rfl,rfl,rfl⟩ | ⟨ncs,el,rfl,rfl,hsize⟩
      ·obtain ⟨b1,b2⟩:=za6 (w:=w') (μ:=μ) (sz:=cx.P.cellsOf e) (base:=none) (cap:=0) hg rfl (.inr rfl);exact hk _ _ _ ((za7 (cx:=cx) hg).after hi b1) b2
      ·have hnh:(w.drew.alloc (.cells ncs el)).heap[w.heap.size]?=some (.cells ncs el (0,0)):=yt (w:=w.drew)
       have hup:Upd cx w σ μ (w.drew.alloc (.cells ncs el)) (zc σ [(m+dst.getD 0,.tok 0)]) (setMu μ (m+dst.getD 0) ⟨some w.heap.size,0,c * cx.P.cellsOf e,el⟩) [m+dst.getD 0]:=
        zcr (δ:=[(m+dst.getD 0,.tok 0)]) rfl rfl (by simp) (λ b hb=>alloc_old (w:=w.drew) b hb) hfr rfl (λ j hj=>by simp at hj; simp [setMu,hj])
         (λ j hj b hb=>by simp at hj; subst hj; simp [setMu] at hb; omega) (λ j hj j' hj' b _ _=>by simp at hj hj'; rw [hj,hj'])
       have hnew:zd (zc σ [(m+dst.getD 0,Ob.tok 0)]) (m+dst.getD 0)=some (.tok 0):=by simp [zc,zf]
       refine hk _ _ _ (hup.after hi λ j hj o' ho'=>?_) ?_
       ·simp at hj; subst hj;rw [hnew] at ho'; cases ho';intro b' hb';have hbb:w.heap.size=b':=by simpa [setMu] using hb'
        subst hbb;exact ⟨ncs,el,(0,0),hnh,by simp [setMu],by simp [setMu,hsize],.inl rfl⟩
       ·exact .slm (zds hsm) (.sl0 _ _ _) hnew (Nat.le_refl _) λ _=>zah (zds hsm) (by simp [setMu]) (by simp [setMu]) (by simp [setMu]) (Nat.zero_le _) (.inl hsm)
     ·cases h
    ·cases h
   cases hsm:(zbr cx.P g&&cap.isEmpty) <;> rw [hsm] at h <;> simp only [pu,pw] at h
   rotate_left
   ·rw [pj] at hsm;obtain ⟨l,hl,h⟩:=zb h;have hal:=vd hf _ _ _ hl;unfold zm1 at h;split at h
    ·rename_i v;have hc0:cs.toList=[]:=by
      have h1:cap.length=0:=by simpa using hsm.2
      exact List.eq_nil_of_length_eq_zero (by rw [hcap.1]; exact h1)
     obtain ⟨x,hx⟩:∃ x,cargs.toList.map a.eval=[x]:=List.length_eq_one_iff.1 hal.1;have hrx:RV w σ μ x v:=hal.2 0 x v (by rw [hx]; rfl) rfl
     exact hval h trivial hrx (by
      simp only [execOp,resolve,hq,Deferred.ofValue];rw [Sem.run_bind];simp only [Sem.run_pure,Result.andThen_ok,invoke];rw [show (#[]++Array.map a.eval cargs++cs) = #[x] by
       apply Array.ext'; simp [hc0,hx]]
      exact zn7 hsm.1 x)
    ·cases h
   cases hgv:cx.gives g <;> rw [hgv] at h
   ·cases hnil:(cx.keep g&&zct cargs.toList) <;> rw [hnil] at h
    ·obtain ⟨l,hl,h⟩:=zb h
     have hargs:RVs w σ μ (cargs.toList.map a.eval++cs.toList) (x2 (cx.keep g) l++cap):=
      RVs.append' (zbs (vd hf _ _ _ hl)) hcap
     obtain ⟨oc,δ,fp,hK,⟨fn,hfn,hbody⟩,hcalls⟩:=zgd hcall hi hargs h;refine ⟨oc,δ,fp,hK,λ next Q hk=>?_⟩
     unfold Oper.wp;rw [hrun hfn hbody,Oper.upon_enter];refine hcalls.mono λ e w' ⟨μ',haf,he⟩=>?_;cases oc with
     | val v=>cases e <;> first | exact hk _ _ _ haf he | exact he.elim
     | pan v=>cases e <;> first | exact he.elim | (obtain ⟨x,rfl,hx⟩:=he; exact hk _ _ _ haf hx)
    ·obtain ⟨l,hl,h⟩:=zb h;obtain ⟨hfr,h⟩:=za h;exact tokd hfr (λ hg haf0=>zgr hi hf haf0 hg _ _ _ hl) h
   ·obtain ⟨l,hl,h⟩:=zb h;obtain ⟨hfr,h⟩:=za h;exact tokd hfr (λ hg haf0=>zbs ((vd hf _ _ _ hl).map λ v x _ hv=>haf0.rv hi hv)) h
  ·rename_i hcl;simp only at hcl;subst hcl;split at h
   ·rename_i x t hx ht;obtain ⟨v1,hv1,h⟩:=zb h;obtain ⟨v,fp,h,v',h1,h2⟩:=zpg (ty:=type) hi (yj hf hv1) h;have e1:cargs = #[x]:=by apply Array.ext'; simpa using hx
    have e2:ctypes = #[t]:=by apply Array.ext'; simpa using ht
    subst e1 e2;exact hval h trivial h2 (by
     simp only [execOp,resolve];rw [Sem.run_bind];simp only [Sem.run_pure,Result.andThen_ok,invoke,builtin];exact yv (by simpa using h1))
   ·cases h
  ·rename_i hcl;simp only at hcl;subst hcl;split at h
   ·rename_i s x t t' hx ht;obtain ⟨v1,hv1,h⟩:=zb h;obtain ⟨v2,hv2,h⟩:=zb h;obtain ⟨ht',h⟩:=za h;have e1:cargs = #[s,x]:=by apply Array.ext'; simpa using hx
    have e2:ctypes = #[t,t']:=by apply Array.ext'; simpa using ht
    subst e1 e2
    have hexec:∀ {v' w'},(Builtin.append_ #[t,t'] type #[a.eval s,a.eval x]).run cx.P w=.ok v' w' →
      (execOp a.eval ⟨dst,.call ⟨.builtin .append,#[s,x],#[t,t']⟩,type,pos,after,guard⟩).run cx.P w=.ok (.value v') w':=by
     intro v' w' h1;simp only [execOp,resolve];rw [Sem.run_bind];simp only [Sem.run_pure,Result.andThen_ok,invoke,builtin];exact yv (by simpa using h1)
    unfold qu at h;split at h
    ·rename_i e hu;obtain ⟨sz',ys,hd,h⟩:=za0 h;obtain ⟨hc,h⟩:=za h;simp only [pj,Bool.or_eq_true,Nat.beq_eq] at hc;obtain ⟨z,hz⟩:=Option.isSome_iff_exists.1 hc.2;have hsz':sz'=cx.P.cellsOf e∨ys=[]:=hc.1.1.imp id λ h=>by simpa using h
     have hby:=pr hc.1.2;cases hnil:x1 s
     ·rw [hnil,pw] at h;split at h
      ·rename_i sz l id;split at h
       ·rename_i n hg;obtain ⟨hc2,h⟩:=za h;simp only [pj,decide_eq_true_eq] at hc2;obtain ⟨⟨⟨hc3,hcT⟩,hc4⟩,hc5⟩:=hc2;obtain ⟨v',w',lo,h1,h2,h3,h4⟩:=znw (ty:=type) hi (yj hf hv1) (yj hf hv2) hd hu hz ht' hsz' (pi hc3) (zmc hcT) hby (hc4 ▸ hg) hc5;exact ⟨_,_,_,h,wz.of_upd hi _ (hexec h1) h2 h3 h4⟩
       ·cases h
      ·rename_i id sz k;split at h
       ·rename_i l hg;obtain ⟨hc2,hK⟩:=za h;clear h;simp only [pj,decide_eq_true_eq] at hc2;obtain ⟨⟨hc3,hc4⟩,hc5⟩:=hc2;obtain rfl:=pi hc4;obtain ⟨v',w',lo,h1,h2,h3,h4⟩:=zjf (ty:=type) hi (yj hf hv1) (yj hf hv2) hd hu hz ht' hsz' (pi hc3) hby hg hc5;exact ⟨_,_,_,hK,wz.of_upd hi _ (hexec h1) h2 h3 h4⟩
       ·cases h
      ·cases h
     ·rw [hnil,pu] at h;obtain ⟨hc2,h⟩:=za h;simp only [pj,decide_eq_true_eq] at hc2;have hs:a.eval s=.slice none 0 0:=by
       unfold x1 at hnil;split at hnil
       ·rfl
       ·cases hnil
      obtain ⟨v',w',lo,h1,h2,h3,h4⟩:=zha (ty:=type) hi (yj hf hv2) hd hu hz ht' hsz' hby (yp hc2.1.1) hc2.1.2 (by simpa using hc2.2)
      rw [←hs] at h1;exact ⟨_,_,_,h,wz.of_upd hi _ (hexec h1) h2 h3 h4⟩
    ·cases h
   ·cases h
  ·cases h
end
section
variable {R α:Type} {cx:Cx} {σ:St}
abbrev yy:=Nat→List V→St→Option (Out×St)
theorem zr{β:Type}(o:Option β)(F:β→Option α)(K:α→Option R):ze (ze o F) K=ze o λ x=>ze (F x) K:=by cases o <;> rfl
theorem zj(b:Bool)(X:Option α)(K:α→Option R):ze (zk b X) K=zk b (ze X K):=by cases b <;> rfl
theorem zy(b:Bool)(X Y:Option α)(K:α→Option R):ze (bif b then X else Y) K=bif b then ze X K else ze Y K:=by cases b <;> rfl
theorem zi(K:α→Option R):ze none K=none:=rfl
theorem zk9(x:α)(K:α→Option R):ze (some x) K=K x:=rfl
theorem zo3(v:V)(F:Bool→Option α)(K:α→Option R):ze (asB v F) K=asB v λ x=>ze (F x) K:=by unfold asB; split <;> rfl
theorem zgo(x:D)(k:IntKind)(F:Int→Option α)(K:α→Option R):ze (asInt x k F) K=asInt x k λ x=>ze (F x) K:=by unfold asInt; split <;> simp only [zy,zi]
theorem zew(x:D)(F:Bool→Option α)(K:α→Option R):ze (asBool x F) K=asBool x λ x=>ze (F x) K:=by unfold asBool; split <;> rfl
theorem zgn(x:D)(F:List UInt8→Option α)(K:α→Option R):ze (zev x F) K=zev x λ x=>ze (F x) K:=by unfold zev; split <;> rfl
theorem zh8(x:D)(n:Nat)(F:List D→Option α)(K:α→Option R):ze (zkz x n F) K=zkz x n λ x=>ze (F x) K:=by unfold zkz; split <;> simp only [zy,zi]
theorem zgq(x:D)(n:Nat)(F:D→Option α)(K:α→Option R):ze (asAgg x n F) K=asAgg x n λ x=>ze (F x) K:=by unfold asAgg; split <;> simp only [zy,zi]
theorem zgp(x:V)(F:D→Option α)(K:α→Option R):ze (asD x F) K=asD x λ x=>ze (F x) K:=by unfold asD; split <;> rfl
theorem we(l:List D)(i:Nat)(F:D→Option α)(K:α→Option R):ze (qd l i F) K=qd l i λ x=>ze (F x) K:=by unfold qd; split <;> rfl
theorem vz(l:List V)(i:Nat)(F:V→Option α)(K:α→Option R):ze (zj3 l i F) K=zj3 l i λ x=>ze (F x) K:=by unfold zj3; split <;> rfl
theorem zgl(x:V)(F:List V→Option α)(K:α→Option R):ze (zgm x F) K=zgm x λ x=>ze (F x) K:=by unfold zgm; split <;> rfl
theorem zjl(l:List V)(F:V→List V→Option α)(K:α→Option R):ze (unc l F) K=unc l λ x y=>ze (F x y) K:=by unfold unc; split <;> rfl
theorem zji(l:List V)(F:Option α)(K:α→Option R):ze (unn l F) K=unn l (ze F K):=by unfold unn; split <;> rfl
theorem wc(P:Program)(t:Nat)(x:D)(F:V→Option α)(K:α→Option R):ze (vj P t x F) K=vj P t x λ x=>ze (F x) K:=by
 unfold vj;split <;> simp only [zgo,zew,zgn,zh8,zgq,zi];split <;> rfl
theorem za2(P:Program)(t:Nat)(x:V)(F:V→Option α)(K:α→Option R):ze (vn P t x F) K=vn P t x λ x=>ze (F x) K:=by
 unfold vn;split
 ·exact wc P t _ F K
 ·exact zj _ _ _
theorem zlo(op:BinOp)(k:IntKind)(a b:Int)(F:V→Option α)(K:α→Option R):ze (zht op k a b F) K=zht op k a b λ x=>ze (F x) K:=by cases op <;> first | rfl | simp only [zht,zj,zi]
theorem zk6(op:BinOp)(a b:List UInt8)(F:V→Option α)(K:α→Option R):ze (zhc op a b F) K=zhc op a b λ x=>ze (F x) K:=by cases op <;> first | rfl | simp only [zhc,zj,zi]
theorem zie(op:BinOp)(k:IntKind)(a b:Int)(F:V→Option α)(K:α→Option R):ze (zal op k a b F) K=zal op k a b λ x=>ze (F x) K:=by cases op <;> first | rfl | simp only [zal,zj,zi]
theorem zkr(op:BinOp)(b:Bool)(F:V→Option α)(K:α→Option R):ze (eqV op b F) K=eqV op b λ x=>ze (F x) K:=by cases op <;> first | rfl | simp only [eqV,zi]
theorem znu(P:Program)(cst:Bool)(op:BinOp)(t:Nat)(x y:V)(F:V→Option α)(K:α→Option R):ze (znv P cst op t x y F) K=znv P cst op t x y λ x=>ze (F x) K:=by
 unfold znv;split
 case h_10=>
  simp only [zj];congr 1;split <;> simp only [zkr,zi]
 all_goals first | rfl | simp only [zk6,zj,zkr,zi] | skip
 split <;> simp only [zie,zlo,zy,zi]
theorem zny(op:UnOp)(x:V)(F:V→Option α)(K:α→Option R):ze (unV op x F) K=unV op x λ x=>ze (F x) K:=by unfold unV; split <;> rfl
theorem zkt(x:V)(F:Nat→List D→Option α)(K:α→Option R):ze (dataOf x F) K=dataOf x λ a b=>ze (F a b) K:=by unfold dataOf; split <;> rfl
theorem zf7(x:V)(F:Nat→List D→Option α)(K:α→Option R):ze (zet x F) K=zet x λ a b=>ze (F a b) K:=by unfold zet; split <;> rfl
theorem zl2(P:Program)(s d:Nat)(x:V)(F:V→Option α)(K:α→Option R):ze (zh4 P s d x F) K=zh4 P s d x λ x=>ze (F x) K:=by
 unfold zh4;split <;> try rfl
 split <;> simp only [zf7,zj,zi];congr 1; funext a b; congr 1;split <;> rfl
theorem zgi(v:Option V)(y d:Nat)(F:Nat→Option α)(K:α→Option R):ze (bound v y d F) K=bound v y d λ x=>ze (F x) K:=by unfold bound; split <;> simp only [zj,zi]
theorem zcs(v:V)(n:Nat)(F:Nat→Option α)(K:α→Option R):ze (index v n F) K=index v n λ x=>ze (F x) K:=by unfold index; split <;> simp only [zj,zi]
theorem zmy(fr:Fr)(x:Option Operand)(F:Option V→Option α)(K:α→Option R):ze (zap fr x F) K=zap fr x λ x=>ze (F x) K:=by unfold zap; split <;> simp only [zr]
theorem zai(x:D):∀ (n off:Nat) (F:List D→Option α) (K:α→Option R),ze (qm x off n F) K=qm x off n λ x=>ze (F x) K
 | 0,off,F,K=>rfl
 | n+1,off,F,K=>by simp only [qm,we,zai x n]
theorem zll(t:Nat)(p:V)(F:V→List Nat→Option α)(K:α→Option R):ze (qe cx σ t p F) K=qe cx σ t p λ a b=>ze (F a b) K:=by
 unfold qe;rw [zj];congr 1;split
 ·split <;> simp only [zy,za2,wc,zj,vz,we,zi]
 ·simp only [zy,zai,wc,zj,vz,we,zi]
 ·split <;> simp only [zy,zai,wc,zj,vz,we,zi]
 ·simp only [zr,zy,zgq,wc,zj,vz,we,zi]
 ·rfl
theorem zbj(t:Nat)(p v:V)(F:De→List Nat→Option α)(K:α→Option R):ze (xo cx σ t p v F) K=xo cx σ t p v λ a b=>ze (F a b) K:=by
 unfold xo;split <;> try rfl
 all_goals (split <;> simp only [zr,zy,zj,zi])
theorem zgw(site t:Nat)(p:V)(F:De→List Nat→Option α)(K:α→Option R):ze (vg cx σ site t p F) K=vg cx σ site t p λ a b=>ze (F a b) K:=by
 unfold vg;split
 ·rw [zj,zbj]
 ·rfl
theorem zdo(P:Program):∀ (ts:List Nat) (vs:List V) (F:List V→Option α) (K:α→Option R),ze (za3 P ts vs F) K=za3 P ts vs λ x=>ze (F x) K
 | [],vs,F,K=>by simp only [za3,zji]
 | t::ts,vs,F,K=>by
  simp only [za3,zjl,za2];congr 1; funext v r; congr 1; funext u;exact zdo P ts r _ K
theorem zja(P:Program)(t:Nat)(v:V)(F:V→Option α)(K:α→Option R):ze (za4 P t v F) K=za4 P t v λ x=>ze (F x) K:=by
 unfold za4;split
 ·split <;> simp only [zgl,zdo]
 ·exact za2 P t v F K
theorem zfo(o x:V)(F:V→Option α)(K:α→Option R):ze (zfp o x F) K=zfp o x λ x=>ze (F x) K:=by
 unfold zfp;split <;> simp only [zgp,zgo,zew,zgn,zh8];split <;> simp only [zy,zi]
theorem zfq:∀ (os vs:List V) (F:List V→Option α) (K:α→Option R),ze (zfr os vs F) K=zfr os vs λ x=>ze (F x) K
 | [],vs,F,K=>by simp only [zfr,zji]
 | o::os,vs,F,K=>by
  simp only [zfr,zjl,zfo];congr 1; funext v r; congr 1; funext u;exact zfq os r _ K
theorem zlm(o x:Ob)(F:Ob→Option α)(K:α→Option R):ze (zhq o x F) K=zhq o x λ x=>ze (F x) K:=by
 unfold zhq;split
 ·rw [zj];congr 1;split
  ·exact zfq _ _ _ K
  ·rfl
 ·rw [zj,zfo]
 ·rfl
theorem zeu(ren:List Nat)(σ':St):∀ (l:List Nat) (k:Nat) (F:De→Option α) (K:α→Option R),ze (x0 ren σ σ' k l F) K=x0 ren σ σ' k l λ x=>ze (F x) K
 | [],k,F,K=>rfl
 | i::l,k,F,K=>by
  simp only [x0,zr,zlm];congr 1; funext a; congr 1; funext b; congr 1; funext c;exact zeu ren σ' l (k+1) _ K
theorem zcx(call:yy)(t f:Nat)(args:List V)(xs:List Nat)(F:Oc→De→List Nat→Option α)(K:α→Option R):ze (xa cx call σ t f args xs F) K=xa cx call σ t f args xs λ a b c=>ze (F a b c) K:=by
 unfold xa;simp only [zj];congr 1;congr 1;split <;> simp only [zeu,zja,zi]
end
section
variable {R:Type} {cx:Cx} {w:World} {σ:St} {μ:Mu}
def zba(w:World)(σ:St)(μ:Mu):Ex→Exit→Prop
 | .normal,.normal=>True
 | .ret,.ret=>True
 | .exit i,.exit j=>i=j
 | .goto i,.goto j=>i=j
 | .pan v,.panic chain=>∃ x,chain=[{ v:=x,recovered:=false }]∧RV w σ μ x v
 | _,_=>False
structure Now (cx:Cx) (nt:Nat) (ds:List Deferred) (w₀:World) (σ₀:St) (μ₀:Mu) (a:Act) (w:World) (σ:St) (μ:Mu) (fr:Fr):Prop where
 after:After cx w₀ σ₀ μ₀ w σ μ
 fr:FR w σ μ a.tmps fr
 size:nt≤a.tmps.size
 defers:a.defers=ds
def zz(fr fr':Fr):Prop:=∀ t,zd fr' t=zd fr t
theorem FR.same{tmps:Array Value}{fr fr':Fr}(h:FR w σ μ tmps fr)(hs:zz fr fr'):FR w σ μ tmps fr':=λ t v ht=>h t v (by rw [←hs t]; exact ht)
theorem zz.refl(fr:Fr):zz fr fr:=λ _=>rfl
theorem zz.dup{fr:Fr}{t:Nat}{v:V}(h:zd fr t=some v):zz fr ((t,v)::fr):=by
 intro t';simp only [zd];cases hb:Nat.beq t t'
 ·rfl
 ·obtain rfl:=pi hb;exact h.symm
theorem RV.bool_of{v:V}{b:Bool}(h:RV w σ μ (.bool b) v):v=.d (.bool b):=by
 cases h with
 | d _ x hd=>cases hd; rfl
 | sl _ sz l id n hd=>cases hd
theorem zpi{tmps:Array Value}{t:Nat}{v:Value}(h:tmps[t]?=some v):tmps.getD t undef=v:=by
 simp [Array.getD_eq_getD_getElem?,h]
theorem zpe{tmps:Array Value}{t:Nat}{b:Bool}(h:tmps.getD t undef=.bool b):tmps[t]?=some (.bool b):=by
 cases hg:tmps[t]? with
 | none=>simp [Array.getD_eq_getD_getElem?,hg,undef] at h
 | some v=>simp [Array.getD_eq_getD_getElem?,hg] at h; rw [h]
def zbf(ops:List Oper)(o:Oper)(fr:Fr):Option Bool:=
 match o.guard with
 | none=>some true
 | some (j,want)=>
  match ze9 ops j with
  | none=>some false
  | some t=>
   match zd fr t with
   | some (.d (.bool b))=>some (b == want)
   | some _=>some false
   | none=>none
theorem zeo{ops:List Oper}{o:Oper}{fr:Fr}{yes no:Fr→Option R}{r:R}(h:vl ops o fr yes no=some r) :
  ∃ fr',zz fr fr'∧((zbf ops o fr=some true∧yes fr'=some r)∨(zbf ops o fr=some false∧no fr'=some r)):=by
 unfold vl at h;unfold zbf;split at h
 ·exact ⟨fr,zz.refl fr,.inl ⟨by simp [*],h⟩⟩
 ·rename_i j want hg;simp only [hg];split at h
  ·exact ⟨fr,zz.refl fr,.inr ⟨by simp [*],h⟩⟩
  ·rename_i t ht;simp only [ht];split at h
   ·rename_i b hb;cases b <;> cases want <;> simp only [pu,pw] at h
    ·exact ⟨_,zz.dup hb,.inl ⟨by simp [hb],h⟩⟩
    ·exact ⟨_,zz.dup hb,.inr ⟨by simp [hb],h⟩⟩
    ·exact ⟨_,zz.dup hb,.inr ⟨by simp [hb],h⟩⟩
    ·exact ⟨_,zz.dup hb,.inl ⟨by simp [hb],h⟩⟩
   ·rename_i x hn hx;refine ⟨fr,zz.refl fr,.inr ⟨?_,h⟩⟩;rw [hx];split
    ·rename_i b hb; exact (hn _ (Option.some.inj hb)).elim
    ·rfl
    ·rename_i hb; cases hb
   ·cases h
theorem zjt{ops:List Oper}{arr:Array Oper}(h:arr.toList=ops)(j:Nat):(arr[j]?).bind (·.dst)=ze9 ops j:=by
 unfold ze9;rw [←h,Array.getElem?_toList];cases arr[j]? <;> rfl
theorem vf{ops:List Oper}{arr:Array Oper}(harr:arr.toList=ops){o:Oper}{fr:Fr}{tmps:Array Value}(hf:FR w σ μ tmps fr){b:Bool}(h:zbf ops o fr=some b) :
  Region.wanted o (yielded arr tmps)=b:=by
 unfold zbf at h;unfold Region.wanted;split at h
 ·rename_i hg; simp only [hg]; cases h; rfl
 ·rename_i j want hg;simp only [hg,yielded,zjt harr];split at h
  ·rename_i ht; cases h; simp [ht]
  ·rename_i t ht;simp only [ht,Option.bind_some];split at h
   ·rename_i c hb;cases h;have hr:=hf t _ hb;have:tmps[t]?=some (.bool c):=by
     cases hr':tmps.getD t undef <;> rw [hr'] at hr
     case bool c'=>
      have:=hr.bool_of; cases this;exact zpe hr'
     all_goals (cases hr with | d _ _ hd=>cases hd)
    rw [this];cases c <;> cases want <;> rfl
   ·rename_i x hn hx;cases h;have hr:=hf t _ hx;cases hq:tmps[t]? with
    | none=>simp
    | some q=>
     rw [zpi hq] at hr;cases q <;> first | rfl | skip
     have:=hr.bool_of;subst this;exact (hn _ rfl).elim
   ·cases h
theorem zd7{fr:Fr}{dst:Option Nat}{v:V}{t:Nat}:zd (qj fr dst v) t=if dst=some t then some v else zd fr t:=by
 cases dst with
 | none=>simp [qj]
 | some d=>
  simp only [qj,zd];by_cases h:d=t
  ·subst h; simp
  ·simp [h,zee h]
theorem FR.put{nt:Nat}{a:Act}{fr:Fr}(h:FR w σ μ a.tmps fr){dst:Option Nat}(hd:zes nt dst=true)(hs:nt≤a.tmps.size){v':Value}{v:V}(hv:RV w σ μ v' v) :
  FR w σ μ (a.put dst v').tmps (qj fr dst v):=by
 intro t u ht;rw [zd7] at ht;cases dst with
 | none=>exact h t u (by simpa using ht)
 | some d=>
  have hlt:d<a.tmps.size:=Nat.lt_of_lt_of_le (pr hd) hs;by_cases he:d=t
  ·subst he;simp at ht; subst ht;simpa [Act.put,Array.getD_eq_getD_getElem?,hlt] using hv
  ·simp [he] at ht;have:=h t u ht;simpa [Act.put,Array.getD_eq_getD_getElem?,Array.getElem?_setIfInBounds_ne he] using this
theorem y9(a:Act)(dst:Option Nat)(v:Value):(a.put dst v).tmps.size=a.tmps.size:=by cases dst <;> simp [Act.put]
theorem yn(a:Act)(dst:Option Nat)(v:Value):(a.put dst v).defers=a.defers:=by cases dst <;> rfl
theorem ze8:RV w σ μ undef yo:=.tup #[] [] rfl (by simp)
theorem FR.nil{tmps:Array Value}:FR w σ μ tmps []:=λ _ _ h=>by cases h
variable {nt:Nat} {ds:List Deferred} {w₀:World} {σ₀:St} {μ₀:Mu}
theorem zav{m:Nat}{call:Nat→List V→St→Option (Out×St)}(hcall:xe cx call)(hn:zw cx.P){arr:Array Oper}{tl:List Oper}{K:Ex→Fr→St→Option R}{r:R}
  {Q:Exit→Act→World→Prop}
  (hend:∀ fr σ,K .normal fr σ=some r→∀ a w μ,Now cx nt ds w₀ σ₀ μ₀ a w σ μ fr→∀ i,arr.toList.drop i=tl→wpOps cx.P arr Q ((List.range arr.size).drop i) a w)
  (hQ:∀ v fr σ,K (.pan v) fr σ=some r→∀ x a w μ,zba w σ μ (.pan v) x→Now cx nt ds w₀ σ₀ μ₀ a w σ μ fr→Q x a w) :
  ∀ (l:List Oper) (i:Nat),arr.toList.drop i=l++tl→∀ (fr:Fr) (σ:St),w4 cx m nt call arr.toList l fr σ K=some r →
   ∀ a w μ,Now cx nt ds w₀ σ₀ μ₀ a w σ μ fr→wpOps cx.P arr Q ((List.range arr.size).drop i) a w:=by
 intro l
 induction l with
 | nil=>
  intro i hi fr σ h a w μ hnow;exact hend _ _ h _ _ _ hnow i hi
 | cons o l ih=>
  intro i hi fr σ h a w μ hnow;have hlt:i<arr.size:=by
   have:=congrArg List.length hi;simp at this; omega
  have ho:arr[i]?=some o:=by
   have:=congrArg (·[0]?) hi;simpa using this
  have hrest:arr.toList.drop (i+1)=l++tl:=by
   rw [←List.drop_drop,hi]; rfl
  have hdrop:(List.range arr.size).drop i=i::(List.range arr.size).drop (i+1):=by
   rw [List.drop_eq_getElem_cons (by simpa using hlt)]; simp
  rw [hdrop];simp only [wpOps,ho];unfold w4 at h;obtain ⟨hd,h⟩:=za h;obtain ⟨fr',hs,h⟩:=zeo h;have hf':=hnow.fr.same hs;rcases h with ⟨hw,h⟩ | ⟨hw,h⟩
  ·rw [vf rfl hnow.fr hw,if_pos rfl];left;obtain ⟨p,hp,h⟩:=zb h;obtain ⟨oc,δ,fp,hK0,hok⟩:=zdg hcall hn hnow.after.inv hf' hp;cases hK0;have hK:=h;refine hok _ _ ?_;cases oc with
   | val v=>
    intro v' w' μ' haf hv;refine ih (i+1) hrest _ _ hK _ _ μ' ⟨hnow.after.trans haf,FR.put (haf.frs hnow.after.inv hf') hd hnow.size hv,?_,?_⟩
    ·rw [y9]; exact hnow.size
    ·rw [yn]; exact hnow.defers
   | pan v=>
    intro x w' μ' haf hv;exact hQ _ _ _ hK _ _ _ μ' ⟨x,rfl,hv⟩ ⟨hnow.after.trans haf,haf.frs hnow.after.inv hf',hnow.size,hnow.defers⟩
  ·rw [vf rfl hnow.fr hw];simp only [Bool.false_eq_true,if_false];refine ih (i+1) hrest _ _ h _ _ μ ⟨hnow.after,FR.put hf' hd hnow.size ze8,?_,?_⟩
   ·rw [y9]; exact hnow.size
   ·rw [yn]; exact hnow.defers
theorem zkp{m:Nat}{call:Nat→List V→St→Option (Out×St)}(hcall:xe cx call)(hn:zw cx.P){arr:Array Oper}{K:Ex→Fr→St→Option R}{r:R}
  {Q:Exit→Act→World→Prop}
  (hQ:∀ e fr σ,K e fr σ=some r→∀ x a w μ,zba w σ μ e x→Now cx nt ds w₀ σ₀ μ₀ a w σ μ fr→Q x a w) :
  ∀ (l:List Oper) (i:Nat),arr.toList.drop i=l→∀ (fr:Fr) (σ:St),w4 cx m nt call arr.toList l fr σ K=some r →
   ∀ a w μ,Now cx nt ds w₀ σ₀ μ₀ a w σ μ fr→wpOps cx.P arr Q ((List.range arr.size).drop i) a w:=by
 intro l i hi;refine zav hcall hn (tl:=[]) (λ fr σ h a w μ hnow i hi=>?_) (λ v=>hQ (.pan v)) l i (by rw [hi,List.append_nil])
 have:arr.size≤i:=by have:=congrArg List.length hi; simp at this; omega
 rw [List.drop_eq_nil_of_le (by simpa using this)]
 exact hQ _ _ _ h _ _ _ _ trivial hnow
end
section
variable {R:Type} {cx:Cx} {w:World} {σ:St} {μ:Mu} {nt:Nat} {ds:List Deferred} {w₀:World} {σ₀:St} {μ₀:Mu}
theorem zhj{y:Operand}{a:Nat}(h:zmz y a=true):y=.tmp a:=by
 unfold zmz at h;split at h
 ·rw [pi h]
 ·cases h
theorem zaq{y:Operand}{a:Nat}(h:vm y a=true)(c:Act)(v:Value):(c.put (some a) v).eval y=c.eval y:=by
 unfold vm at h;split at h
 ·rename_i b;have hne:b ≠ a:=by
   intro e;subst e;simp at h
  simp only [Act.eval,Act.put];simp [Array.getD_eq_getD_getElem?,Array.getElem?_setIfInBounds_ne (Ne.symm hne)]
 ·cases y <;> first | rfl | (rename_i hn; exact (hn _ rfl).elim)
theorem zbp{o i s:Oper}{q:Pend}(h:zd0 o i s=some q) :
  ∃ ty1 p1 f1 ty2 p2 f2 ty3 p3 f3,o=⟨some q.a,.call ⟨.builtin .append,#[q.sv,q.pv],#[q.t,q.t2]⟩,ty1,p1,f1,none⟩∧i=⟨some q.p,.indexAddr q.t (.tmp q.a) q.j,ty2,p2,f2,none⟩ ∧
   s=⟨none,.store q.e (.tmp q.p) q.x,ty3,p3,f3,none⟩∧vm q.j q.a=true∧vm q.x q.a=true∧vm q.x q.p=true∧q.a ≠ q.p:=by
 obtain ⟨d1,op1,ty1,p1,f1,g1⟩:=o;obtain ⟨d2,op2,ty2,p2,f2,g2⟩:=i;obtain ⟨d3,op3,ty3,p3,f3,g3⟩:=s;unfold zd0 at h;split at h
 ·rename_i c t' y j e q' x h1 h2 h3;simp only at h1 h2 h3;subst h1 h2 h3;split at h
  ·rename_i sv pv t t2 a p hc ha hty hd1 hd2;simp only at hd1 hd2;subst hd1 hd2;cases hb:(zmz y a&&zmz q' p&&vm j a&&vm x a&&vm x p&&!Nat.beq a p&&Nat.beq t' t&&g1.isNone&&g2.isNone&&g3.isNone&&d3.isNone) <;> simp only [hb] at h
   ·cases h
   ·cases h;simp only [pj,Bool.not_eq_true',Option.isNone_iff_eq_none] at hb;obtain ⟨⟨⟨⟨⟨⟨⟨⟨⟨⟨k1,k2⟩,k3⟩,k4⟩,k5⟩,k6⟩,k7⟩,k8⟩,k9⟩,k10⟩,k11⟩:=hb;subst k8 k9 k10 k11;have k7:=pi k7;subst k7;obtain rfl:=zhj k1;obtain rfl:=zhj k2;obtain ⟨callee,cargs,ctys⟩:=c;simp only at hc ha hty;subst hc;have e1:cargs = #[sv,pv]:=by apply Array.ext'; simpa using ha
    have e2:ctys = #[t',t2]:=by apply Array.ext'; simpa using hty
    subst e1 e2;exact ⟨_,_,_,_,_,_,_,_,_,rfl,rfl,rfl,k3,k4,k5,λ e=>by have e':a=p:=e; subst e'; simp at k6⟩
  ·cases h
 ·cases h
theorem zj4{P:Program}{t:Nat}(h:zoa P t=true):(match P.underlying t with | some (.int _)=>false | some _=>true | none=>false)=true:=h
theorem zjz(hi:Inv cx w σ μ){a:Act}{fr:Fr}(hf:FR w σ μ a.tmps fr)(hs:nt≤a.tmps.size){q:Pend}{K:Fr→St→Option R}{r:R}{o i s:Oper}(hq:zd0 o i s=some q)(h:zbo cx nt σ fr q K=some r) :
  ∃ fr' σ',K fr' σ'=some r∧∃ v1 v2 w1 w' μ',(execOp a.eval o).run cx.P w=.ok (.value v1) w1∧(execOp (a.put o.dst v1).eval i).run cx.P w1=.ok (.value v2) w1 ∧
   (execOp ((a.put o.dst v1).put i.dst v2).eval s).run cx.P w1=.ok .skip w'∧After cx w σ μ w' σ' μ'∧FR w' σ' μ' (((a.put o.dst v1).put i.dst v2).put s.dst undef).tmps fr' ∧
   (∀ w2,(execOp (a.put o.dst v1).eval i).run cx.P w2=.ok (.value v2) w2)∧∃ b ncs id n,zd σ' id=some (.tok n)∧(μ' id).blk=some b∧w'=w1.setRow b ncs ∧
    ∀ w2:World,w2.heap[b]?=w1.heap[b]?→(execOp ((a.put o.dst v1).put i.dst v2).eval s).run cx.P w2=.ok .skip (w2.setRow b ncs):=by
 obtain ⟨ty1,p1,f1,ty2,p2,f2,ty3,p3,f3,rfl,rfl,rfl,hj,hx1,hx2,hap⟩:=zbp hq;unfold zbo at h;obtain ⟨hlt,h0⟩:=za h;clear h;rw [pj] at hlt;split at h0
 case h_2=>cases h0
 rename_i e hu;obtain ⟨hc,h1⟩:=za h0;clear h0;simp only [pj] at hc;obtain ⟨⟨⟨⟨he,hty⟩,hby⟩,hz⟩,hni⟩:=hc;have he:=pi he;subst he;obtain ⟨z,hz⟩:=Option.isSome_iff_exists.1 hz;obtain ⟨sv,hsv,h2⟩:=zb h1;clear h1;obtain ⟨pl,hpl,h3⟩:=zb h2;clear h2;obtain ⟨jv,hjv,h4⟩:=zb h3;clear h3;obtain ⟨v,hv,h5⟩:=zb h4;clear h4;obtain ⟨y,hy,h6⟩:=zb h5;clear h5;split at h6
 case h_2=>cases h6
 rename_i sz l id k n;split at h6
 case h_2=>cases h6
 rename_i kk hid;obtain ⟨hc,h7⟩:=za h6;clear h6;simp only [pj,decide_eq_true_eq,Bool.not_eq_true'] at hc;obtain ⟨⟨⟨⟨⟨⟨hsz,hT⟩,hkk⟩,hn⟩,hle⟩,hyc⟩,htup⟩:=hc;have hsz:=pi hsz;have hyc:=pi hyc;subst hkk hn;obtain ⟨sz',ps,hd,h8⟩:=za0 h7;clear h7;obtain ⟨hc,h⟩:=za h8;clear h8;rw [pj] at hc;have hsz':=pi hc.1;have hps:=pi hc.2;have rs:=yj (t:=q.t) hf hsv;have rp:=yj (t:=q.t2) hf hpl;have rj:=ya hf hjv;have rv:=yj (t:=q.e) hf hv;have hyr:=zag rv hy;have hcells:=V.cells_ok (RV.d _ _ hyr);have hvd:RDs w (zg σ μ) (a.eval q.x).cells.toList y.cells:=by
  have:(V.d y).cells=y.cells.map .d:=by cases y <;> rfl
  rw [this] at hcells;exact hcells.rd
 have hone:=V.cells_one (RV.d _ _ hyr) rfl;obtain ⟨b,oo,cap,w1,w',lo,g1,g2,g3,g4,g5,g6,ncs,g7,g8⟩:=zpj (ty:=ty1) hi rs rp hd hps hvd hone hyc hu hz (zj4 hni) (.inl hsz') hsz (zmc hT) (pr hby) hid hle;have haf:=g3.after hi g4;have hjint:a.eval q.j=.int k (l.length:Int):=rj.int_inv;have hidx:∀ w2:World,(execOp (a.put (some q.a) (.slice (some ⟨b,oo,none⟩) (l.length+1) cap)).eval ⟨some q.p,.indexAddr q.t (.tmp q.a) q.j,ty2,p2,f2,none⟩).run cx.P w2=.ok (.value (.pointer (some ⟨b,oo+l.length * cx.P.cellsOf q.e,none⟩))) w2:=by
  intro w2;simp only [execOp];refine yv ?_;rw [zaq hj,hjint];have hsl:(a.put (some q.a) (.slice (some ⟨b,oo,none⟩) (l.length+1) cap)).eval (.tmp q.a)=.slice (some ⟨b,oo,none⟩) (l.length+1) cap:=by
   have:q.a<a.tmps.size:=Nat.lt_of_lt_of_le (pr hlt.1) hs;simp [Act.eval,Act.put,Array.getD_eq_getD_getElem?,this]
  rw [hsl];have:=run_indexAt_slice (w:=w2) (k:=k) (i:=(l.length:Int)) (b:=b) (o:=oo) (n:=l.length+1) (cap:=cap) hu (by omega) (by omega) (y4 hty)
  simpa using this
 have hput:∀ w2 w3:World,(storeCells ⟨b,oo+l.length * cx.P.cellsOf q.e,none⟩ (a.eval q.x).cells.toList).run cx.P w2=.ok () w3 →
   (execOp ((a.put (some q.a) (.slice (some ⟨b,oo,none⟩) (l.length+1) cap)).put (some q.p) (.pointer (some ⟨b,oo+l.length * cx.P.cellsOf q.e,none⟩))).eval ⟨none,.store q.e (.tmp q.p) q.x,ty3,p3,f3,none⟩).run cx.P w2=.ok .skip w3:=by
  intro w2 w3 hst;simp only [execOp];refine zjw ?_;rw [zaq hx2,zaq hx1];have hpp:((a.put (some q.a) (.slice (some ⟨b,oo,none⟩) (l.length+1) cap)).put (some q.p) (.pointer (some ⟨b,oo+l.length * cx.P.cellsOf q.e,none⟩))).eval (.tmp q.p)=.pointer (some ⟨b,oo+l.length * cx.P.cellsOf q.e,none⟩):=by
   have:q.p<a.tmps.size:=Nat.lt_of_lt_of_le (pr hlt.2) hs;simp [Act.eval,Act.put,Array.getD_eq_getD_getElem?,this]
  rw [hpp];obtain ⟨dd,hdd⟩:=xr hty;unfold Instr.storeAt Instr.sureAddr storeVar;have hcs:(a.eval q.x).cells.size=cx.P.cellsOf q.e:=by have:=hvd.1; simp at this; omega
  simp [run_sizeOf hdd,hcs,hst]
 refine ⟨_,_,h,.slice (some ⟨b,oo,none⟩) (l.length+1) cap,.pointer (some ⟨b,oo+l.length * cx.P.cellsOf q.e,none⟩),w1,w',_,?_,hidx w1,hput w1 w' g2,haf,?_,hidx,
  b,ncs,id,l.length+1,by simp [zf],by simp [setMu,g6],g7,λ w2 h2=>hput w2 _ (g8 w2 h2)⟩
 ·simp only [execOp,resolve,invoke,builtin];simp [Sem.run_bind,g1]
 ·have hptr:RV w' (xh σ id (.tok (l.length+1))) (setMu μ id lo) (.pointer (some ⟨b,oo+l.length * cx.P.cellsOf q.e,none⟩)) (.eptr y 0):=by
   have hrd:=g5.slD;rw [hsz] at hrd;obtain ⟨b',o',n',cap',xs,he,_,hyl,hc1,hr1⟩:=hrd.slot (j:=l.length) (y:=y) (by simp)
   cases he;exact .eptr y b _ 0 xs (λ k hk=>hc1 k (by omega)) hr1
  exact FR.put (dst:=some q.p) (a:=a.put (some q.a) (.slice (some ⟨b,oo,none⟩) (l.length+1) cap)) (FR.put (dst:=some q.a) (haf.frs hi hf) hlt.1 hs g5) hlt.2 (by rw [y9]; exact hs) hptr
theorem znx{P:Program}{arr:Array Oper}{Q:Exit→Act→World→Prop}{k:Nat}{o i s:Oper}{l:List Oper}{a:Act}{w w1 w':World}{v1 v2:Value}(hdrop:arr.toList.drop k=o::i::s::l)
  (hg:o.guard=none∧i.guard=none∧s.guard=none) (h1:(execOp a.eval o).run P w=.ok (.value v1) w1) (h2:(execOp (a.put o.dst v1).eval i).run P w1=.ok (.value v2) w1)
  (h3:(execOp ((a.put o.dst v1).put i.dst v2).eval s).run P w1=.ok .skip w') (h:wpOps P arr Q ((List.range arr.size).drop (k+3)) (((a.put o.dst v1).put i.dst v2).put s.dst undef) w') :
  wpOps P arr Q ((List.range arr.size).drop k) a w:=by
 have hlen:k+3≤arr.size:=by have:=congrArg List.length hdrop; simp at this; omega
 have ho:arr[k]?=some o:=by have:=congrArg (·[0]?) hdrop; simpa using this
 have hi:arr[k+1]?=some i:=by have:=congrArg (·[1]?) hdrop; simpa using this
 have hs:arr[k+2]?=some s:=by have:=congrArg (·[2]?) hdrop; simpa using this
 have hd:(List.range arr.size).drop k=k::(k+1)::(k+2)::(List.range arr.size).drop (k+3):=by
  rw [List.drop_eq_getElem_cons (by simp; omega),List.drop_eq_getElem_cons (by simp; omega),List.drop_eq_getElem_cons (by simp; omega)]
  simp
 rw [hd];simp only [wpOps,ho,hi,hs];rw [if_pos (by simp [Region.wanted,hg.1])]
 left;unfold Oper.wp;rw [h1,Oper.upon_value,if_pos (by simp [Region.wanted,hg.2.1])]
 left;rw [h2,Oper.upon_value,if_pos (by simp [Region.wanted,hg.2.2])]
 left;rw [h3,Oper.upon_skip];exact h
theorem zg0{o i s:Oper}{q:Pend}(h:zd0 o i s=some q):o.guard=none∧i.guard=none∧s.guard=none:=by
 obtain ⟨ty1,p1,f1,ty2,p2,f2,ty3,p3,f3,rfl,rfl,rfl,_⟩:=zbp h;exact ⟨rfl,rfl,rfl⟩
theorem zhe(a:Act)(x y z:Option Nat)(u v t:Value):(((a.put x u).put y v).put z t).tmps.size=a.tmps.size∧(((a.put x u).put y v).put z t).defers=a.defers:=by
 rw [y9,y9,y9,yn,yn,yn];exact ⟨rfl,rfl⟩
theorem znc{arr:Array Oper}{Q:Exit→Act→World→Prop}{k:Nat}{fr:Fr}{K:List Oper→Fr→St→Option R}{r:R}(h:q7 cx nt arr.toList k fr σ K=some r){a:Act}(hnow:Now cx nt ds w₀ σ₀ μ₀ a w σ μ fr)
  (hnext:∀ l fr' σ',K l fr' σ'=some r→arr.toList.drop (k+3)=l→∀ a w μ,Now cx nt ds w₀ σ₀ μ₀ a w σ' μ fr'→wpOps cx.P arr Q ((List.range arr.size).drop (k+3)) a w) :
  wpOps cx.P arr Q ((List.range arr.size).drop k) a w:=by
 unfold q7 at h;split at h
 case h_2=>cases h
 rename_i o i s l hdrop;obtain ⟨q,hq,h⟩:=zb h;obtain ⟨fr',σ',hK,v1,v2,w1,w',μ',g1,g2,g3,haf,hf,_⟩:=zjz hnow.after.inv hnow.fr hnow.size hq h;refine znx hdrop (zg0 hq) g1 g2 g3 (hnext l fr' σ' hK ?_ _ _ μ' ⟨hnow.after.trans haf,hf,?_,?_⟩)
 ·rw [←List.drop_drop,hdrop]; rfl
 ·rw [(zhe ..).1]; exact hnow.size
 ·rw [(zhe ..).2]; exact hnow.defers
end
section
variable {R:Type} {cx:Cx} {σ σ':St}
theorem wo{P:Program}{t:Nat}{fr fr':Fr}{x:Operand}(h:opd fr' x=opd fr x):qc P t fr' x=qc P t fr x:=by
 unfold qc;split
 ·rfl
 ·exact h
theorem zik{P:Program}{t:Nat}{fr fr':Fr}:∀ {ps:List (Nat×Operand)},(∀ p∈ps,opd fr' p.2=opd fr p.2)→zdc P fr' t ps=zdc P fr t ps
 | [],_=>rfl
 | (i,x)::ps,h=>by
  simp only [zdc];rw [wo (h (i,x) po),zik λ p hp=>h p (pq _ hp)]
theorem zcc{P:Program}{fr fr':Fr}:∀ {xs:List Operand} {ts:List Nat},(∀ x∈xs,opd fr' x=opd fr x)→xd P fr' xs ts=xd P fr xs ts
 | [],_,_=>rfl
 | x::xs,ts,h=>by
  simp only [xd];rw [wo (h x po),zcc λ p hp=>h p (pq _ hp)]
theorem zgs{P:Program}{fr fr':Fr}{id:Nat}:∀ {xs:List Operand} {ts:List Nat},(∀ x∈xs,opd fr' x=opd fr x)→x8 P fr' id xs ts=x8 P fr id xs ts
 | [],_,_=>rfl
 | x::xs,ts,h=>by
  have e:=zgs (P:=P) (id:=id) (ts:=ts.tail) λ p hp=>h p (pq _ hp);have e2:=h x po;simp only [x8];rw [e];cases x8 P fr id xs ts.tail with
  | none=>rfl
  | some l=>
   simp only;split
   ·rfl
   ·rw [e2]
theorem zil{fr fr':Fr}{x:Option Operand}(h:∀ y∈x,opd fr' y=opd fr y){K:Option V→Option R}:zap fr' x K=zap fr x K:=by
 cases x with
 | none=>rfl
 | some x=>simp only [zap,h x rfl]
theorem zmj{m nt : Nat}{call : Nat → List V → St → Option (Out × St)}{o : Oper}{fr fr' : Fr}(h : ∀ x ∈ o.op.operands, opd fr' x = opd fr x){K : Oc → De → List Nat → Option R} :
    yc cx m nt call o fr' σ K = yc cx m nt call o fr σ K := by
  obtain ⟨dst, op, type, pos, after, guard⟩ := o;cases op <;> simp only [Op.operands] at h
  case move x | assign x =>
    simp only [yc];split
    · rfl
    · rw [h x (by simp)]
  case makeFunc fn first caps =>
    cases fn <;> simp only [yc];rw [zcc λ x hx => h x (by simp at hx; simp [hx]), zcc λ x hx => h x (by simp at hx; simp [hx])]
  case makeMap t r => cases r <;> simp only [yc]
  case makeSlice t n c => simp only [yc]; rw [h n (by simp), h c (by simp)]
  case lookup t x i ok => simp only [yc]; rw [h x (by simp), h i (by simp)]
  case mapUpdate t mm k x | insert t mm k x => simp only [yc]; rw [h mm (by simp), h k (by simp), wo (h x (by simp))]
  case build t ps => simp only [yc]; rw [zik λ p hp => h p.2 (by simp; exact ⟨p.1, by simpa using hp⟩)]
  case buildSlice t n ps => simp only [yc]; rw [zik λ p hp => h p.2 (by simp; exact ⟨p.1, by simpa using hp⟩)]
  case box t x => simp only [yc]; rw [wo (h x (by simp))]
  case store t p x => simp only [yc]; rw [h p (by simp), wo (h x (by simp))]
  case binOp op t x y u => simp only [yc]; rw [wo (h x (by simp)), wo (h y (by simp))]
  case convert s t x => simp only [yc]; rw [wo (h x (by simp))]
  case makeInterface t x => simp only [yc]; rw [wo (h x (by simp))]
  case slice t x lo hi mx =>
    simp only [yc];have e1 : ∀ {K : Option V → Option R}, zap fr' lo K = zap fr lo K := zil λ y hy => h y (by cases hy; simp)
    have e2 : ∀ {K : Option V → Option R}, zap fr' hi K = zap fr hi K := zil λ y hy => h y (by cases hy; simp)
    have e3 : ∀ {K : Option V → Option R}, zap fr' mx K = zap fr mx K := zil λ y hy => h y (by cases hy; simp)
    simp only [wo (h x (by simp)), e1, e2, e3]
  case call c =>
    obtain ⟨callee, cargs, ctypes⟩ := c;simp only [Call.operands] at h;cases callee with
    | value f =>
      simp only [yc];rw [h f (by simp)]
      have e : ∀ {ts}, xd cx.P fr' cargs.toList ts = xd cx.P fr cargs.toList ts := zcc λ x hx => h x (by simp at hx; simp [hx])
      have e' : ∀ {id ts}, x8 cx.P fr' id cargs.toList ts = x8 cx.P fr id cargs.toList ts := zgs λ x hx => h x (by simp at hx; simp [hx])
      have e2 : ∀ {site g cap} {K : Oc → De → List Nat → Option R}, zci cx σ site g cap cargs.toList fr' K = zci cx σ site g cap cargs.toList fr K := by
        intro site g cap K;unfold zci;split
        · rename_i y hy
          rw [h y (by have : y ∈ cargs.toList := by rw [hy]; simp
                      simp at this; simp [this])]
        · rfl
      simp only [e, e', e2]
    | invoke r nm => simp only [yc]
    | builtin b =>
      have e : ∀ x ∈ cargs.toList, ∀ {P t}, qc P t fr' x = qc P t fr x := λ x hx {P t} => wo (h x (by simp at hx; simp [hx]))
      cases b <;> simp only [yc]
      · split
        · rename_i s x t t' hx ht;rw [e s (by rw [hx]; simp), e x (by rw [hx]; simp)]
        · rfl
      · split
        · rename_i x t hx ht;rw [e x (by rw [hx]; simp)]
        · rfl
  all_goals simp only [yc]
  all_goals first | rfl | skip
  all_goals (simp only [Array.mem_def, List.mem_cons, List.not_mem_nil, or_false, forall_eq_or_imp, forall_eq] at h)
  all_goals first | (simp only [h]; done) | (simp only [h.1, h.2]; done) | (simp only [h.1, h.2.1, h.2.2]; done)
end
section
variable {R:Type} {cx:Cx} {σ σ':St}
def agree(S:List Nat)(σ σ':St):Prop:=∀ i∈S,zd σ' i=zd σ i
theorem zn9{S:List Nat}(ha:agree S σ σ')(hc:∀ i∈S,∃ o,zd σ i=some o∧∀ j∈o.ids,j∈S) :
  ∀ (n:Nat) (todo seen:List Nat),(∀ i∈todo,i∈S)→y6 σ' n todo seen=y6 σ n todo seen:=by
 intro n
 induction n with
 | zero=>intro todo seen _; rfl
 | succ n ih=>
  intro todo seen ht;cases todo with
  | nil=>rfl
  | cons i todo=>
   have hi:=ht i po;have htl:∀ j∈todo,j∈S:=λ j hj=>ht j (pq _ hj);simp only [y6];rw [ha i hi];obtain ⟨o,ho,hids⟩:=hc i hi;rw [ho];cases seen.elem i
   ·simp only [pw];exact ih _ _ λ j hj=>by
     rcases List.mem_append.1 hj with h | h
     ·exact hids j h
     ·exact htl j h
   ·exact ih _ _ htl
theorem zfc(full:List Nat):∀ (ren:List Nat) (k:Nat),agree ren σ σ'→z7 σ' full k ren=z7 σ full k ren
 | [],_,_=>rfl
 | i::r,k,h=>by
  simp only [z7,h i po];split
  ·rw [zfc full r (k+1) λ j hj=>h j (pq _ hj)]
  ·exact zfc full r (k+1) λ j hj=>h j (pq _ hj)
theorem zh7{full:List Nat}{τ:St}:∀ (ren:List Nat) (k:Nat) {K:De→Option R},agree ren σ σ'→x0 full σ' τ k ren K=x0 full σ τ k ren K
 | [],_,_,_=>rfl
 | i::r,k,K,h=>by
  have e:∀ K:De→Option R,x0 full σ' τ (k+1) r K=x0 full σ τ (k+1) r K:=λ K=>zh7 r (k+1) λ j hj=>h j (pq _ hj);simp only [x0,h i po,e]
theorem zl9{α:Type}{l:List α}{f g:α→Bool}(h:∀ x∈l,f x=g x):l.all f=l.all g:=by
 induction l with
 | nil=>rfl
 | cons a l ih=>simp only [List.all_cons]; rw [h a po,ih λ x hx=>h x (pq _ hx)]
theorem zku{ids:List Nat}{ren:List Nat}(h:agree ren σ σ'):closedIn σ' ids ren=closedIn σ ids ren:=by
 unfold closedIn;congr 1;exact zl9 λ i hi=>by rw [h i hi]
abbrev Tri:=Oc×De×List Nat
theorem zgc{call:Nat→List V→St→Option (Out×St)}{t f:Nat}{args:List V}{xs:List Nat}{p:Tri}(h:xa cx call σ t f args xs (λ oc δ fp=>some (oc,δ,fp))=some p)(ha:agree p.2.2 σ σ') :
  xa cx call σ' t f args xs (λ oc δ fp=>some (oc,δ,fp))=some p:=by
 have hfp:y6 σ 1000 (V.idsL args++xs) []=p.2.2:=by
  unfold xa at h;obtain ⟨_,h⟩:=za h;obtain ⟨_,h⟩:=za h;split at h
  ·obtain ⟨δ,h1,_⟩:=v7 _ _ h;obtain ⟨u,h2,_⟩:=zgb h1;cases h2; rfl
  ·obtain ⟨δ,h1,_⟩:=v7 _ _ h;cases h1; rfl
  ·cases h
 unfold xa at h ⊢;simp only [hfp] at h ⊢;obtain ⟨hc,h⟩:=za h;obtain ⟨_,hargs,hcl⟩:=q9 hc;obtain ⟨hdom,h⟩:=za h;rw [zn9 ha hcl 1000 _ _ hargs,hfp,zku ha,hc,hdom];simp only [zfc _ _ _ ha,zh7 _ _ ha];exact h
theorem qr:∀ {δ:De},agree (δ.map (·.1)) σ σ'→zl σ' δ=zl σ δ
 | [],_=>rfl
 | (i,o)::δ,h=>by
  simp only [zl];rw [h i (by simp),qr (δ:=δ) λ j hj=>h j (by simp at hj ⊢; exact .inr hj)]
theorem yz{i:Nat}{o:Ob}(h:zd σ' i=zd σ i):zl σ' [(i,o)]=zl σ [(i,o)]:=qr (by intro j hj; simp at hj; subst hj; exact h)
theorem zod{t:Nat}{q:V}{p:Tri}(h:qe cx σ t q (λ v fp=>some (Oc.val v,([]:De),fp))=some p)(ha:agree p.2.2 σ σ') :
  qe cx σ' t q (λ v fp=>some (Oc.val v,([]:De),fp))=some p:=by
 cases q with
 | ptr id off=>
  have:zd σ' id=zd σ id:=by
   refine ha id ?_;unfold qe at h;obtain ⟨_,h⟩:=za h;simp only at h;split at h
   ·cases hb:(Nat.beq off 0&&Nat.beq _ (cx.P.cellsOf t)) <;> rw [hb] at h
    ·rw [pw] at h;cases ha:yf cx.P t <;> rw [ha] at h
     ·obtain ⟨c,_,h⟩:=zb6 h;obtain ⟨u,h,_⟩:=v6 h;cases h; simp
     ·obtain ⟨_,h⟩:=za h;cases h; simp
    ·obtain ⟨u,h,_⟩:=v6 h;cases h; simp
   ·cases h
  unfold qe at h ⊢;simp only [this];exact h
 | wptr id sz k i off=>
  have:zd σ' id=zd σ id:=by
   refine ha id ?_;unfold qe at h;obtain ⟨_,h⟩:=za h;simp only at h;split at h
   ·obtain ⟨_,h⟩:=za h;obtain ⟨x,_,h⟩:=xk h;cases ha:yf cx.P t <;> rw [ha] at h
    ·obtain ⟨c,_,h⟩:=xk h;obtain ⟨u,h,_⟩:=v6 (v:=.d c) (K:=λ v=>some (Oc.val v,([]:De),[id])) (by simpa only [vn] using h)
     cases h; simp
    ·obtain ⟨_,h⟩:=vp _ _ h;cases h; simp
   ·cases h
  unfold qe at h ⊢;simp only [this];exact h
 | _=>exact h
theorem zhd{t:Nat}{q v:V}{p:Tri}(h:xo cx σ t q v (λ δ fp=>some (Oc.val yo,δ,fp))=some p)(ha:agree p.2.2 σ σ') :
  xo cx σ' t q v (λ δ fp=>some (Oc.val yo,δ,fp))=some p:=by
 cases q with
 | ptr id off=>
  have:zd σ' id=zd σ id:=by
   refine ha id ?_;unfold xo at h;simp only at h;split at h
   ·cases hb:(Nat.beq off 0&&Nat.beq _ (cx.P.cellsOf t)) <;> rw [hb] at h
    ·rw [pw] at h;obtain ⟨_,h⟩:=za h;cases h; simp
    ·obtain ⟨_,h⟩:=za h;cases h; simp
   ·cases h
  unfold xo at h ⊢;simp only [this];exact h
 | wptr id sz k i off=>
  have:zd σ' id=zd σ id:=by
   refine ha id ?_;unfold xo at h;simp only at h;split at h
   ·obtain ⟨_,h⟩:=za h;obtain ⟨y,_,h⟩:=zb h;obtain ⟨_,h⟩:=za h;cases h; simp
   ·cases h
  unfold xo at h ⊢;simp only [this];exact h
 | _=>exact h
theorem zjp{site t:Nat}{q:V}{p:Tri}(h:vg cx σ site t q (λ δ fp=>some (Oc.val yo,δ,fp))=some p)(ha:agree p.2.2 σ σ') :
  vg cx σ' site t q (λ δ fp=>some (Oc.val yo,δ,fp))=some p:=by
 unfold vg at h ⊢;split at h
 ·rename_i e hu;obtain ⟨hc,h⟩:=za h
  have key:∀ τ:St,xo cx τ t q (.sl (cx.P.cellsOf e) [] site) (λ δ fp=>some (Oc.val yo,(site,Ob.tok 0)::δ,site::fp)) =
    ze (xo cx τ t q (.sl (cx.P.cellsOf e) [] site) (λ δ fp=>some (Oc.val yo,δ,fp))) λ z:Tri=>some (z.1,(site,Ob.tok 0)::z.2.1,site::z.2.2):=λ τ=>by
   rw [zbj];rfl
  rw [key] at h;obtain ⟨z,hz,h⟩:=zb h;cases h;rw [pj] at hc;have h1:zl σ' [(site,.tok 0)]=true:=by rw [yz (ha _ po)]; exact hc.2
  have h2:agree z.2.2 (xh σ site (.tok 0)) (xh σ' site (.tok 0)):=λ i hi=>by
   rw [zf,zf];by_cases he:site=i
   ·rw [if_pos he,if_pos he]
   ·rw [if_neg he,if_neg he];exact ha i (pq _ hi)
  rw [hc.1,h1,key,zhd hz h2];rfl
 ·cases h
theorem zpf{t:Nat}{x:V}{p:Tri}(h:lenV cx σ t x (λ v fp=>some (Oc.val v,([]:De),fp))=some p)(ha:agree p.2.2 σ σ') :
  lenV cx σ' t x (λ v fp=>some (Oc.val v,([]:De),fp))=some p:=by
 unfold lenV at h ⊢;split at h <;> first | exact h | skip
 split at h
 ·rename_i ks vs hg;cases h;have:zd σ' _=zd σ _:=ha _ po;rw [this,hg]
 ·cases h
theorem zl8{site t:Nat}{s x:V}{b:Bool}{p:Tri}(h:qu cx σ site t s x b (λ v δ fp=>some (Oc.val v,δ,fp))=some p)(ha:agree p.2.2 σ σ') :
  qu cx σ' site t s x b (λ v δ fp=>some (Oc.val v,δ,fp))=some p:=by
 unfold qu at h ⊢;split at h <;> first | (cases h; done) | skip
 unfold dataOf at h ⊢;split at h <;> first | (cases h; done) | skip
 all_goals
  obtain ⟨hc,h⟩:=za h;simp only [hc,zk,pu];cases b
  ·simp only [pw] at h ⊢;split at h
   ·rename_i id _;split at h
    ·rename_i n hg;obtain ⟨hc2,h⟩:=za h;cases h;have:zd σ' _=zd σ _:=ha _ po;rw [this,hg];simp only [hc2,pu]
    ·cases h
   ·rename_i id sz k;split at h
    ·rename_i l hg;obtain ⟨hc2,h⟩:=za h;cases h;have:zd σ' _=zd σ _:=ha _ po;rw [this,hg];simp only [hc2,pu]
    ·cases h
   ·cases h
  ·simp only [pu] at h ⊢;obtain ⟨hc2,h⟩:=za h;cases h;rw [yz (ha _ po),hc2];rfl
theorem zm4{P:Program}{e id:Nat}{vs:List D}{a b:V→V}{z:D}{o:Option (Option Nat)}{q:Tri}(h:(ze o λ o=>zla o (λ i=>qd vs i λ y=>vj P e y λ v=>some (Oc.val (a v),([]:De),[id]))
  (some (Oc.val (b (.d z)),([]:De),[id])))=some q):q.2.2=[id]:=by
 obtain ⟨o,_,h⟩:=zb h;rcases zb5 h with ⟨i,_,h⟩ | ⟨_,h⟩
 ·obtain ⟨y,_,h⟩:=xk h;obtain ⟨u,h,_⟩:=v6 (v:=.d y) (K:=λ v=>some (Oc.val (a v),([]:De),[id])) (by simpa only [vn] using h)
  cases h; rfl
 ·cases h; rfl
theorem zlj{t:Nat}{x k:V}{ok:Bool}{p:Tri}(h:vt cx σ t x k ok (λ v fp=>some (Oc.val v,([]:De),fp))=some p)(ha:agree p.2.2 σ σ') :
  vt cx σ' t x k ok (λ v fp=>some (Oc.val v,([]:De),fp))=some p:=by
 unfold vt at h ⊢;split at h
 ·rename_i kt e hu;obtain ⟨z,hz,q1⟩:=zb h;clear h;obtain ⟨key,rfl,q2⟩:=wy q1;clear q1;obtain ⟨hty,h⟩:=za q2;clear q2;simp only [hz,ze,asD,hty,zk,pu];split at h <;> first | exact h | skip
  rename_i id;split at h
  ·rename_i ks vs hg;have:=zm4 (id:=id) (a:=λ v=>bif ok then V.tup [v,.d (.bool true)] else v) (b:=λ v=>bif ok then V.tup [v,.d (.bool false)] else v) h;rw [this] at ha;simp only [ha _ po,hg];exact h
  ·cases h
 ·cases h
theorem zlg{t:Nat}{x k v:V}{p:Tri}(h:vr cx σ t x k v (λ δ fp=>some (Oc.val yo,δ,fp))=some p)(ha:agree p.2.2 σ σ') :
  vr cx σ' t x k v (λ δ fp=>some (Oc.val yo,δ,fp))=some p:=by
 unfold vr at h ⊢;split at h
 ·rename_i kt e hu;split at h
  ·rename_i id;split at h
   ·rename_i ks vs hg;obtain ⟨key,rfl,h⟩:=wy h;obtain ⟨y,hy,h⟩:=zb h;obtain ⟨hty,h⟩:=za h;obtain ⟨o,ho,h⟩:=zb h;have:zd σ' id=zd σ id:=by
     refine ha id ?_;rcases zb5 h with ⟨i,_,h⟩ | ⟨_,h⟩ <;> cases h <;> simp
    simp only [this,hg,asD,hy,ze,hty,zk,pu,ho];exact h
   ·cases h
  ·cases h
 ·cases h
theorem zg1{site t:Nat}{l c:V}{p:Tri}(h:xc cx σ site t l c (λ v δ fp=>some (Oc.val v,δ,fp))=some p)(ha:agree p.2.2 σ σ') :
  xc cx σ' site t l c (λ v δ fp=>some (Oc.val v,δ,fp))=some p:=by
 unfold xc at h ⊢;split at h
 ·obtain ⟨z,hz,h⟩:=zb h;obtain ⟨hc,h⟩:=za h;cases h;simp only [hz,ze];rw [yz (ha _ po),hc];rfl
 ·cases h
theorem zn0{v:V}{p:Tri}(h:zcf σ v (λ v δ fp=>some (Oc.val v,δ,fp))=some p)(ha:agree p.2.2 σ σ') :
  zcf σ' v (λ v δ fp=>some (Oc.val v,δ,fp))=some p:=by
 unfold zcf at h ⊢;split at h
 ·split at h
  ·rename_i l hg;obtain ⟨hc,h⟩:=za h;cases h;rw [ha _ po,hg];simp only [hc,zk,pu]
  ·cases h
 ·cases h
theorem zed{v:Option V}{y d:Nat}{K:Nat→Option R}{r:R}(h:bound v y d K=some r):∃ n,K n=some r∧∀ (R':Type) (K':Nat→Option R'),bound v y d K'=K' n:=by
 unfold bound at h ⊢;split at h
 ·exact ⟨_,h,λ _ _=>rfl⟩
 ·obtain ⟨hc,h⟩:=za h;exact ⟨_,h,λ _ _=>by simp only [hc,zk,pu]⟩
 ·cases h
theorem zms{site t:Nat}{x:V}{lo hi mx:Option V}{p:Tri}(h:zak cx σ site t x lo hi mx (λ v δ fp=>some (Oc.val v,δ,fp))=some p)(ha:agree p.2.2 σ σ') :
  zak cx σ' site t x lo hi mx (λ v δ fp=>some (Oc.val v,δ,fp))=some p:=by
 unfold zak at h ⊢;split at h <;> first | exact h | skip
 obtain ⟨h1,h⟩:=za h;simp only [h1,zk,pu];unfold zet at h ⊢;split at h <;> first | (cases h; done) | skip
 all_goals
  obtain ⟨h2,h⟩:=za h;simp only [h2,zk,pu];split at h <;> first | exact h | skip
  obtain ⟨h3,h⟩:=za h;simp only [h3,zk,pu];obtain ⟨n1,h,e1⟩:=zed h;obtain ⟨n2,h,e2⟩:=zed h;obtain ⟨n3,h,e3⟩:=zed h;rw [e1,e2,e3];cases hb:Nat.beq n1 n3 <;> rw [hb] at h
  ·exact h
  ·rw [pu] at h ⊢;obtain ⟨h4,h⟩:=za h;cases h;rw [yz (ha _ po),h4];rfl
theorem zfi{fr:Fr}{x:Option Operand}{K:Option V→Option R}{r:R}(h:zap fr x K=some r):∃ v,K v=some r∧∀ (R':Type) (K':Option V→Option R'),zap fr x K'=K' v:=by
 unfold zap at h ⊢;split at h
 ·exact ⟨_,h,λ _ _=>rfl⟩
 ·obtain ⟨v,hv,h⟩:=zb h;exact ⟨_,h,λ _ _=>by simp only [hv,ze]⟩
theorem zpl{m nt:Nat}{call:Nat→List V→St→Option (Out×St)}{o:Oper}{fr:Fr}{p:Tri}(h:x3 cx m nt call o fr σ=some p)(ha:agree p.2.2 σ σ') :
  x3 cx m nt call o fr σ'=some p:=by
 unfold x3 at h ⊢;obtain ⟨dst,op,type,pos,after,guard⟩:=o;cases op
 case makeFunc fn first caps=>cases fn <;> exact h
 case makeMap t r=>
  cases r <;> simp only [yc] at h ⊢
  ·obtain ⟨hc,h⟩:=za h;cases h;rw [yz (ha _ po),hc];rfl
  ·cases h
 case move x | assign x=>
  simp only [yc] at h ⊢;split at h
  ·split at h <;> first | exact h | skip
   split at h
   ·rename_i hg;cases hown:cx.own nt (dst.getD 0) <;> rw [hown] at h <;> cases h <;> rw [ha _ po,hg] <;> rfl
   ·rename_i hg;cases h;rw [ha _ po,hg]
  ·obtain ⟨v,hv,h⟩:=zb h;simp only [hv,ze];cases hth:cx.thaw nt (dst.getD 0) <;> rw [hth] at h
   ·exact h
   ·exact zn0 h ha
 case alloc e=>
  simp only [yc] at h ⊢;obtain ⟨z,hz,h⟩:=zb h;simp only [hz,ze];obtain ⟨hc,h⟩:=za h;cases h;rw [qr ha,hc];rfl
 case box e x=>
  simp only [yc] at h ⊢;obtain ⟨z,hz,h⟩:=zb h;simp only [hz,ze];obtain ⟨hc,h⟩:=za h;cases h;rw [yz (ha _ po),hc];rfl
 case build t ps=>
  simp only [yc] at h ⊢;cases hty:cx.typed nt (dst.getD 0)
  ·rw [hty] at h; exact h
  ·rw [hty] at h;simp only [pu] at h ⊢;obtain ⟨z,hz,h⟩:=zb h;simp only [hz,ze];obtain ⟨hc,h⟩:=za h;cases h;rw [qr ha,hc];rfl
 case buildSlice t n ps=>
  simp only [yc] at h ⊢;split at h
  ·obtain ⟨z,hz,h⟩:=zb h;obtain ⟨l,hl,h⟩:=zb h;obtain ⟨xs,hx,h⟩:=zb h;obtain ⟨hc,h⟩:=za h;cases hbare:zix cx nt dst ps.toList <;> rw [hbare] at h <;> cases hown:cx.own nt (dst.getD 0) <;> rw [hown] at h <;>
   ·cases h;simp only [hz,hl,hx,ze];rw [yz (ha _ po),hc];rfl
  ·cases h
 case makeSlice t n c=>
  simp only [yc] at h ⊢;obtain ⟨z,hz,h⟩:=zb h;obtain ⟨y,hy,h⟩:=zb h;simp only [hz,hy,ze];exact zg1 h ha
 case lookup t x i ok=>
  simp only [yc] at h ⊢;obtain ⟨z,hz,h⟩:=zb h;obtain ⟨y,hy,h⟩:=zb h;simp only [hz,hy,ze];exact zlj h ha
 case mapUpdate t mm k x | insert t mm k x=>
  simp only [yc] at h ⊢;obtain ⟨z,hz,h⟩:=zb h;obtain ⟨y,hy,h⟩:=zb h;obtain ⟨q,hq,h⟩:=zb h;simp only [hz,hy,hq,ze];exact zlg h ha
 case load t q=>
  simp only [yc] at h ⊢;obtain ⟨z,hz,h⟩:=zb h;simp only [hz,ze];exact zod h ha
 case store t q x=>
  simp only [yc] at h ⊢;obtain ⟨z,hz,h⟩:=zb h;simp only [hz,ze];cases hnl:(x1 x&&cx.nils nt (zma q)) <;> rw [hnl] at h
  ·rw [pw] at h ⊢;obtain ⟨v,hv,h⟩:=zb h;obtain ⟨hc,h⟩:=za h;simp only [hv,hc,zk,pu];exact zhd h ha
  ·rw [pu] at h ⊢;exact zjp h ha
 case convert s t x=>
  simp only [yc] at h ⊢;obtain ⟨v,hv,h⟩:=zb h;simp only [hv,ze];split at h
  ·split at h
   ·rename_i hu hg;obtain ⟨hc,h⟩:=za h;cases h;rw [hu,ha _ po,hg];simp only [hc,zk,pu]
   ·cases h
  ·rename_i hno;cases hun:zoi cx.P s t <;> rw [hun] at h
   ·exact h
   ·simp only [pu] at h ⊢;unfold zf8 at h ⊢;split at h
    ·split at h
     ·rename_i hg;obtain ⟨hc,h⟩:=za h;cases h;rw [ha _ po,hg];simp only [hc,zk,pu]
     ·cases h
    ·cases h
 case slice t x lo hi mx=>
  simp only [yc] at h ⊢;obtain ⟨v,hv,h⟩:=zb h;simp only [hv,ze];obtain ⟨v1,h,e1⟩:=zfi h;obtain ⟨v2,h,e2⟩:=zfi h;obtain ⟨v3,h,e3⟩:=zfi h;rw [e1,e2,e3];exact zms h ha
 case call c=>
  obtain ⟨callee,cargs,ctypes⟩:=c;cases callee with
  | value f=>
   simp only [yc] at h ⊢;obtain ⟨v,hv,h⟩:=zb h;simp only [hv,ze];split at h
   ·rename_i g first
    obtain ⟨l,hl,h⟩:=zb h;simp only [hl];exact zgc h ha
   ·rename_i g cap
    have wrap:∀ {l:List V} {xs:List Nat},zl σ [(m+dst.getD 0,Ob.tok 0)]=true →
      (xa cx call (xh σ (m+dst.getD 0) (.tok 0)) type g l xs λ oc δ fp=>some (oc,(m+dst.getD 0,Ob.tok 0)::δ,(m+dst.getD 0)::fp))=some p →
      (zk (zl σ' [(m+dst.getD 0,Ob.tok 0)]) (xa cx call (xh σ' (m+dst.getD 0) (.tok 0)) type g l xs λ oc δ fp=>some (oc,(m+dst.getD 0,Ob.tok 0)::δ,(m+dst.getD 0)::fp)))=some p:=by
     intro l xs hfr h
     have e:∀ τ:St,(xa cx call (xh τ (m+dst.getD 0) (.tok 0)) type g l xs λ oc δ fp=>some (oc,(m+dst.getD 0,Ob.tok 0)::δ,(m+dst.getD 0)::fp)) =
       ze (xa cx call (xh τ (m+dst.getD 0) (.tok 0)) type g l xs λ oc δ fp=>some (oc,δ,fp)) λ p=>some (p.1,(m+dst.getD 0,Ob.tok 0)::p.2.1,(m+dst.getD 0)::p.2.2):=λ τ=>(zcx (σ:=xh τ (m+dst.getD 0) (.tok 0)) call type g l xs (λ oc δ fp=>some (oc,δ,fp)) (λ p:Tri=>some (p.1,(m+dst.getD 0,Ob.tok 0)::p.2.1,(m+dst.getD 0)::p.2.2))).symm
     rw [e] at h;obtain ⟨q,hq,h⟩:=zb h;cases h;have hfr':zl σ' [(m+dst.getD 0,Ob.tok 0)]=true:=by
      have:=ha (m+dst.getD 0) po;unfold zl at hfr ⊢;rw [this]; exact hfr
     rw [hfr',e,zgc hq (σ':=xh σ' (m+dst.getD 0) (.tok 0)) λ i hi=>by
      rw [zf,zf,ha i (pq _ hi)]]
     rfl
    cases hgr:(cx.grow g).isSome <;> rw [hgr] at h <;> simp only [pu,pw] at h ⊢
    rotate_left
    ·unfold zci at h ⊢;split at h
     ·rename_i y hargs;obtain ⟨e,he,h⟩:=zb h;obtain ⟨v,hv,h⟩:=zb h;simp only [hargs,he,hv,ze];split at h
      ·obtain ⟨hc,h⟩:=za h;cases h;rw [yz (ha _ po),hc];rfl
      ·cases h
     ·cases h
    cases hsm:(zbr cx.P g&&cap.isEmpty) <;> rw [hsm] at h <;> simp only [pu,pw] at h ⊢
    rotate_left
    ·obtain ⟨l,hl,h⟩:=zb h;simp only [hl];exact h
    cases hgv:cx.gives g <;> rw [hgv] at h
    ·cases hnil:(cx.keep g&&zct cargs.toList) <;> rw [hnil] at h
     ·obtain ⟨l,hl,h⟩:=zb h;simp only [hl,pw];exact zgc h ha
     ·obtain ⟨l,hl,h⟩:=zb h;obtain ⟨hfr,h⟩:=za h;simp only [hl,pu,pw];exact wrap hfr h
    ·obtain ⟨l,hl,h⟩:=zb h;obtain ⟨hfr,h⟩:=za h;simp only [hl,pu];exact wrap hfr h
   ·cases h
  | invoke r nm=>exact h
  | builtin b=>
   cases b <;> first | exact h | skip
   ·simp only [yc] at h ⊢;split at h
    ·obtain ⟨v,hv,h⟩:=zb h;obtain ⟨u,hu,h⟩:=zb h;obtain ⟨hc,h⟩:=za h;simp only [hv,hu,ze,hc,zk,pu];exact zl8 h ha
    ·cases h
   ·simp only [yc] at h ⊢;split at h
    ·obtain ⟨v,hv,h⟩:=zb h;simp only [hv,ze];exact zpf h ha
    ·cases h
 all_goals exact h
end
section
variable {R:Type} {cx:Cx} {w:World} {σ σ':St} {μ:Mu}
def yg(σ σ':St):Prop:=∀ i,zd σ' i=zd σ i
theorem yg.own(h:yg σ σ'):zg σ' μ=zg σ μ:=by
 funext b i;simp only [zg,Mine,h _]
theorem yg.after(h:yg σ σ')(hi:Inv cx w σ μ):After cx w σ μ w σ' μ:=by
 have hown:=h.own (μ:=μ);have hst:Stays w (zg σ μ) w (zg σ' μ):=by rw [hown]; exact Stays.refl _ _
 have hstill:∀ id o,zd σ id=some o→zt μ id o μ (zd σ' id):=λ id o ho=>by rw [h id,ho]; exact zt.refl μ id o
 have rv:∀ v x,RV w σ μ v x→RV w σ' μ v x:=λ v x hv=>hv.stays hst λ id _ o ho=>hstill id o ho;have hm:Mine σ' μ=Mine σ μ:=by funext b i; simp only [Mine,h _]
 refine ⟨⟨λ id o ho=>?_,λ id id' o o' b i ho ho'=>hi.apart id id' o o' b i (h id ▸ ho) (h id' ▸ ho'),by rw [hown]; exact hi.glob,λ id o b i ho=>hi.frame id o b i (h id ▸ ho),hi.frLt,hi.frMap⟩,⟨⟨rfl,rfl,Nat.le_refl _,λ _ _ _=>rfl,λ _ _ _ _ h=>h⟩,λ b i _ ho=>by rw [hm] at ho; exact ho,rfl⟩,hstill,rfl⟩
 have hok:=hi.ob id o (h id ▸ ho);cases o with
 | val n v=>
  obtain ⟨b,cs,el,hb,hh,hn,ht,h1,hr,htag⟩:=hok;exact ⟨b,cs,el,hb,hh,hn,ht,h1,hr.map λ v x _=>rv v x,htag⟩
 | row l=>
  exact y7.stays hst hok λ _ _ _=>rfl
 | tok n=>exact hok
 | map ks vs=>
  obtain ⟨b,es,clock,hb,hh,hk,hv⟩:=hok;exact ⟨b,es,clock,hb,hh,hk.stays hst,hv.stays hst⟩
inductive Res where
 | dep
 | off
 | val (v:V) (δ:De) (fp:List Nat)
 | pan (v:V) (δ:De) (fp:List Nat)
structure It where
 i:Nat
 o:Oper
 res:Res
def It.wf(t:It):Option (Nat×V):=
 match t.res with
 | .off=>t.o.dst.map λ d=>(d,yo)
 | .val v _ _=>t.o.dst.map λ d=>(d,v)
 | _=>none
def It.ws(t:It):De:=
 match t.res with
 | .val _ δ _ | .pan _ δ _=>δ
 | _=>[]
def It.rf(ops:List Oper)(t:It):List Nat:=
 match t.res with
 | .dep=>[]
 | _=>looks ops t.o
def It.rs(t:It):List Nat:=
 match t.res with
 | .val _ _ fp | .pan _ _ fp=>fp
 | _=>[]
def It.nextF(t:It)(fr:Fr):Fr:=match t.wf with | some p=>p::fr | none=>fr
def It.nextS(t:It)(σ:St):St:=zc σ t.ws
def Good(cx:Cx)(m nt:Nat)(call:Nat→List V→St→Option (Out×St))(ops:List Oper)(fr:Fr)(σ:St)(t:It):Prop:=
 match t.res with
 | .dep=>True
 | .off=>zbf ops t.o fr=some false
 | .val v δ fp=>zbf ops t.o fr=some true∧x3 cx m nt call t.o fr σ=some (.val v,δ,fp)
 | .pan v δ fp=>zbf ops t.o fr=some true∧x3 cx m nt call t.o fr σ=some (.pan v,δ,fp)
structure Comm (ops:List Oper) (a b:It):Prop where
 ab:∀ p,a.wf=some p→p.1 ∉ b.rf ops
 ba:∀ p,b.wf=some p→p.1 ∉ a.rf ops
 ff:∀ p q,a.wf=some p→b.wf=some q→p.1 ≠ q.1
 sab:∀ i∈a.ws.map (·.1),i ∉ b.rs∧i ∉ b.ws.map (·.1)
 sba:∀ i∈b.ws.map (·.1),i ∉ a.rs∧i ∉ a.ws.map (·.1)
variable {m nt:Nat} {call:Nat→List V→St→Option (Out×St)} {ops:List Oper}
theorem zj2{fr fr':Fr}{x:Operand}(h:∀ t,x=.tmp t→zd fr' t=zd fr t):opd fr' x=opd fr x:=by
 cases x <;> first | rfl | exact h _ rfl
theorem zoc{o:Oper}{x:Operand}(hx:x∈o.op.operands){t:Nat}(ht:x=.tmp t):t∈looks ops o:=by
 subst ht;exact List.mem_append_left _ (List.mem_filterMap.2 ⟨.tmp t,by simpa using hx,rfl⟩)
theorem zcl{o:Oper}{fr fr':Fr}(h:∀ t∈looks ops o,zd fr' t=zd fr t):zbf ops o fr'=zbf ops o fr:=by
 unfold zbf;split
 ·rfl
 ·rename_i j want hg;split
  ·rfl
  ·rename_i t ht;rw [h t (List.mem_append_right _ (by simp [hg,ht]))]
theorem Good.same{fr fr':Fr}{t:It}(h:Good cx m nt call ops fr σ t)(hf:∀ s∈t.rf ops,zd fr' s=zd fr s)(hs:agree t.rs σ σ'):Good cx m nt call ops fr' σ' t:=by
 unfold Good at h ⊢;obtain ⟨i,o,res⟩:=t;have key:∀ p:Tri,(∀ s∈looks ops o,zd fr' s=zd fr s)→x3 cx m nt call o fr σ=some p→agree p.2.2 σ σ'→x3 cx m nt call o fr' σ'=some p:=λ p hl h1 h2=>by
  have:x3 cx m nt call o fr' σ'=x3 cx m nt call o fr σ':=zmj λ x hx=>zj2 λ t ht=>hl t (zoc hx ht);rw [this];exact zpl h1 h2
 cases res with
 | dep=>trivial
 | off=>exact (zcl hf).trans h
 | val v δ fp=>exact ⟨(zcl hf).trans h.1,key _ hf h.2 hs⟩
 | pan v δ fp=>exact ⟨(zcl hf).trans h.1,key _ hf h.2 hs⟩
theorem xx(t:It)(fr:Fr)(s:Nat):zd (t.nextF fr) s=match t.wf with | some p=>if p.1=s then some p.2 else zd fr s | none=>zd fr s:=by
 unfold It.nextF;cases t.wf with
 | none=>rfl
 | some p=>
  obtain ⟨d,v⟩:=p;simp only [zd];by_cases h:d=s
  ·subst h; simp
  ·simp [h,zee h]
theorem zhk{t:It}{fr:Fr}{s:Nat}(h:∀ p,t.wf=some p→p.1 ≠ s):zd (t.nextF fr) s=zd fr s:=by
 rw [xx];cases hw:t.wf with
 | none=>rfl
 | some p=>simp [h p hw]
theorem w7{t:It}{s:Nat}(h:s ∉ t.ws.map (·.1)):zd (t.nextS σ) s=zd σ s:=xy h
theorem za8{δ : De} : ∀ {σ σ' : St} {i : Nat}, i ∈ δ.map (·.1) ∨ zd σ' i = zd σ i → zd (zc σ' δ) i = zd (zc σ δ) i := by
  induction δ with
  | nil => intro σ σ' i h; rcases h with h | h; · simp at h
           exact h
  | cons p δ ih =>
    intro σ σ' i h;obtain ⟨j, o⟩ := p;simp only [zc];refine ih ?_;by_cases hj : j = i
    · right; subst hj; simp [zf]
    · simp only [List.map_cons, List.mem_cons] at h;rcases h with (h | h) | h
      · exact absurd h.symm hj
      · exact .inl h
      · right; simp [zf, hj, h]
theorem zfk{t:It}(h:yg σ σ'):yg (t.nextS σ) (t.nextS σ'):=λ i=>za8 (.inr (h i))
theorem zfl{t:It}{fr fr':Fr}(h:zz fr fr'):zz (t.nextF fr) (t.nextF fr'):=λ i=>by rw [xx,xx]; split <;> simp [h i]
theorem Comm.swapF{a b:It}(h:Comm ops a b)(fr:Fr):zz (b.nextF (a.nextF fr)) (a.nextF (b.nextF fr)):=λ i=>by
 rw [xx,xx,xx,xx];cases ha:a.wf with
 | none=>rfl
 | some p=>
  cases hb:b.wf with
  | none=>rfl
  | some q=>
   have:=h.ff p q ha hb;by_cases h1:p.1=i
   ·have:q.1 ≠ i:=λ e=>this (h1.trans e.symm);simp [h1,this]
   ·simp [h1]
theorem Comm.swapS{a b:It}(h:Comm ops a b)(σ:St):yg (b.nextS (a.nextS σ)) (a.nextS (b.nextS σ)):=λ i=>by
 by_cases ha:i∈a.ws.map (·.1)
 ·have hb:=(h.sab i ha).2;rw [w7 (t:=b) hb];exact za8 (.inl ha)
 ·rw [w7 (t:=a) ha];by_cases hb:i∈b.ws.map (·.1)
  ·exact (za8 (.inl hb))
  ·rw [w7 (t:=b) hb,w7 (t:=b) hb,w7 (t:=a) ha]
def Rem(cx:Cx)(m nt:Nat)(call:Nat→List V→St→Option (Out×St))(ops:List Oper):List It→Fr→St→Prop
 | [],_,_=>True
 | t::L,fr,σ=>Good cx m nt call ops fr σ t∧Rem cx m nt call ops L (t.nextF fr) (t.nextS σ)
def zg8:List It→Fr→Fr
 | [],fr=>fr
 | t::L,fr=>zg8 L (t.nextF fr)
def zce:List It→St→St
 | [],σ=>σ
 | t::L,σ=>zce L (t.nextS σ)
theorem Rem.same:∀ {L:List It} {fr fr':Fr} {σ σ':St},Rem cx m nt call ops L fr σ→zz fr fr'→yg σ σ'→Rem cx m nt call ops L fr' σ'
 | [],_,_,_,_,_,_,_=>trivial
 | _::_,_,_,_,_,h,hf,hs=>⟨h.1.same (λ s _=>hf s) (λ i _=>hs i),Rem.same h.2 (zfl hf) (zfk hs)⟩
theorem zb9:∀ {L:List It} {fr fr':Fr},zz fr fr'→zz (zg8 L fr) (zg8 L fr')
 | [],_,_,h=>h
 | t::L,fr,fr',h=>zb9 (L:=L) (fr:=t.nextF fr) (fr':=t.nextF fr') (zfl h)
theorem zh3:∀ {L:List It} {σ σ':St},yg σ σ'→yg (zce L σ) (zce L σ')
 | [],_,_,h=>h
 | t::L,σ,σ',h=>zh3 (L:=L) (σ:=t.nextS σ) (σ':=t.nextS σ') (zfk h)
theorem zz.trans{a b c:Fr}(h:zz a b)(h':zz b c):zz a c:=λ t=>(h' t).trans (h t)
theorem yg.trans{a b c:St}(h:yg a b)(h':yg b c):yg a c:=λ t=>(h' t).trans (h t)
theorem yg.refl(a:St):yg a a:=λ _=>rfl
theorem Rem.pull{b:It}{B:List It}:∀ {A:List It} {fr:Fr} {σ:St},Rem cx m nt call ops (A++b::B) fr σ→(∀ a∈A,Comm ops a b) →
  Good cx m nt call ops fr σ b∧Rem cx m nt call ops (A++B) (b.nextF fr) (b.nextS σ)∧zz (zg8 (A++b::B) fr) (zg8 (A++B) (b.nextF fr))∧yg (zce (A++b::B) σ) (zce (A++B) (b.nextS σ))
 | [],fr,σ,h,_=>⟨h.1,h.2,zz.refl _,yg.refl _⟩
 | a::A,fr,σ,h,hc=>by
  have hab:=hc a po;obtain ⟨h1,h2⟩:=h;obtain ⟨g1,g2,g3,g4⟩:=Rem.pull h2 λ x hx=>hc x (pq _ hx);have gb:Good cx m nt call ops fr σ b:=g1.same (λ s hs=>(zhk λ p hp e=>hab.ab p hp (e ▸ hs)).symm) (λ i hi=>(w7 λ hm=>(hab.sab i hm).1 hi).symm);have ga:Good cx m nt call ops (b.nextF fr) (b.nextS σ) a:=h1.same (λ s hs=>zhk λ p hp e=>hab.ba p hp (e ▸ hs)) (λ i hi=>w7 λ hm=>(hab.sba i hm).1 hi);exact ⟨gb,⟨ga,g2.same (hab.swapF fr) (hab.swapS σ)⟩,g3.trans (zb9 (hab.swapF fr)),g4.trans (zh3 (hab.swapS σ))⟩
end
end Go.Vai
end

/-
  A call from the caller's side: the whole. To: Regions whose order is open.
-/
import Derived.Test.YtmolcgfhgdhgoaaGreatDoorVaiPart3
import Derived.Lib.Builder
import Derived.Orders
import Derived.LoopN
import Derived.Scope
set_option linter.all false
noncomputable section
namespace Go.Vai
section
variable {R:Type} {cx:Cx} {w w':World} {σ τ:St} {μ ν:Mu}
theorem Ob.ren_ids(f:Nat→Nat)(o:Ob):(o.ren f).ids=o.ids.map f:=by
 cases o <;> simp [Ob.ren,Ob.ids,V.ren_ids]
def zue(σ:St)(μ:Mu)(ren:List Nat):Own:=λ b i=>μ.fr b i∨∃ j o,j ∉ ren∧zf σ j=some o∧owns μ j o b i
def x6(σ:St)(μ:Mu)(ren:List Nat):Mu:=⟨λ k=>μ (za8 ren k),zue σ μ ren⟩
theorem zdt{ren:List Nat}(hex:∀ i∈ren,∃ o,zf σ i=some o){i:Nat}(hi:i∈ren) :
  zf (xd σ ren 0 ren) (xe ren i)=(zf σ i).map (Ob.ren (xe ren)):=by
 rw [zg8 σ ren ren 0 _ hex];obtain ⟨h1,h2⟩:=xp hi;simp only [Nat.zero_le,if_true,Nat.sub_zero];rw [za7 h2,h1];rfl
theorem zai{ren:List Nat}(hex:∀ i∈ren,∃ o,zf σ i=some o){k:Nat}{o:Ob}(h:zf (xd σ ren 0 ren) k=some o) :
  ∃ i q,ren[k]?=some i∧zf σ i=some q∧o=q.ren (xe ren)∧k<ren.length:=by
 rw [zg8 σ ren ren 0 k hex] at h;simp only [Nat.zero_le,if_true,Nat.sub_zero] at h;cases hk:ren[k]? with
 | none=>rw [hk] at h; cases h
 | some i=>
  rw [hk] at h;simp only [Option.bind_some,Option.map_eq_some_iff] at h;obtain ⟨q,hq,rfl⟩:=h;exact ⟨i,q,rfl,hq,rfl,(pr.1 hk).1⟩
theorem zbz{ren:List Nat}{k i:Nat}(h:ren[k]?=some i):za8 ren k=i:=by
 have:=za7 (pr.1 h).1;rw [h] at this;exact (Option.some.inj this).symm
theorem w8{μ ν:Mu}{id k:Nat}(h:ν k=μ id)(o:Ob)(b i:Nat):owns ν k o b i↔owns μ id o b i:=by
 cases o <;> simp [owns,h]
theorem zoc{ren:List Nat}(hex:∀ i∈ren,∃ o,zf σ i=some o):zp (xd σ ren 0 ren) (x6 σ μ ren)=zp σ μ:=by
 funext b i;apply propext;constructor
 ·rintro ((hf | ⟨j,o,hj,ho,hown⟩) | ⟨k,o,ho,hown⟩)
  ·exact .inl hf
  ·exact .inr ⟨j,o,ho,hown⟩
  ·obtain ⟨a,q,hk,hq,rfl,_⟩:=zai hex ho;exact .inr ⟨a,q,hq,(w8 (show x6 σ μ ren k=μ a from congrArg μ.lo (zbz hk)) q b i).1 ((za2 _ _ _ _ _).1 hown)⟩
 ·rintro (hf | ⟨j,o,ho,hown⟩)
  ·exact .inl (.inl hf)
  ·by_cases hj:j∈ren
   ·have hg:=zdt hex hj;rw [ho] at hg;exact .inr ⟨xe ren j,_,hg,(za2 _ _ _ _ _).2 ((w8 (show x6 σ μ ren (xe ren j)=μ j from congrArg μ.lo (xp hj).1) o b i).2 hown)⟩
   ·exact .inl (.inr ⟨j,o,hj,ho,hown⟩)
theorem zdl{ids:List Nat}{ren:List Nat}(h:closedIn σ ids ren=true):ren.Nodup∧(∀ i∈ids,i∈ren)∧∀ i∈ren,∃ o,zf σ i=some o∧∀ j∈o.ids,j∈ren:=by
 unfold closedIn at h;simp only [pq,List.all_eq_true] at h;obtain ⟨⟨h1,h2⟩,h3⟩:=h;refine ⟨zc7 h1,λ i hi=>by simpa using h2 i hi,λ i hi=>?_⟩
 have:=h3 i hi;split at this
 ·rename_i o ho;exact ⟨o,ho,λ j hj=>by simpa using List.all_eq_true.1 this j hj⟩
 ·cases this
theorem zvo{ren:List Nat}(hi:Inv cx w σ μ)(hnd:ren.Nodup)(hcl:∀ i∈ren,∃ o,zf σ i=some o∧∀ j∈o.ids,j∈ren):Inv cx w (xd σ ren 0 ren) (x6 σ μ ren):=by
 have hex:∀ i∈ren,∃ o,zf σ i=some o:=λ i h=>let ⟨o,ho,_⟩:=hcl i h; ⟨o,ho⟩;have hown:=zoc (μ:=μ) hex;have hst:Stays w (zp σ μ) w (zp (xd σ ren 0 ren) (x6 σ μ ren)):=by rw [hown]; exact Stays.refl _ _
 refine ⟨λ k o ho=>?_,λ k k' o o' b i ho ho' h1 h2=>?_,by rw [hown]; exact hi.glob,λ k o b i ho h j hf=>?_,λ b i hf=>?_,λ r es clock i hm hf=>?_⟩
 ·obtain ⟨a,q,hk,hq,rfl,hlt⟩:=zai hex ho;have ha:a∈ren:=pz hk;have hpos:=qp hnd hk;obtain ⟨q',hq',hids⟩:=hcl a ha;rw [hq] at hq'; cases hq';have:=(hi.ob a q hq).rename (τ:=xd σ ren 0 ren) (ν:=x6 σ μ ren) (xe ren) hst (congrArg μ.lo (xp ha).1) λ j hj=>
   ⟨by rw [zdt hex (hids j hj)]; exact qn.ren _ _,congrArg μ.lo (xp (hids j hj)).1⟩
  rw [hpos] at this;exact this
 ·obtain ⟨a,q,hk,hq,rfl,_⟩:=zai hex ho;obtain ⟨a',q',hk',hq',rfl,_⟩:=zai hex ho';have e1:=(w8 (show x6 σ μ ren k=μ a from congrArg μ.lo (zbz hk)) q b i).1 ((za2 _ _ _ _ _).1 h1);have e2:=(w8 (show x6 σ μ ren k'=μ a' from congrArg μ.lo (zbz hk')) q' b i).1 ((za2 _ _ _ _ _).1 h2);have:=hi.apart a a' q q' b i hq hq' e1 e2;subst this;rw [←qp hnd hk,←qp hnd hk']
 ·obtain ⟨a,q,hk,hq,rfl,_⟩:=zai hex ho;have e1:=(w8 (show x6 σ μ ren k=μ a from congrArg μ.lo (zbz hk)) q b i).1 ((za2 _ _ _ _ _).1 h);rcases hf with hf | ⟨j',o',hj',ho',hown'⟩
  ·exact hi.frame a q b i hq e1 j hf
  ·have:=hi.blockApart hq ho' e1 hown';exact hj' (this ▸ pz hk)
 ·rcases hf with hf | ⟨j',o',hj',ho',hown'⟩
  ·exact hi.frLt b i hf
  ·exact zb6 hi ho' hown'
 ·rcases hf with hf | ⟨j',o',hj',ho',hown'⟩
  ·exact .inl (hi.frMap r es clock i hm hf)
  ·refine .inr ⟨j',o',hj',ho',?_⟩;have hok:=hi.ob j' o' ho';cases o' with
   | tok n=>
    obtain ⟨cs,el,fr,hh,_⟩:=hok r hown'.1;rw [hm] at hh; cases hh
   | _=>exact hown'
def xq(μ μ1:Mu)(ren:List Nat):Mu:=⟨λ j=>if j∈ren then μ1 (xe ren j) else μ j,μ.fr⟩
theorem zr5(hi:Inv cx w σ μ){ren:List Nat}(hnd:ren.Nodup)(hcl:∀ i∈ren,∃ o,zf σ i=some o∧∀ j∈o.ids,j∈ren){σ':St}{δ:De}(hδm:δ.map (·.1)=ren)
  (hδ:∀ (j i:Nat),ren[j]?=some i→∃ old new o,zf σ i=some old∧zf σ' (0+j)=some new∧δ[j]?=some (i,o)∧LikeO (new.ren (za8 ren)) o)
  (hσ':∀ k o,zf σ' k=some o→k<ren.length∧∀ i∈o.ids,i<ren.length) {w':World} {μ1:Mu} (haf:After cx w (xd σ ren 0 ren) (x6 σ μ ren) w' σ' μ1) :
  After cx w σ μ w' (ze σ δ) (xq μ μ1 ren) ∧
   ∀ (x:Value) (v:V),(∀ i∈v.ids,i<ren.length)→RV w' σ' μ1 x v→RV w' (ze σ δ) (xq μ μ1 ren) x (v.ren (za8 ren)):=by
 have hex:∀ i∈ren,∃ o,zf σ i=some o:=λ i h=>let ⟨o,ho,_⟩:=hcl i h; ⟨o,ho⟩;have hget:∀ {j i:Nat},ren[j]?=some i→∃ new o,zf σ' j=some new∧zf (ze σ δ) i=some o∧LikeO (new.ren (za8 ren)) o:=by
  intro j i hj;obtain ⟨old,new,o,h1,h2,h3,h4⟩:=hδ j i hj;rw [Nat.zero_add] at h2;exact ⟨new,o,h2,x3 (by rw [hδm]; exact hnd) (pz h3),h4⟩
 have hrest:∀ {j:Nat},j ∉ ren→zf (ze σ δ) j=zf σ j:=λ hj=>qs (by rw [hδm]; exact hj)
 have hmu:∀ {j i:Nat},ren[j]?=some i→xq μ μ1 ren i=μ1 j:=λ {j i} hj=>by
  have hm:i∈ren:=pz hj;simp only [xq,if_pos hm,qp hnd hj]
 have hmu':∀ {j:Nat},j ∉ ren→xq μ μ1 ren j=μ j:=λ {j} hj=>by simp only [xq,if_neg hj]
 have hfr1:μ1.fr=zue σ μ ren:=haf.fr;have hown2:zp (ze σ δ) (xq μ μ1 ren)=zp σ' μ1:=by
  funext b i;apply propext;constructor
  ·rintro (hf | ⟨j,o,ho,hown⟩)
   ·exact .inl (by rw [hfr1]; exact .inl hf)
   ·by_cases hj:j∈ren
    ·obtain ⟨h1,h2⟩:=xp hj;have hk:ren[xe ren j]?=some j:=by rw [za7 h2,h1]
     obtain ⟨new,o',h3,h4,h5⟩:=hget hk;rw [ho] at h4; cases h4;exact .inr ⟨xe ren j,new,h3,(w8 (hmu hk) new b i).1 ((za2 _ _ _ _ _).1 ((h5.owns _ _ _ _).1 hown))⟩
    ·rw [hrest hj] at ho;exact .inl (by rw [hfr1]; exact .inr ⟨j,o,hj,ho,(w8 (hmu' hj) o b i).1 hown⟩)
  ·rintro (hf | ⟨k,o,ho,hown⟩)
   ·rw [hfr1] at hf;rcases hf with hf | ⟨j,o,hj,ho,hown⟩
    ·exact .inl hf
    ·exact .inr ⟨j,o,by rw [hrest hj]; exact ho,(w8 (hmu' hj) o b i).2 hown⟩
   ·obtain ⟨i',hk⟩:=yo (hσ' k o ho).1;obtain ⟨new,o',h3,h4,h5⟩:=hget hk;rw [ho] at h3; cases h3;exact .inr ⟨i',o',h4,(h5.owns _ _ _ _).2 ((za2 _ _ _ _ _).2 ((w8 (hmu hk) o b i).2 hown))⟩
 have hst2:Stays w' (zp σ' μ1) w' (zp (ze σ δ) (xq μ μ1 ren)):=by rw [hown2]; exact Stays.refl _ _
 have hmine:∀ b i,Mine (xd σ ren 0 ren) (x6 σ μ ren) b i→∃ j o,j∈ren∧zf σ j=some o∧owns μ j o b i:=by
  rintro b i ⟨k,o,ho,h1⟩;obtain ⟨a,q,hk,hq,rfl,_⟩:=zai hex ho;exact ⟨a,q,pz hk,hq,(w8 (show x6 σ μ ren k=μ a from congrArg μ.lo (zbz hk)) q b i).1 ((za2 _ _ _ _ _).1 h1)⟩
 have hmine':∀ b i,Mine (xd σ ren 0 ren) (x6 σ μ ren) b i→Mine σ μ b i:=λ b i h=>let ⟨j,o,_,ho,h1⟩:=hmine b i h; ⟨j,o,ho,h1⟩
 -- the callee's objects,outside
 have hback:∀ {j:Nat},j∈ren→∀ {o},zf (ze σ δ) j=some o→∃ new,zf σ' (xe ren j)=some new∧LikeO (new.ren (za8 ren)) o∧xq μ μ1 ren j=μ1 (xe ren j):=by
  intro j hj o ho;obtain ⟨h1,h2⟩:=xp hj;have hk:ren[xe ren j]?=some j:=by rw [za7 h2,h1]
  obtain ⟨new,o',h3,h4,h5⟩:=hget hk;rw [ho] at h4; cases h4;exact ⟨new,h3,h5,hmu hk⟩
 have hownIn:∀ {j:Nat},j∈ren→∀ {o b i},zf (ze σ δ) j=some o→owns (xq μ μ1 ren) j o b i→∃ new,zf σ' (xe ren j)=some new∧owns μ1 (xe ren j) new b i:=by
  intro j hj o b i ho h1;obtain ⟨new,h3,h5,h6⟩:=hback hj ho;exact ⟨new,h3,(w8 h6 new b i).1 ((za2 _ _ _ _ _).1 ((h5.owns _ _ _ _).1 h1))⟩
 have hgoes:Goes w σ μ w' (ze σ δ) (xq μ μ1 ren):=by
  have hg:=haf.goes;refine ⟨⟨hg.kept.os,hg.kept.output,hg.kept.size,λ b hb hn=>hg.kept.blk b hb λ i hm=>hn i (hmine' b i hm),λ b i x hn hc=>hg.kept.cell b i x (λ hm=>hn (hmine' b i hm)) hc⟩,?_,rfl⟩;rintro b i hb ⟨j,o,ho,h1⟩;by_cases hj:j∈ren
  ·obtain ⟨new,h3,h4⟩:=hownIn hj ho h1;exact hmine' b i (hg.own b i hb ⟨_,new,h3,h4⟩)
  ·exact ⟨j,o,by rw [←hrest hj]; exact ho,(w8 (hmu' hj) o b i).1 h1⟩
 have hs:=hgoes.stays' hi
 -- names of the callee's,outside
 have hname:∀ k,k<ren.length→∀ new,zf σ' k=some new→∃ o,zf (ze σ δ) (za8 ren k)=some o∧LikeO (new.ren (za8 ren)) o∧xq μ μ1 ren (za8 ren k)=μ1 k:=by
  intro k hk new hnew;have hk':=za7 hk;obtain ⟨new',o,h3,h4,h5⟩:=hget hk';rw [hnew] at h3; cases h3;exact ⟨o,h4,h5,hmu hk'⟩
 have hcompat:∀ k,k<ren.length→qn (zf σ' k) (zf (ze σ δ) (za8 ren k))∧xq μ μ1 ren (za8 ren k)=μ1 k:=by
  intro k hk;refine ⟨?_,hmu (za7 hk)⟩;cases hn:zf σ' k with
  | none=>trivial
  | some new=>
   obtain ⟨o,h1,h2,_⟩:=hname k hk new hn;rw [h1];have:=h2.compat;cases new <;> cases o <;> first | exact this.elim | exact this
 have hrv:∀ (x:Value) (v:V),(∀ i∈v.ids,i<ren.length)→RV w' σ' μ1 x v→RV w' (ze σ δ) (xq μ μ1 ren) x (v.ren (za8 ren)):=
  λ x v hv hrv=>hrv.rename (za8 ren) hst2 λ id hid=>hcompat id (hv id hid)
 have hstill:∀ id o,zf σ id=some o→yx μ id o (xq μ μ1 ren) (zf (ze σ δ) id):=by
  intro id o ho;by_cases hj:id∈ren
  ·obtain ⟨h1,h2⟩:=xp hj;have hk:ren[xe ren id]?=some id:=by rw [za7 h2,h1]
   obtain ⟨new,o',h3,h4,h5⟩:=hget hk;rw [h4];refine h5.still _ _ _ _ ?_;have hg:=zdt hex hj;rw [ho] at hg;have:=haf.still _ _ hg;rw [h3] at this;have e1:x6 σ μ ren (xe ren id)=μ id:=congrArg μ.lo h1;have e2:xq μ μ1 ren id=μ1 (xe ren id):=hmu hk
   cases o <;> cases new <;> simp only [Option.map_some,Ob.ren,yx] at this ⊢ <;> first
    | exact this.elim
    | (rw [e2,←e1]; exact this)
  ·rw [hrest hj,ho];have e:=hmu' hj;cases o <;> simp [yx,e]
 refine ⟨⟨⟨λ id o ho=>?_,λ id id' o o' b i ho ho' h1 h2=>?_,by rw [hown2]; exact haf.inv.glob,λ id o b i ho h j hf=>?_,λ b i hf=>?_,λ q es clock i hm hf=>?_⟩,hgoes,hstill,rfl⟩,hrv⟩
 ·-- the objects
  by_cases hj:id∈ren
  ·obtain ⟨h1,h2⟩:=xp hj;have hk:ren[xe ren id]?=some id:=by rw [za7 h2,h1]
   obtain ⟨new,o',h3,h4,h5⟩:=hget hk;rw [ho] at h4; cases h4;refine h5.ok _ _ _ _ ?_;have:=(haf.inv.ob _ _ h3).rename (τ:=ze σ δ) (ν:=xq μ μ1 ren) (za8 ren) hst2 (by rw [h1]; exact hmu hk) λ j hj=>hcompat j ((hσ' _ _ h3).2 j hj)
   rw [h1] at this;exact this
  ·rw [hrest hj] at ho;have hok:=hi.ob id o ho;have e2:=hmu' hj;have hfree:∀ b,(μ id).blk=some b→w'.heap[b]?=w.heap[b]?:=by
    intro b hb;have hoi:owns μ id o b (μ id).f:=by cases o <;> simp [owns,hb]
    refine haf.goes.kept.blk b (zb6 hi ho hoi) λ i hm=>hj ?_;obtain ⟨a,q,ha,hq,h1⟩:=hmine b i hm;exact hi.blockApart ho hq hoi h1 ▸ ha
   have rv:∀ v x,RV w σ μ v x→RV w' (ze σ δ) (xq μ μ1 ren) v x:=λ v x hv=>hv.stays hs λ id _ o ho=>hstill id o ho;cases o with
   | val n v=>
    obtain ⟨b,cs,el,hb,hh,hn,ht,h1,hr,htag⟩:=hok;exact ⟨b,cs,el,e2 ▸ hb,(hfree b hb).trans hh,hn,ht,h1,hr.map λ v x _=>rv v x,htag⟩
   | row l=>
    show w7 w' _ (xq μ μ1 ren id) l;rw [e2];exact w7.stays hs hok λ b hb _=>hfree b hb
   | tok n=>
    intro b hb;rw [e2] at hb ⊢;obtain ⟨cs,el,fr,hh,hz⟩:=hok b hb;exact ⟨cs,el,fr,(hfree b hb).trans hh,hz⟩
   | map ks vs=>
    obtain ⟨b,es,clock,hb,hh,hk,hv⟩:=hok;exact ⟨b,es,clock,e2 ▸ hb,(hfree b hb).trans hh,hk.stays hs,hv.stays hs⟩
 ·by_cases hj:id∈ren
  ·obtain ⟨new,h3,h4⟩:=hownIn hj ho h1;by_cases hj':id'∈ren
   ·obtain ⟨new',h3',h4'⟩:=hownIn hj' ho' h2;have:=haf.inv.apart _ _ _ _ b i h3 h3' h4 h4';rw [← (xp hj).1,← (xp hj').1,this]
   ·rw [hrest hj'] at ho';exact (haf.inv.frame _ _ b i h3 h4 i (by rw [hfr1]; exact .inr ⟨id',o',hj',ho',(w8 (hmu' hj') o' b i).1 h2⟩)).elim
  ·rw [hrest hj] at ho;have h1':=(w8 (hmu' hj) o b i).1 h1;by_cases hj':id'∈ren
   ·obtain ⟨new',h3',h4'⟩:=hownIn hj' ho' h2;exact (haf.inv.frame _ _ b i h3' h4' i (by rw [hfr1]; exact .inr ⟨id,o,hj,ho,h1'⟩)).elim
   ·rw [hrest hj'] at ho';exact hi.apart _ _ _ _ b i ho ho' h1' ((w8 (hmu' hj') o' b i).1 h2)
 ·by_cases hj:id∈ren
  ·obtain ⟨new,h3,h4⟩:=hownIn hj ho h;exact haf.inv.frame _ _ b i h3 h4 j (by rw [hfr1]; exact .inl hf)
  ·rw [hrest hj] at ho;exact hi.frame id o b i ho ((w8 (hmu' hj) o b i).1 h) j hf
 ·exact Nat.lt_of_lt_of_le (hi.frLt b i hf) haf.goes.kept.size
 ·have hlt:=hi.frLt q i hf;rw [haf.goes.kept.blk q hlt λ k hm=>by
   obtain ⟨a,p,ha,hp,h1⟩:=hmine q k hm;exact hi.frame a p q k hp h1 i hf] at hm
  exact hi.frMap q es clock i hm hf
theorem zuv(hi:Inv cx w σ μ){args:List V}{vs:List Value}(hv:RVs w σ μ vs args){ren:List Nat}(hnd:ren.Nodup)(hargs:∀ i∈V.idsL args,i∈ren)
  (hcl:∀ i∈ren,∃ o,zf σ i=some o∧∀ j∈o.ids,j∈ren) :
  (xd σ ren 0 ren).length=ren.length∧Inv cx w (xd σ ren 0 ren) (x6 σ μ ren)∧Canon (xd σ ren 0 ren)∧RVs w (xd σ ren 0 ren) (x6 σ μ ren) vs (V.renL (xe ren) args) ∧
   (∀ i∈V.idsL (V.renL (xe ren) args),i<(xd σ ren 0 ren).length)∧(∀ k,k<(xd σ ren 0 ren).length→∃ o,zf (xd σ ren 0 ren) k=some o) ∧
   zp (xd σ ren 0 ren) (x6 σ μ ren)=zp σ μ:=by
 have hex:∀ i∈ren,∃ o,zf σ i=some o:=λ i h=>let ⟨o,ho,_⟩:=hcl i h; ⟨o,ho⟩;have hown:=zoc (μ:=μ) hex;have hst:Stays w (zp σ μ) w (zp (xd σ ren 0 ren) (x6 σ μ ren)):=by rw [hown]; exact Stays.refl _ _
 have hlen:(xd σ ren 0 ren).length=ren.length:=zhv σ ren ren 0 hex;have hinv:=zvo hi hnd hcl;have hcanon:Canon (xd σ ren 0 ren):=λ k o ho=>by
  obtain ⟨a,q,hk,hq,rfl,hlt⟩:=zai hex ho;refine ⟨by omega,λ i hin=>?_⟩
  rw [Ob.ren_ids,List.mem_map] at hin;obtain ⟨j,hj,rfl⟩:=hin;obtain ⟨q',hq',hids⟩:=hcl a (pz hk);rw [hq] at hq'; cases hq';rw [hlen];exact (xp (hids j hj)).2
 have hvs:RVs w (xd σ ren 0 ren) (x6 σ μ ren) vs (V.renL (xe ren) args):=
  hv.rename (xe ren) hst λ id hid=>⟨by rw [zdt hex (hargs id hid)]; exact qn.ren _ _,congrArg μ.lo (xp (hargs id hid)).1⟩
 have hargs':∀ i∈V.idsL (V.renL (xe ren) args),i<(xd σ ren 0 ren).length:=λ i hin=>by
  rw [V.renL_ids,List.mem_map] at hin;obtain ⟨j,hj,rfl⟩:=hin;rw [hlen];exact (xp (hargs j hj)).2
 have hfull:∀ k,k<(xd σ ren 0 ren).length→∃ o,zf (xd σ ren 0 ren) k=some o:=λ k hk=>by
  rw [hlen] at hk;obtain ⟨i,hik⟩:=yo hk;obtain ⟨o,ho⟩:=hex i (pz hik);have:=zdt hex (pz hik);rw [qp hnd hik,ho] at this;exact ⟨_,this⟩
 exact ⟨hlen,hinv,hcanon,hvs,hargs',hfull,hown⟩
theorem zmf{call:Nat→List V→St→Option (Out×St)}(hcall:vu cx call)(hi:Inv cx w σ μ){t f:Nat}{args:List V}{xs:List Nat}{vs:List Value}(hv:RVs w σ μ vs args){K:Oc→De→List Nat→Option R}{r:R}
  (h:vi cx call σ t f args xs K=some r) :
  ∃ oc δ fp,K oc δ fp=some r∧(∃ fn,cx.P.funcs[f]?=some fn∧fn.body.isNone=false)∧Calls cx.P f vs.toArray w λ e w'=>∃ μ',After cx w σ μ w' (ze σ δ) μ' ∧
   match oc,e with
   | .val v,.returned x=>RV w' (ze σ δ) μ' x v
   | .pan v,.panicked chain=>∃ x,chain=[{ v:=x,recovered:=false }]∧RV w' (ze σ δ) μ' x v
   | _,_=>False:=by
 unfold vi at h;simp only at h;generalize hren:w6 σ 1000 (V.idsL args++xs) []=ren at h;obtain ⟨hc,h⟩:=zd h;obtain ⟨_,h⟩:=zd h;obtain ⟨hnd,hargs0,hcl⟩:=zdl hc;have hargs:∀ i∈V.idsL args,i∈ren:=λ i hi=>hargs0 i (List.mem_append_left _ hi);have hex:∀ i∈ren,∃ o,zf σ i=some o:=λ i h=>let ⟨o,ho,_⟩:=hcl i h; ⟨o,ho⟩;obtain ⟨hlen,hinv,hcanon,hvs,hargs',hfull,_⟩:=zuv hi hv hnd hargs hcl
 have fin:∀ (out:Out) (σ':St) (δ:De),call f (V.renL (xe ren) args) (xd σ ren 0 ren)=some (out,σ')→δ.map (·.1)=ren →
   (∀ (j i:Nat),ren[j]?=some i→∃ old new o,zf σ i=some old∧zf σ' (0+j)=some new∧δ[j]?=some (i,o)∧LikeO (new.ren (za8 ren)) o) →
   (∀ k o,zf σ' k=some o→k<ren.length∧∀ i∈o.ids,i<ren.length) →
   ∀ (w':World) (μ1:Mu),After cx w (xd σ ren 0 ren) (x6 σ μ ren) w' σ' μ1 →
    After cx w σ μ w' (ze σ δ) (xq μ μ1 ren) ∧
    ∀ (x:Value) (v:V),(∀ i∈v.ids,i<ren.length)→RV w' σ' μ1 x v→RV w' (ze σ δ) (xq μ μ1 ren) x (v.ren (za8 ren)):=
  λ _ _ _ _ h1 h2 h3 _ _ h4=>zr5 hi hnd hcl h1 h2 h3 h4
 cases hcl2:call f (V.renL (xe ren) args) (xd σ ren 0 ren) with
 | none=>rw [hcl2] at h; cases h
 | some p=>
  obtain ⟨out,σ'⟩:=p;rw [hcl2] at h;obtain ⟨hfn,hσ',hout,hrun⟩:=hcall.2 f _ _ out σ' hcl2 w (x6 σ μ ren) vs hinv hcanon hargs' hfull hvs;rw [hlen] at hσ' hout;cases out with
  | ret v=>
   obtain ⟨δ,h1,h2,h3⟩:=zcj ren 0 h;obtain ⟨u,h4,h5⟩:=zmd h1;refine ⟨.val u,δ,ren,h4,hfn,hrun.mono ?_⟩;intro e w' ⟨μ1,haf,hv⟩;obtain ⟨g1,g2⟩:=fin _ σ' δ hcl2 h2 h3 hσ' w' μ1 haf;refine ⟨xq μ μ1 ren,g1,?_⟩;cases e with
   | returned x=>exact h5 _ _ _ _ (g2 x v hout hv)
   | _=>exact hv.elim
  | pan v=>
   obtain ⟨δ,h1,h2,h3⟩:=zcj ren 0 h;refine ⟨.pan (v.ren (za8 ren)),δ,ren,h1,hfn,hrun.mono ?_⟩;intro e w' ⟨μ1,haf,hv⟩;obtain ⟨g1,g2⟩:=fin _ σ' δ hcl2 h2 h3 hσ' w' μ1 haf;refine ⟨xq μ μ1 ren,g1,?_⟩;cases e with
   | panicked chain=>obtain ⟨x,hx,hr⟩:=hv; exact ⟨x,hx,g2 x v hout hr⟩
   | _=>exact hv.elim
end
section
variable {R:Type} {cx:Cx} {w:World} {σ:St} {μ:Mu}
theorem wm{s:Sem Value}{P:Program}{w w':World}{v:Value}(h:s.run P w=.ok v w'):(do pure (Next.value (←s)):Sem Next).run P w=.ok (.value v) w':=by
 rw [Sem.run_bind,h]; rfl
theorem zqx{s:Sem Unit}{P:Program}{w w':World}(h:s.run P w=.ok () w'):(do s; pure Next.skip:Sem Next).run P w=.ok .skip w':=by
 rw [Sem.run_bind,h]; rfl
theorem zeo{x:V}{K:Nat→List D→Option R}{r:R}(h:dataOf x K=some r):∃ sz l,dataOf x (λ a b=>some (a,b))=some (sz,l)∧K sz l=some r:=by
 unfold dataOf at h ⊢
 split at h <;> first
  | exact ⟨_,_,rfl,h⟩
  | cases h
theorem wc{id:Nat}{o:Ob}(h:z8 σ [(id,o)]=true):zf σ id=none:=by
 unfold z8 at h;cases hg:zf σ id with
 | none=>rfl
 | some q=>rw [hg] at h; simp at h
def y4(P : Program) : Prop := ∀ (f : Nat) (fn : Func), P.funcs[f]? = some fn → fn.name ≠ "runtime.NumGoroutine"
theorem zea(hn:y4 cx.P){f:Nat}{fn:Func}{args:Array Value}(hf:cx.P.funcs[f]?=some fn)(hb:fn.body.isNone=false) :
  (callFunc f args).run cx.P w=.ok (.enter f args) w:=by
 have h1 : (fn.name == "runtime.NumGoroutine") = false := by simpa using hn f fn hf
 unfold callFunc;rw [Sem.run_bind,run_program,Result.andThen_ok];simp only [hf,h1,hb,Bool.false_eq_true,if_false];rfl
theorem zod{v:V}{v':Value}(h:RV w σ μ v' v):RV w σ μ v' v.handed:=by
 cases h with
 | sl v sz l id n h ht hn he=>exact .d _ _ h
 | d v x h=>exact .d _ _ h
 | ptr id off b hi hb=>exact .ptr id off b hi hb
 | eptr x b o off xs hc h=>exact .eptr x b o off xs hc h
 | gptr g off=>exact .gptr g off
 | agg cs l hl ho h=>exact .agg cs l hl ho h
 | slo id sz k cap base l hi hk hcap hn he=>exact .slo id sz k cap base l hi hk hcap hn he
 | wptr id sz k i off a l hi hk he=>exact .wptr id sz k i off a l hi hk he
 | mfunc f cs l h=>exact .mfunc f cs l h
 | func f cs l hl h=>exact .func f cs l hl h
 | map id b ks vs hi hb=>exact .map id b ks vs hi hb
 | iface t v u h=>exact .iface t v u h
 | tup cs l hl h=>exact .tup cs l hl h
theorem zg7{v:V}{v':Value}(h:RV w σ μ v' v):RV w σ μ v' v.handed2:=by
 cases v with
 | agg l=>
  cases hd:ze5 (.agg l) with
  | some d=>
   have e:V.handed2 (.agg l)=.d d:=by simp [V.handed2,hd]
   rw [e];exact .d _ _ (zdw h hd)
  | none=>
   have e:V.handed2 (.agg l)=.agg l:=by simp [V.handed2,hd]
   rw [e];exact h
 | _=>exact zod h
theorem zyq{b:Bool}{v:V}{v':Value}(h:RV w σ μ v' v):RV w σ μ v' (z0q b v):=by
 cases b
 ·exact h
 ·exact zg7 h
theorem zfm{keep:Bool}{vs:List Value}{l:List V}(h:RVs w σ μ vs l):RVs w σ μ vs (qy keep l):=by
 unfold qy;cases keep
 ·refine ⟨by simp [h.1],λ i x y hx hy=>?_⟩
  simp only [p6,List.getElem?_map,Option.map_eq_some_iff] at hy;obtain ⟨z,hz,rfl⟩:=hy;exact zg7 (h.2 i x z hx hz)
 ·exact h
theorem RVs.append'{vs ws:List Value}{l k:List V}(h:RVs w σ μ vs l)(h':RVs w σ μ ws k):RVs w σ μ (vs++ws) (l++k):=by
 refine ⟨by simp [h.1,h'.1],λ i x y hx hy=>?_⟩
 by_cases hi:i<vs.length
 ·rw [List.getElem?_append_left hi] at hx;rw [List.getElem?_append_left (by rw [←h.1]; exact hi)] at hy
  exact h.2 i x y hx hy
 ·rw [List.getElem?_append_right (by omega)] at hx
  rw [List.getElem?_append_right (by rw [←h.1]; omega)] at hy
  rw [←h.1] at hy;exact h'.2 _ x y hx hy
theorem zqh:∀ {l:List V} {ds:List D},zcm l=some ds→l=ds.map .d
 | [],ds,h=>by cases h; rfl
 | x::l,ds,h=>by
  cases x <;> first | (simp [zcm] at h; done) | skip
  simp only [zcm] at h;split at h
  ·rename_i l' hl; cases h; rw [zqh hl]; rfl
  ·cases h
theorem zk2{a:Act}{fr:Fr}(hf:FR w σ μ a.tmps fr){x:Option Operand}{K:Option V→Option R}{r:R}
  (h:zec fr x K=some r):∃ v,K v=some r∧znu w σ μ v (x.map a.eval):=by
 cases x with
 | none=>exact ⟨none,h,trivial⟩
 | some x=>obtain ⟨v,hv,h⟩:=zb h; exact ⟨some v,h,xg hf hv⟩
theorem zmw{a:Act}{fr:Fr}(hi:Inv cx w σ μ)(hf:FR w σ μ a.tmps fr){id:Nat}(haf:After cx w σ μ w (ze σ [(id,.tok 0)]) (setMu μ id ⟨none,0,0,0⟩))(hg:zf σ id=none) :
  ∀ (xs:List Operand) (ts:List Nat) (l:List V),zab cx.P fr id xs ts=some l→RVs w (ze σ [(id,.tok 0)]) (setMu μ id ⟨none,0,0,0⟩) (xs.map a.eval) l
 | [],ts,l,h=>by simp only [zab] at h; cases h; exact ⟨rfl,by simp⟩
 | x::xs,ts,l,h=>by
  simp only [zab] at h;split at h
  ·cases h
  ·rename_i l' hl;have ih:=zmw hi hf haf hg xs _ l' hl;have one:∀ {v:V},RV w (ze σ [(id,.tok 0)]) (setMu μ id ⟨none,0,0,0⟩) (a.eval x) v→RVs w (ze σ [(id,.tok 0)]) (setMu μ id ⟨none,0,0,0⟩) ((x::xs).map a.eval) (v::l'):=by
    intro v hv;refine ⟨by simp [ih.1],λ i p q hp hq=>?_⟩
    cases i with
    | zero=>simp at hp hq; subst hp; subst hq; exact hv
    | succ i=>exact ih.2 i p q (by simpa using hp) (by simpa using hq)
   split at h
   ·split at h
    ·cases h;exact one (zeu (w:=w) (μ:=μ) (base:=none) hg (cap:=0) rfl (.inr rfl)).2
    ·cases h
   ·split at h
    ·rename_i v hv;cases h;exact one (haf.rv hi (xg hf hv))
    ·cases h
theorem zpa{P:Program}{t xt:Nat}{ok:Bool}{v:Value}{w:World}(ht:qg P t=true)(hif:isIface P t=false) :
  (Instr.typeAssert (.iface t v) xt t ok).run P w=.ok (if ok then .tuple #[v,.bool true] else v) w:=by
 unfold qg at ht;unfold isIface at hif;cases hu:P.underlying t with
 | none=>rw [hu] at ht; cases ht
 | some u=>
  rw [hu] at hif;unfold Instr.typeAssert;cases u <;> first | (cases hif; done) | simp [run_underlying hu]
theorem zxc{P:Program}{g:Nat}(h:zfl P g=true)(x:Value){w:World}:(callFunc g #[x]).run P w=.ok (.value x) w:=by
 unfold zfl at h;split at h
 ·rename_i fn hfn;simp only [pq,beq_iff_eq] at h;obtain ⟨⟨h1,h2⟩,h3⟩:=h;have e1:Extern.findNext fn=none:=by
   unfold Extern.findNext;rw [h2,h3];kernel_rfl
  have e2:Extern.find fn=some Extern.AbiNoEscape.same:=by
   unfold Extern.find;rw [h2,h3];kernel_rfl
  rw [run_callFunc_extern hfn (by rw [h2]; decide) h1 e1 e2]
  rfl
 ·cases h
theorem zyl{R:Type}{s t:Nat}{x:V}{x':Value}{K:V→List Nat→Option R}{r:R}(hi:Inv cx w σ μ)(hx:RV w σ μ x' x)(h:zma cx σ s t x K=some r) :
  ∃ v fp,K v fp=some r∧∃ v',(convert s t x').run cx.P w=.ok v' w∧RV w σ μ v' v:=by
 unfold zma at h;split at h
 ·rename_i id off;split at h
  ·rename_i n u ho;obtain ⟨hc,h⟩:=zd h;have hx0:=hx;cases hx with | ptr _ _ b hcell hb=>?_
   obtain ⟨b',cs,el,hb',hh,hn,htup,h1,hr,htag⟩:=hi.ob id _ ho;obtain rfl:b=b':=by rw [hb] at hb'; exact Option.some.inj hb'
   have hsh:w.shape? b=some (el,cs.size):=by simp [World.shape?,hh]
   refine ⟨_,_,h,_,?_,hx0⟩;unfold z0i at hc;split at hc
   ·rename_i e hs ht;rw [pq] at hc;obtain ⟨c1,c2⟩:=hc;split at c1
    ·rename_i j hj;have c3:off<cs.size:=by
      have:off<szN n:=by simpa using c2
      omega
     exact Go.Lib.run_to_unsafe w ⟨b,off,none⟩ hs ht hj (λ e0=>by rw [e0] at c1; cases c1) hsh c3
    ·cases c1
   ·rename_i e hs ht;simp only [pq,Bool.not_eq_true'] at hc;obtain ⟨⟨c1,c2⟩,c3⟩:=hc;obtain ⟨j,hj⟩:=Option.isSome_iff_exists.1 c1;have hel:el=n / 1048576 - 1:=by
     rcases htag with h | h
     ·have:Nat.blt n 1048576=true:=by simpa using h
      rw [this] at c2; cases c2
     ·show el=n / 1048576 - 1;rw [h]; rfl
    refine Go.Lib.run_from_unsafe w ⟨b,off,none⟩ hs ht hj hsh ?_;rw [hel,hn];exact c3
   ·cases hc
  ·cases h
 ·cases h
theorem zh5{m nt:Nat}{call:Nat→List V→St→Option (Out×St)}(hcall:vu cx call)(hn:y4 cx.P)(hi:Inv cx w σ μ){a:Act}{fr:Fr}(hf:FR w σ μ a.tmps fr){o:Oper}
  {K:Oc→De→List Nat→Option R} {r:R} (h:xo cx m nt call o fr σ K=some r):∃ oc δ fp,K oc δ fp=some r∧zbd cx w σ μ a o oc δ:=by
 obtain ⟨dst,op,type,pos,after,guard⟩:=o
 have hval:∀ {v:V} {v':Value} {fp},K (.val v) [] fp=some r→True→RV w σ μ v' v→((execOp a.eval ⟨dst,op,type,pos,after,guard⟩).run cx.P w=.ok (.value v') w) →
   ∃ oc δ fp,K oc δ fp=some r∧zbd cx w σ μ a ⟨dst,op,type,pos,after,guard⟩ oc δ:=λ hK _ hv hr=>⟨_,_,_,hK,zbd.value hi _ hr hv⟩
 have hmove:∀ {x:Operand},(execOp a.eval ⟨dst,op,type,pos,after,guard⟩=pure (.value (a.eval x))) →
   (match x with
   | .const (.slice none 0 0)=>
    (match cx.P.underlying type with
    | some (.slice e)=>(match zf σ (m+dst.getD 0) with
     | none=>bif cx.own nt (dst.getD 0) then K (.val (.slo (m+dst.getD 0) (cx.P.cellsOf e) 0)) [(m+dst.getD 0,.row [])] [m+dst.getD 0] else K (.val (.sl (cx.P.cellsOf e) [] (m+dst.getD 0))) [(m+dst.getD 0,.tok 0)] [m+dst.getD 0]
     | some _=>K (.val (.d (.sl (cx.P.cellsOf e) []))) [] [m+dst.getD 0])
    | _=>none)
   | x=>za (opd fr x) λ v=>bif cx.thaw nt (dst.getD 0) then zgn σ v λ v δ fp=>K (.val v) δ fp else K (.val v) [] [])=some r→∃ oc δ fp,K oc δ fp=some r∧zbd cx w σ μ a ⟨dst,op,type,pos,after,guard⟩ oc δ:=by
  intro x he h;split at h
  ·split at h
   ·split at h
    ·rename_i hg;cases hown:cx.own nt (dst.getD 0) <;> rw [hown] at h
     ·obtain ⟨h1,h2⟩:=zeu (w:=w) (μ:=μ) (sz:=cx.P.cellsOf _) (base:=none) hg rfl (.inr rfl);exact ⟨_,_,_,h,zbd.of_upd hi _ (by rw [he]; rfl) (zev hg) h1 h2⟩
     ·obtain ⟨h1,h2⟩:=zvb (w:=w) (μ:=μ) (sz:=cx.P.cellsOf _) hg;exact ⟨_,_,_,h,zbd.of_upd hi _ (by rw [he]; rfl) (zev hg) h1 h2⟩
    ·exact hval h trivial (.d _ _ (.sl0 none 0 _)) (by rw [he]; rfl)
   ·cases h
  ·obtain ⟨v,hv,h⟩:=zb h;cases hth:cx.thaw nt (dst.getD 0) <;> rw [hth] at h
   ·exact hval h trivial (xg hf hv) (by rw [he]; rfl)
   ·rw [p5] at h;obtain ⟨u,δ,fp,hK,μ',ids,h1,h2,h3⟩:=zw3 hi (xg hf hv) h;exact ⟨_,_,_,hK,zbd.of_upd hi _ (by rw [he]; rfl) h1 h2 h3⟩
 cases op
 case makeFunc fn first caps=>
  cases fn <;> simp only [xo] at h <;> first | (cases h; done) | skip
  cases hfe:first.isEmpty <;> rw [hfe] at h
  ·rw [p6] at h;obtain ⟨hc,q1⟩:=zd h;obtain ⟨l,hl,q2⟩:=zb q1;obtain ⟨ds,hds,hKK⟩:=zb q2;have hce:caps = #[]:=by simpa using hc
   subst hce;have h1:=zbp hf _ _ _ hl;have h2:RVs w σ μ (first.toList.map a.eval) (l.map V.handed2):=⟨by simpa using h1.1,λ i x y hx hy=>by
    rw [List.getElem?_map,Option.map_eq_some_iff] at hy;obtain ⟨z,hz,rfl⟩:=hy;exact zg7 (h1.2 i x z hx hz)⟩
   rw [zqh hds] at h2;exact hval hKK trivial (.mfunc _ (first.map a.eval) ds (by simpa using h2.rd)) (wm (by simp [Instr.makeFunc]))
  ·rw [p5] at h;obtain ⟨l,hl,h⟩:=zb h;have hfe:first = #[]:=by simpa using hfe
   subst hfe;obtain ⟨h1,h2⟩:=zbp hf _ _ _ hl;exact hval h trivial (.func _ (caps.map a.eval) l (by rw [←h1]; simp) λ i x y hx hy=>h2 i x y (by simpa using hx) hy) (wm (by simp [Instr.makeFunc]))
 case makeMap t rr=>
  cases rr <;> simp only [xo] at h <;> first | (cases h; done) | skip
  obtain ⟨hc,h⟩:=zd h;obtain ⟨w',h1,h2,h3,h4⟩:=zs0 (cx:=cx) (w:=w) (μ:=μ) (t:=t) (wc hc);exact ⟨_,_,_,h,zbd.of_upd hi _ (wm h1) h2 h3 h4⟩
 all_goals simp only [xo] at h
 all_goals first | (cases h; done) | skip
 case move x=>exact hmove rfl h
 case assign x=>exact hmove rfl h
 case pick c x y=>
  obtain ⟨c',hc,h⟩:=zb h;obtain ⟨b,rfl,h⟩:=zih h;have hcb:a.eval c=.bool b:=by
   have hr:=xg hf hc;generalize a.eval c=q at hr;cases hr with | d _ _ hd=>cases hd; rfl
  cases b
  ·obtain ⟨v,hv,h⟩:=zb h;exact hval h trivial (xg hf hv) (by simp [execOp,hcb,Go.asBool])
  ·obtain ⟨v,hv,h⟩:=zb h;exact hval h trivial (xg hf hv) (by simp [execOp,hcb,Go.asBool])
 case alloc e=>
  obtain ⟨z,hz,h⟩:=zb h;obtain ⟨hc,h⟩:=zd h;rw [pq,pq] at hc;obtain ⟨t1,t2⟩:=zo7 (cx:=cx) (nt:=nt) (dst:=dst) hc.2;obtain ⟨w',μ',h1,h2,h3,h4⟩:=zys (w:=w) (μ:=μ) t1 t2 hz _ rfl hc.1.1 (by
   have:=hc.1.2;cases ha:xv cx.P e
   ·right; simpa [ha] using this
   ·exact .inl rfl)
  exact ⟨_,_,_,h,zbd.of_upd hi _ (wm h1) h2 h3 h4⟩
 case box e x=>
  obtain ⟨v,hv,h⟩:=zb h;obtain ⟨hc,h⟩:=zd h;simp only [pq,Bool.not_eq_true'] at hc;obtain ⟨w',h1,h2,h3,h4⟩:=z17 (e:=e) hi (x5 hf hv) hc.1.1.1 ((po hc.1.1.2).trans (zo7 (cx:=cx) (nt:=nt) (dst:=dst) hc.2).1.symm) (zo7 hc.2).2 (wc hc.1.2);exact ⟨_,_,_,h,zbd.of_upd hi _ (wm h1) h2 h3 h4⟩
 case build t ps=>
  cases hty:cx.typed nt (dst.getD 0)
  ·rw [hty,p6] at h;obtain ⟨z,hz,h⟩:=zb h;obtain ⟨l,hl,h⟩:=zb h;obtain ⟨cs,hcs,h⟩:=zb h;obtain ⟨hk,h⟩:=zd h;obtain ⟨v',h1,h2⟩:=zyo (w:=w) hf hz hl hcs hk;exact hval h trivial (zyq h2) (wm h1)
  ·rw [hty,p5] at h;obtain ⟨z,hz,h⟩:=zb h;obtain ⟨hc,h⟩:=zd h;simp only [pq] at hc;have hps:ps = #[]:=by simpa using hc.1.1
   obtain ⟨v',μ',h1,h2,h3,h4⟩:=zwf (w:=w) (μ:=μ) hz hc.1.2 hc.2;exact ⟨_,_,_,h,zbd.of_upd hi _ (wm (by rw [hps]; simpa using h1)) h2 h3 h4⟩
 case buildSlice t n ps=>
  split at h
  ·rename_i e hu;obtain ⟨z,hz,h⟩:=zb h;obtain ⟨l,hl,h⟩:=zb h;obtain ⟨xs,hx,h⟩:=zb h;obtain ⟨hc,h⟩:=zd h;simp only [pq,Bool.not_eq_true'] at hc;cases hbare:zpq cx nt dst ps.toList <;> rw [hbare] at h
   case true=>
    obtain ⟨w',h1,h2,h3⟩:=zp8 hi hf hu hz hl hx (wc hc.1.1.1) (p4 hc.1.1.2) (p4 hc.1.2)
     (λ e=>by simp [e] at hc)
    exact ⟨_,_,_,h,zbd.of_upd hi _ (wm h1) h2 (λ j hj=>by simp at hj) h3⟩
   cases hown:cx.own nt (dst.getD 0) <;> rw [hown] at h
   ·obtain ⟨w',lo,h1,h2,h3,h4⟩:=zgu hi hf hu hz hl hx (wc hc.1.1.1) (p4 hc.1.1.2) (p4 hc.1.2)
     (λ e=>by simp [e] at hc)
    exact ⟨_,_,_,h,zbd.of_upd hi _ (wm h1) h2 h3 h4⟩
   ·obtain ⟨w',lo,h1,h2,h3,h4⟩:=zmi hi hf hu hz hl hx (wc hc.1.1.1) (p4 hc.1.1.2) (p4 hc.1.2)
     (λ e=>by simp [e] at hc)
    exact ⟨_,_,_,h,zbd.of_upd hi _ (wm h1) h2 h3 h4⟩
  ·cases h
 case makeSlice t n c=>
  obtain ⟨a',ha,h⟩:=zb h;obtain ⟨b',hb,h⟩:=zb h;obtain ⟨v,δ,fp,hK,v',w',μ',h1,h2,h3,h4⟩:=znc hi (xg hf ha) (xg hf hb) h;exact ⟨_,_,_,hK,zbd.of_upd hi _ (wm h1) h2 h3 h4⟩
 case lookup t x i ok=>
  obtain ⟨a',ha,h⟩:=zb h;obtain ⟨b',hb,h⟩:=zb h;obtain ⟨v,fp,hK,v',h1,h2⟩:=zs4 hi (xg hf ha) (xg hf hb) h;exact hval hK trivial h2 (wm h1)
 case mapUpdate t mm k x | insert t mm k x=>
  obtain ⟨a',ha,h⟩:=zb h;obtain ⟨b',hb,h⟩:=zb h;obtain ⟨c',hc,h⟩:=zb h;obtain ⟨δ,fp,hK,w',id,h1,h2,h3⟩:=zsz hi (xg hf ha) (xg hf hb) (x5 hf hc) h;exact ⟨_,_,_,hK,zbd.of_skip hi (zqx h1) h2 h3⟩
 case load t p=>
  obtain ⟨p',hp,h⟩:=zb h;obtain ⟨v,fp,h,v',h1,h2⟩:=zra hi (xg hf hp) h;exact hval h trivial h2 (wm h1)
 case store t p x=>
  obtain ⟨p',hp,q1⟩:=zb h;clear h;cases hnl:(qw x&&cx.nils nt (zt8 p)) <;> rw [hnl] at q1 <;> simp only [p5,p6] at q1
  rotate_left
  ·rw [pq] at hnl;have hx:x=.const (.slice none 0 0):=by
    have:=hnl.1;unfold qw at this;split at this
    ·rfl
    ·cases this
   subst hx;unfold zbv at q1;split at q1
   ·obtain ⟨hc,h⟩:=zd q1;clear q1;rw [pq] at hc;have hg:=wc hc.2;obtain ⟨b1,b2⟩:=zeu (w:=w) (μ:=μ) (sz:=cx.P.cellsOf _) (base:=none) (cap:=0) hg rfl (.inr rfl);have haf:=(zev (cx:=cx) hg).after hi b1;obtain ⟨δ,fp,hK,w',id,h1,h2,h3⟩:=ziv haf.inv (haf.rv hi (xg hf hp)) b2 h hc.1;refine ⟨_,_,_,hK,λ next Q hk=>?_⟩
    have hr:(execOp a.eval ⟨dst,.store t p (.const (.slice none 0 0)),type,pos,after,guard⟩).run cx.P w=.ok .skip w':=zqx h1;unfold Oper.wp;rw [hr];exact hk undef w' _ (haf.trans (h2.after haf.inv h3)) (.tup #[] [] rfl (by simp))
   ·cases q1
  obtain ⟨v,hv,h⟩:=zb q1;clear q1;obtain ⟨hty,h⟩:=zd h;obtain ⟨δ,fp,h,w',id,h1,h2,h3⟩:=ziv hi (xg hf hp) (x5 hf hv) h hty;exact ⟨_,_,_,h,zbd.of_skip hi (zqx h1) h2 h3⟩
 case nilCheck x=>
  obtain ⟨v,hv,h⟩:=zb h;have hr:=xg hf hv;split at h
  ·refine hval h trivial hr ?_;generalize hq:a.eval x=q at hr ⊢;cases hr with | ptr id off b _ _=>simp [execOp,hq]
  ·refine hval h trivial hr ?_;generalize hq:a.eval x=q at hr ⊢;cases hr with | eptr x b o off xs hc hh=>simp [execOp,hq]
  ·refine hval h trivial hr ?_;generalize hq:a.eval x=q at hr ⊢;cases hr with | gptr g off=>simp [execOp,hq]
  ·refine hval h trivial hr ?_;generalize hq:a.eval x=q at hr ⊢;cases hr with | wptr id sz k i off a l _ _ _=>simp [execOp,hq]
  ·refine hval h trivial hr ?_;generalize hq:a.eval x=q at hr ⊢;cases hr with | func f cs l hl hh=>simp [execOp,hq]
  ·refine hval h trivial hr ?_;generalize hq:a.eval x=q at hr ⊢;cases hr with | mfunc f cs l hh=>simp [execOp,hq]
  ·cases h
 case binOp op t x y u=>
  obtain ⟨v1,hv1,h⟩:=zb h;obtain ⟨v2,hv2,h⟩:=zb h;obtain ⟨v,h,v',h1,h2⟩:=z0c (w:=w) (x5 hf hv1) (x5 hf hv2) h;exact hval h trivial h2 (wm h1)
 case unOp op t x=>
  obtain ⟨v1,hv1,h⟩:=zb h;obtain ⟨v,h,v',h1,h2⟩:=z0u (P:=cx.P) (w:=w) (xg hf hv1) h;exact hval h trivial h2 (wm h1)
 case convert s t x=>
  obtain ⟨v1,hv1,h⟩:=zb h;split at h
  ·rename_i e' e sz l id hu1 hu2;split at h
   ·rename_i n hu3 hg;obtain ⟨hc,h'⟩:=zd h;clear h;simp only [pq,Bool.not_eq_true',decide_eq_true_eq] at hc;obtain e3:=po hc.1.1;subst e3;have h:=h';rw [hu1] at hu2; cases hu2;obtain ⟨w',h1,h2,h3,h4⟩:=zvq hi (x5 hf hv1) (by have:=hc.1.2; intro e; simp [e] at this) hg hc.2 hu1 hu3
    exact ⟨_,_,_,h,zbd.of_upd hi _ (wm h1) h2 h3 h4⟩
   ·cases h
  ·cases hun:zxz cx.P s t <;> rw [hun] at h <;> simp only [p5,p6] at h
   ·obtain ⟨v,h,v',h1,h2⟩:=zyk (w:=w) (x5 hf hv1) h;exact hval h trivial h2 (wm h1)
   ·obtain ⟨v,fp,h,v',h1,h2⟩:=zyl hi (x5 hf hv1) h;exact hval h trivial h2 (wm h1)
 case makeInterface t x=>
  split at h
  ·cases h
  ·cases h
  ·rename_i hu1 hu2;obtain ⟨v,hv,h⟩:=zb h;have hr:=x5 hf hv;have hrun:(Instr.makeInterface t (a.eval x)).run cx.P w=.ok (.iface t (a.eval x)) w:=by
    unfold Instr.makeInterface;cases hu:cx.P.underlying t with
    | none=>exact absurd hu hu2
    | some u=>
     rw [Sem.run_bind,run_underlying hu,Result.andThen_ok];cases u <;> first | rfl | exact absurd hu (hu1 _)
   split at h
   ·rename_i y hy;exact hval h trivial (.d _ _ (.iface t _ _ (zdw hr hy))) (wm hrun)
   ·exact hval h trivial (.iface t _ _ hr) (wm hrun)
 case slice t x lo hii mx=>
  obtain ⟨v1,hv1,h⟩:=zb h;obtain ⟨l,h,hl⟩:=zk2 hf h;obtain ⟨hh,h,hhh⟩:=zk2 hf h;obtain ⟨mm,h,hm⟩:=zk2 hf h;obtain ⟨v,δ,fp,h,v',μ',ids,h1,h2,h3,h4⟩:=zu5 (x5 hf hv1) hl hhh hm h;exact ⟨_,_,_,h,zbd.of_upd hi _ (wm h1) h2 h3 h4⟩
 case fieldAddr s x f=>
  obtain ⟨v1,hv1,h⟩:=zb h;obtain ⟨v,h,v',h1,h2⟩:=zng (w:=w) (xg hf hv1) h;exact hval h trivial h2 (wm h1)
 case field t x f=>
  obtain ⟨v1,hv1,h⟩:=zb h;obtain ⟨p,hp,h⟩:=zb h;obtain ⟨v,h,v',h1,h2⟩:=zx5 (w:=w) (xg hf hv1) hp h;exact hval h trivial h2 (wm h1)
 case indexAddr t x i=>
  obtain ⟨v1,hv1,h⟩:=zb h;obtain ⟨v2,hv2,h⟩:=zb h;obtain ⟨v,h,v',h1,h2⟩:=zne (w:=w) (xg hf hv1) (xg hf hv2) h;exact hval h trivial h2 (wm h1)
 case index t x i=>
  obtain ⟨v1,hv1,h⟩:=zb h;obtain ⟨v2,hv2,h⟩:=zb h;obtain ⟨v,h,v',h1,h2⟩:=zvp (w:=w) (xg hf hv1) (xg hf hv2) h;exact hval h trivial h2 (wm h1)
 case extract t i=>
  obtain ⟨v1,hv1,h⟩:=zb h;obtain ⟨l,rfl,h⟩:=zmp h;obtain ⟨v,hv,h⟩:=zgb h;have hr:=xg hf hv1;generalize hq:a.eval t=q at hr;cases hr with | tup cs _ hl hh=>?_
  have hlt:i<cs.size:=by rw [hl]; exact (pr.1 hv).1
  exact hval h trivial (hh i cs[i] v (by simp) hv) (wm (by simp [Instr.extract,hq,hlt]))
 case panic x=>
  obtain ⟨v1,hv1,h⟩:=zb h;split at h <;> first | (cases h; done) | skip
  rename_i t y;have hr:=xg hf hv1;refine ⟨_,_,_,h,λ next Q hk=>?_⟩
  have hk:=hk _ w μ (After.refl hi) hr;generalize hq:a.eval x=q at hr hk;cases hr with | d v' _ hd=>?_
  cases hd with | iface _ v0 _ h0=>?_
  unfold Oper.wp;have:(execOp a.eval ⟨dst,.panic x,type,pos,after,guard⟩).run cx.P w=.halt (.panic (.iface t v0)) w:=by
   simp [execOp,hq,Instr.panic]
  rw [this];exact hk
 case typeAssert x xt t ok=>
  obtain ⟨v,hv,h1⟩:=zb h;clear h;unfold zig at h1;obtain ⟨hc,h2⟩:=zd h1;clear h1;simp only [pq,Bool.not_eq_true'] at hc;split at h2
  ·rename_i t' y;cases hb:Nat.beq t' t <;> rw [hb] at h2
   ·cases h2
   ·obtain rfl:=po hb;have hr:=xg hf hv;generalize hq:a.eval x=q at hr;cases hr with | d v' _ hd=>?_
    cases hd with | iface _ v0 _ h0=>?_
    refine hval h2 trivial ?_ (wm (v:=if ok then .tuple #[v0,.bool true] else v0) (by rw [hq]; exact zpa hc.1 hc.2))
    cases ok
    ·exact .d _ _ h0
    ·refine .tup _ _ rfl λ i p q hp hq=>?_
     match i with
     | 0=>simp at hp hq; subst hp; subst hq; exact .d _ _ h0
     | 1=>simp at hp hq; subst hp; subst hq; exact .d _ _ (.bool true)
     | i+2=>simp at hp
  ·cases h2
 case call c=>
  obtain ⟨callee,cargs,ctypes⟩:=c;split at h
  ·rename_i f hcl;simp only at hcl;subst hcl;obtain ⟨fv,hfv,h⟩:=zb h;split at h <;> first | (cases h; done) | skip
   ·rename_i g first
    have hr:=xg hf hfv;generalize hq:a.eval f=q at hr;cases hr with | mfunc _ cs _ hcs=>?_
    have hrun:∀ {fn:Func},cx.P.funcs[g]?=some fn→fn.body.isNone=false→(execOp a.eval ⟨dst,.call ⟨.value f,cargs,ctypes⟩,type,pos,after,guard⟩).run cx.P w=.ok (.enter g (cs.toList++cargs.toList.map a.eval).toArray) w:=by
     intro fn hfn hbody;simp only [execOp,resolve,hq,Deferred.ofValue];rw [Sem.run_bind];simp only [Sem.run_pure,Result.andThen_ok,invoke];rw [show (cs++Array.map a.eval cargs++#[])=(cs.toList++cargs.toList.map a.eval).toArray by
      apply Array.ext'; simp]
     exact zea hn hfn hbody
    obtain ⟨l,hl,h⟩:=zb h
    have hargs:RVs w σ μ (cs.toList++cargs.toList.map a.eval) (first.map .d++qy (cx.keep g) l):=
     RVs.append' hcs.rv (zfm (zbp hf _ _ _ hl))
    obtain ⟨oc,δ,fp,hK,⟨fn,hfn,hbody⟩,hcalls⟩:=zmf hcall hi hargs h;refine ⟨oc,δ,fp,hK,λ next Q hk=>?_⟩
    unfold Oper.wp;rw [hrun hfn hbody,Oper.upon_enter];refine hcalls.mono λ e w' ⟨μ',haf,he⟩=>?_;cases oc with
    | val v=>cases e <;> first | exact hk _ _ _ haf he | exact he.elim
    | pan v=>cases e <;> first | exact he.elim | (obtain ⟨x,rfl,hx⟩:=he; exact hk _ _ _ haf hx)
   rename_i g cap;have hr:=xg hf hfv;generalize hq:a.eval f=q at hr;cases hr with | func _ cs _ hcl hch=>?_
   have hrun:∀ {fn:Func},cx.P.funcs[g]?=some fn→fn.body.isNone=false→(execOp a.eval ⟨dst,.call ⟨.value f,cargs,ctypes⟩,type,pos,after,guard⟩).run cx.P w=.ok (.enter g (cargs.toList.map a.eval++cs.toList).toArray) w:=by
    intro fn hfn hbody;simp only [execOp,resolve,hq,Deferred.ofValue];rw [Sem.run_bind];simp only [Sem.run_pure,Result.andThen_ok,invoke];rw [show (#[]++Array.map a.eval cargs++cs)=(cargs.toList.map a.eval++cs.toList).toArray by
     apply Array.ext'; simp]
    exact zea hn hfn hbody
   have hcap:RVs w σ μ cs.toList cap:=⟨by simpa using hcl,λ i x y hx hy=>hch i x y (by simpa using hx) hy⟩
   have tokd:∀ {l:List V} {xs:List Nat},z8 σ [(m+dst.getD 0,Ob.tok 0)]=true →
     (zf σ (m+dst.getD 0)=none→After cx w σ μ w (ze σ [(m+dst.getD 0,.tok 0)]) (setMu μ (m+dst.getD 0) ⟨none,0,0,0⟩)→RVs w (ze σ [(m+dst.getD 0,.tok 0)]) (setMu μ (m+dst.getD 0) ⟨none,0,0,0⟩) (cargs.toList.map a.eval) l) →
     (vi cx call (vx σ (m+dst.getD 0) (.tok 0)) type g (l++cap) xs λ oc δ fp=>K oc ((m+dst.getD 0,Ob.tok 0)::δ) ((m+dst.getD 0)::fp))=some r →
     ∃ oc δ fp,K oc δ fp=some r∧zbd cx w σ μ a ⟨dst,.call ⟨.value f,cargs,ctypes⟩,type,pos,after,guard⟩ oc δ:=by
    intro l xs hfr hl h;have hg:=wc hfr;obtain ⟨hob,_⟩:=zeu (w:=w) (μ:=μ) (sz:=0) (base:=none) hg (cap:=0) rfl (.inr rfl);have haf0:=(zev (cx:=cx) (w:=w) (μ:=μ) (ob:=.tok 0) hg).after hi hob
    have hargs:RVs w (vx σ (m+dst.getD 0) (.tok 0)) (setMu μ (m+dst.getD 0) ⟨none,0,0,0⟩) (cargs.toList.map a.eval++cs.toList) (l++cap):=
     RVs.append' (hl hg haf0) (hcap.map λ v x _ hv=>haf0.rv hi hv)
    obtain ⟨oc,δ,fp,hK,⟨fn,hfn,hbody⟩,hcalls⟩:=zmf hcall haf0.inv hargs h;refine ⟨oc,_,_,hK,λ next Q hk=>?_⟩
    unfold Oper.wp;rw [hrun hfn hbody,Oper.upon_enter];refine hcalls.mono λ e w' ⟨μ',haf,he⟩=>?_;cases oc with
    | val v=>cases e <;> first | exact hk _ _ _ (haf0.trans haf) he | exact he.elim
    | pan v=>cases e <;> first | exact he.elim | (obtain ⟨x,rfl,hx⟩:=he; exact hk _ _ _ (haf0.trans haf) hx)
   cases hgr:(cx.grow g).isSome <;> rw [hgr] at h <;> simp only [p5,p6] at h
   rotate_left
   ·unfold zgr at h;split at h
    ·rename_i y hargs;obtain ⟨e,he,h⟩:=zb h;obtain ⟨v,hv,h⟩:=zb h;split at h
     ·rename_i n;obtain ⟨hc,hK⟩:=zd h;simp only [pq,decide_eq_true_eq] at hc;obtain ⟨⟨⟨⟨h0,h1⟩,hce⟩,hfr⟩,hsm⟩:=hc;have hg:=wc hfr;have hc0:cs.toList=[]:=by
       have h1:cap.length=0:=by simpa using hce
       exact List.eq_nil_of_length_eq_zero (by rw [hcap.1]; exact h1)
      obtain ⟨⟨fn,hfn,hbody⟩,hcalls⟩:=hcall.1 g e he n w h0 h1;have hya:=(xg hf hv).int_inv;have hav:(cargs.toList.map a.eval++cs.toList).toArray = #[.slice none 0 0,.int .i64 n]:=by
       rw [hargs,hc0]; simp [hya]; rfl
      have hsm:cx.P.cellsOf e<1048576:=by simpa using hsm
      refine ⟨_,_,_,hK,λ next Q hk=>?_⟩
      unfold Oper.wp;rw [hrun hfn hbody,Oper.upon_enter,hav];refine hcalls.mono λ x w' ⟨base,c,hx,hw⟩=>?_;subst hx;rcases hw with ⟨rfl,rfl,rfl⟩ | ⟨ncs,el,rfl,rfl,hsize⟩
      ·obtain ⟨b1,b2⟩:=zeu (w:=w') (μ:=μ) (sz:=cx.P.cellsOf e) (base:=none) (cap:=0) hg rfl (.inr rfl);exact hk _ _ _ ((zev (cx:=cx) hg).after hi b1) b2
      ·have hnh:(w.drew.alloc (.cells ncs el)).heap[w.heap.size]?=some (.cells ncs el (0,0)):=wj (w:=w.drew)
       have hup:Upd cx w σ μ (w.drew.alloc (.cells ncs el)) (ze σ [(m+dst.getD 0,.tok 0)]) (setMu μ (m+dst.getD 0) ⟨some w.heap.size,0,c * cx.P.cellsOf e,el⟩) [m+dst.getD 0]:=
        zg3 (δ:=[(m+dst.getD 0,.tok 0)]) rfl rfl (by simp) (λ b hb=>alloc_old (w:=w.drew) b hb) hfr rfl (λ j hj=>by simp at hj; simp [setMu,hj])
         (λ j hj b hb=>by simp at hj; subst hj; simp [setMu] at hb; omega) (λ j hj j' hj' b _ _=>by simp at hj hj'; rw [hj,hj'])
       have hnew:zf (ze σ [(m+dst.getD 0,Ob.tok 0)]) (m+dst.getD 0)=some (.tok 0):=by simp [ze,zk]
       refine hk _ _ _ (hup.after hi λ j hj o' ho'=>?_) ?_
       ·simp at hj; subst hj;rw [hnew] at ho'; cases ho';intro b' hb';have hbb:w.heap.size=b':=by simpa [setMu] using hb'
        subst hbb;exact ⟨ncs,el,(0,0),hnh,by simp [setMu],by simp [setMu,hsize],.inl rfl⟩
       ·exact .slm (zit hsm) (.sl0 _ _ _) hnew (Nat.le_refl _) λ _=>zd3 (zit hsm) (by simp [setMu]) (by simp [setMu]) (by simp [setMu]) (Nat.zero_le _) (.inl hsm)
     ·cases h
    ·cases h
   cases hsm:(zfl cx.P g&&cap.isEmpty) <;> rw [hsm] at h <;> simp only [p5,p6] at h
   rotate_left
   ·rw [pq] at hsm;obtain ⟨l,hl,h⟩:=zb h;have hal:=zbp hf _ _ _ hl;unfold zvf at h;split at h
    ·rename_i v;have hc0:cs.toList=[]:=by
      have h1:cap.length=0:=by simpa using hsm.2
      exact List.eq_nil_of_length_eq_zero (by rw [hcap.1]; exact h1)
     obtain ⟨x,hx⟩:∃ x,cargs.toList.map a.eval=[x]:=List.length_eq_one_iff.1 hal.1;have hrx:RV w σ μ x v:=hal.2 0 x v (by rw [hx]; rfl) rfl
     exact hval h trivial hrx (by
      simp only [execOp,resolve,hq,Deferred.ofValue];rw [Sem.run_bind];simp only [Sem.run_pure,Result.andThen_ok,invoke];rw [show (#[]++Array.map a.eval cargs++cs) = #[x] by
       apply Array.ext'; simp [hc0,hx]]
      exact zxc hsm.1 x)
    ·cases h
   cases hgv:cx.gives g <;> rw [hgv] at h
   ·cases hnil:(cx.keep g&&zg6 cargs.toList) <;> rw [hnil] at h
    ·obtain ⟨l,hl,h⟩:=zb h
     have hargs:RVs w σ μ (cargs.toList.map a.eval++cs.toList) (qy (cx.keep g) l++cap):=
      RVs.append' (zfm (zbp hf _ _ _ hl)) hcap
     obtain ⟨oc,δ,fp,hK,⟨fn,hfn,hbody⟩,hcalls⟩:=zmf hcall hi hargs h;refine ⟨oc,δ,fp,hK,λ next Q hk=>?_⟩
     unfold Oper.wp;rw [hrun hfn hbody,Oper.upon_enter];refine hcalls.mono λ e w' ⟨μ',haf,he⟩=>?_;cases oc with
     | val v=>cases e <;> first | exact hk _ _ _ haf he | exact he.elim
     | pan v=>cases e <;> first | exact he.elim | (obtain ⟨x,rfl,hx⟩:=he; exact hk _ _ _ haf hx)
    ·obtain ⟨l,hl,h⟩:=zb h;obtain ⟨hfr,h⟩:=zd h;exact tokd hfr (λ hg haf0=>zmw hi hf haf0 hg _ _ _ hl) h
   ·obtain ⟨l,hl,h⟩:=zb h;obtain ⟨hfr,h⟩:=zd h;exact tokd hfr (λ hg haf0=>zfm ((zbp hf _ _ _ hl).map λ v x _ hv=>haf0.rv hi hv)) h
  ·rename_i hcl;simp only at hcl;subst hcl;split at h
   ·rename_i x t hx ht;obtain ⟨v1,hv1,h⟩:=zb h;obtain ⟨v,fp,h,v',h1,h2⟩:=zzl (ty:=type) hi (x5 hf hv1) h;have e1:cargs = #[x]:=by apply Array.ext'; simpa using hx
    have e2:ctypes = #[t]:=by apply Array.ext'; simpa using ht
    subst e1 e2;exact hval h trivial h2 (by
     simp only [execOp,resolve];rw [Sem.run_bind];simp only [Sem.run_pure,Result.andThen_ok,invoke,builtin];exact wm (by simpa using h1))
   ·cases h
  ·rename_i hcl;simp only at hcl;subst hcl;split at h
   ·rename_i s x t t' hx ht;obtain ⟨v1,hv1,h⟩:=zb h;obtain ⟨v2,hv2,h⟩:=zb h;obtain ⟨ht',h⟩:=zd h;have e1:cargs = #[s,x]:=by apply Array.ext'; simpa using hx
    have e2:ctypes = #[t,t']:=by apply Array.ext'; simpa using ht
    subst e1 e2
    have hexec:∀ {v' w'},(Builtin.append_ #[t,t'] type #[a.eval s,a.eval x]).run cx.P w=.ok v' w' →
      (execOp a.eval ⟨dst,.call ⟨.builtin .append,#[s,x],#[t,t']⟩,type,pos,after,guard⟩).run cx.P w=.ok (.value v') w':=by
     intro v' w' h1;simp only [execOp,resolve];rw [Sem.run_bind];simp only [Sem.run_pure,Result.andThen_ok,invoke,builtin];exact wm (by simpa using h1)
    unfold zdd at h;split at h
    ·rename_i e hu;obtain ⟨sz',ys,hd,h⟩:=zeo h;obtain ⟨hc,h⟩:=zd h;simp only [pq,Bool.or_eq_true,Nat.beq_eq] at hc;obtain ⟨z,hz⟩:=Option.isSome_iff_exists.1 hc.2;have hsz':sz'=cx.P.cellsOf e∨ys=[]:=hc.1.1.imp id λ h=>by simpa using h
     have hby:=p4 hc.1.2;cases hnil:qw s
     ·rw [hnil,p6] at h;split at h
      ·rename_i sz l id;split at h
       ·rename_i n hg;obtain ⟨hc2,h⟩:=zd h;simp only [pq,decide_eq_true_eq] at hc2;obtain ⟨⟨⟨hc3,hcT⟩,hc4⟩,hc5⟩:=hc2;obtain ⟨v',w',lo,h1,h2,h3,h4⟩:=zwj (ty:=type) hi (x5 hf hv1) (x5 hf hv2) hd hu hz ht' hsz' (po hc3) (zuc hcT) hby (hc4 ▸ hg) hc5;exact ⟨_,_,_,h,zbd.of_upd hi _ (hexec h1) h2 h3 h4⟩
       ·cases h
      ·rename_i id sz k;split at h
       ·rename_i l hg;obtain ⟨hc2,hK⟩:=zd h;clear h;simp only [pq,decide_eq_true_eq] at hc2;obtain ⟨⟨hc3,hc4⟩,hc5⟩:=hc2;obtain rfl:=po hc4;obtain ⟨v',w',lo,h1,h2,h3,h4⟩:=zqb (ty:=type) hi (x5 hf hv1) (x5 hf hv2) hd hu hz ht' hsz' (po hc3) hby hg hc5;exact ⟨_,_,_,hK,zbd.of_upd hi _ (hexec h1) h2 h3 h4⟩
       ·cases h
      ·cases h
     ·rw [hnil,p5] at h;obtain ⟨hc2,h⟩:=zd h;simp only [pq,decide_eq_true_eq] at hc2;have hs:a.eval s=.slice none 0 0:=by
       unfold qw at hnil;split at hnil
       ·rfl
       ·cases hnil
      obtain ⟨v',w',lo,h1,h2,h3,h4⟩:=znk (ty:=type) hi (x5 hf hv2) hd hu hz ht' hsz' hby (wc hc2.1.1) hc2.1.2 (by simpa using hc2.2)
      rw [←hs] at h1;exact ⟨_,_,_,h,zbd.of_upd hi _ (hexec h1) h2 h3 h4⟩
    ·cases h
   ·cases h
  ·cases h
end
section
variable {R α:Type} {cx:Cx} {σ:St}
abbrev yu:=Nat→List V→St→Option (Out×St)
theorem zq{β:Type}(o:Option β)(F:β→Option α)(K:α→Option R):za (za o F) K=za o λ x=>za (F x) K:=by cases o <;> rfl
theorem zj(b:Bool)(X:Option α)(K:α→Option R):za (zh b X) K=zh b (za X K):=by cases b <;> rfl
theorem zz(b:Bool)(X Y:Option α)(K:α→Option R):za (bif b then X else Y) K=bif b then za X K else za Y K:=by cases b <;> rfl
theorem zw(K:α→Option R):za none K=none:=rfl
theorem zso(x:α)(K:α→Option R):za (some x) K=K x:=rfl
theorem zr9(v:V)(F:Bool→Option α)(K:α→Option R):za (asB v F) K=asB v λ x=>za (F x) K:=by unfold asB; split <;> rfl
theorem zmt(x:D)(k:IntKind)(F:Int→Option α)(K:α→Option R):za (asInt x k F) K=asInt x k λ x=>za (F x) K:=by unfold asInt; split <;> simp only [zz,zw]
theorem zj3(x:D)(F:Bool→Option α)(K:α→Option R):za (asBool x F) K=asBool x λ x=>za (F x) K:=by unfold asBool; split <;> rfl
theorem zms(x:D)(F:List UInt8→Option α)(K:α→Option R):za (zj2 x F) K=zj2 x λ x=>za (F x) K:=by unfold zj2; split <;> rfl
theorem zo2(x:D)(n:Nat)(F:List D→Option α)(K:α→Option R):za (zr8 x n F) K=zr8 x n λ x=>za (F x) K:=by unfold zr8; split <;> simp only [zz,zw]
theorem zmv(x:D)(n:Nat)(F:D→Option α)(K:α→Option R):za (asAgg x n F) K=asAgg x n λ x=>za (F x) K:=by unfold asAgg; split <;> simp only [zz,zw]
theorem zmu(x:V)(F:D→Option α)(K:α→Option R):za (asD x F) K=asD x λ x=>za (F x) K:=by unfold asD; split <;> rfl
theorem zap(l:List D)(i:Nat)(F:D→Option α)(K:α→Option R):za (vh l i F) K=vh l i λ x=>za (F x) K:=by unfold vh; split <;> rfl
theorem zcg(l:List V)(i:Nat)(F:V→Option α)(K:α→Option R):za (zq5 l i F) K=zq5 l i λ x=>za (F x) K:=by unfold zq5; split <;> rfl
theorem zmq(x:V)(F:List V→Option α)(K:α→Option R):za (zmr x F) K=zmr x λ x=>za (F x) K:=by unfold zmr; split <;> rfl
theorem zqj(l:List V)(F:V→List V→Option α)(K:α→Option R):za (unc l F) K=unc l λ x y=>za (F x y) K:=by unfold unc; split <;> rfl
theorem zqg(l:List V)(F:Option α)(K:α→Option R):za (unn l F) K=unn l (za F K):=by unfold unn; split <;> rfl
theorem zan(P:Program)(t:Nat)(x:D)(F:V→Option α)(K:α→Option R):za (zby P t x F) K=zby P t x λ x=>za (F x) K:=by
 unfold zby;split <;> simp only [zmt,zj3,zms,zo2,zmv,zw];split <;> rfl
theorem zeq(P:Program)(t:Nat)(x:V)(F:V→Option α)(K:α→Option R):za (zb2 P t x F) K=zb2 P t x λ x=>za (F x) K:=by
 unfold zb2;split
 ·exact zan P t _ F K
 ·exact zj _ _ _
theorem zs8(op:BinOp)(k:IntKind)(a b:Int)(F:V→Option α)(K:α→Option R):za (zob op k a b F) K=zob op k a b λ x=>za (F x) K:=by cases op <;> first | rfl | simp only [zob,zj,zw]
theorem zsh(op:BinOp)(a b:List UInt8)(F:V→Option α)(K:α→Option R):za (znn op a b F) K=znn op a b λ x=>za (F x) K:=by cases op <;> first | rfl | simp only [znn,zj,zw]
theorem zo9(op:BinOp)(k:IntKind)(a b:Int)(F:V→Option α)(K:α→Option R):za (zd7 op k a b F) K=zd7 op k a b λ x=>za (F x) K:=by cases op <;> first | rfl | simp only [zd7,zj,zw]
theorem zrx(op:BinOp)(b:Bool)(F:V→Option α)(K:α→Option R):za (eqV op b F) K=eqV op b λ x=>za (F x) K:=by cases op <;> first | rfl | simp only [eqV,zw]
theorem zwh(P:Program)(cst:Bool)(op:BinOp)(t:Nat)(x y:V)(F:V→Option α)(K:α→Option R):za (zwi P cst op t x y F) K=zwi P cst op t x y λ x=>za (F x) K:=by
 unfold zwi;split
 case h_10=>
  simp only [zj];congr 1;split <;> simp only [zrx,zw]
 all_goals first | rfl | simp only [zsh,zj,zrx,zw] | skip
 split <;> simp only [zo9,zs8,zz,zw]
theorem zwy(op:UnOp)(x:V)(F:V→Option α)(K:α→Option R):za (unV op x F) K=unV op x λ x=>za (F x) K:=by unfold unV; split <;> rfl
theorem zj0(x:V)(F:Nat→List D→Option α)(K:α→Option R):za (dataOf x F) K=dataOf x λ a b=>za (F a b) K:=by unfold dataOf; split <;> rfl
theorem zl8(x:V)(F:Nat→List D→Option α)(K:α→Option R):za (zjz x F) K=zjz x λ a b=>za (F a b) K:=by unfold zjz; split <;> rfl
theorem zts(P:Program)(s d:Nat)(x:V)(F:V→Option α)(K:α→Option R):za (zox P s d x F) K=zox P s d x λ x=>za (F x) K:=by
 unfold zox;split <;> try rfl
 split <;> simp only [zl8,zj,zw];congr 1; funext a b; congr 1;split <;> rfl
theorem zml(v:Option V)(y d:Nat)(F:Nat→Option α)(K:α→Option R):za (bound v y d F) K=bound v y d λ x=>za (F x) K:=by unfold bound; split <;> simp only [zj,zw]
theorem zg5(v:V)(n:Nat)(F:Nat→Option α)(K:α→Option R):za (index v n F) K=index v n λ x=>za (F x) K:=by unfold index; split <;> simp only [zj,zw]
theorem zvc(fr:Fr)(x:Option Operand)(F:Option V→Option α)(K:α→Option R):za (zec fr x F) K=zec fr x λ x=>za (F x) K:=by unfold zec; split <;> simp only [zq]
theorem zd4(x:D):∀ (n off:Nat) (F:List D→Option α) (K:α→Option R),za (zc4 x off n F) K=zc4 x off n λ x=>za (F x) K
 | 0,off,F,K=>rfl
 | n+1,off,F,K=>by simp only [zc4,zap,zd4 x n]
theorem zs5(t:Nat)(p:V)(F:V→List Nat→Option α)(K:α→Option R):za (zcv cx σ t p F) K=zcv cx σ t p λ a b=>za (F a b) K:=by
 unfold zcv;rw [zj];congr 1;split
 ·split <;> simp only [zz,zeq,zan,zj,zcg,zap,zw]
 ·simp only [zz,zd4,zan,zj,zcg,zap,zw]
 ·split <;> simp only [zz,zd4,zan,zj,zcg,zap,zw]
 ·simp only [zq,zz,zmv,zan,zj,zcg,zap,zw]
 ·rfl
theorem zff(t:Nat)(p v:V)(F:De→List Nat→Option α)(K:α→Option R):za (qi cx σ t p v F) K=qi cx σ t p v λ a b=>za (F a b) K:=by
 unfold qi;split <;> try rfl
 all_goals (split <;> simp only [zq,zz,zj,zw])
theorem zm6(site t:Nat)(p:V)(F:De→List Nat→Option α)(K:α→Option R):za (zbv cx σ site t p F) K=zbv cx σ site t p λ a b=>za (F a b) K:=by
 unfold zbv;split
 ·rw [zj,zff]
 ·rfl
theorem zid(P:Program):∀ (ts:List Nat) (vs:List V) (F:List V→Option α) (K:α→Option R),za (zer P ts vs F) K=zer P ts vs λ x=>za (F x) K
 | [],vs,F,K=>by simp only [zer,zqg]
 | t::ts,vs,F,K=>by
  simp only [zer,zqj,zeq];congr 1; funext v r; congr 1; funext u;exact zid P ts r _ K
theorem zp6(P:Program)(t:Nat)(v:V)(F:V→Option α)(K:α→Option R):za (zes P t v F) K=zes P t v λ x=>za (F x) K:=by
 unfold zes;split
 ·split <;> simp only [zmq,zid]
 ·exact zeq P t v F K
theorem zlg(o x:V)(F:V→Option α)(K:α→Option R):za (zlh o x F) K=zlh o x λ x=>za (F x) K:=by
 unfold zlh;split <;> simp only [zmu,zmt,zj3,zms,zo2];split <;> simp only [zz,zw]
theorem zli:∀ (os vs:List V) (F:List V→Option α) (K:α→Option R),za (zlj os vs F) K=zlj os vs λ x=>za (F x) K
 | [],vs,F,K=>by simp only [zlj,zqg]
 | o::os,vs,F,K=>by
  simp only [zlj,zqj,zlg];congr 1; funext v r; congr 1; funext u;exact zli os r _ K
theorem zs6(o x:Ob)(F:Ob→Option α)(K:α→Option R):za (zn6 o x F) K=zn6 o x λ x=>za (F x) K:=by
 unfold zn6;split
 ·rw [zj];congr 1;split
  ·exact zli _ _ _ K
  ·rfl
 ·rw [zj,zlg]
 ·rfl
theorem zj1(ren:List Nat)(σ':St):∀ (l:List Nat) (k:Nat) (F:De→Option α) (K:α→Option R),za (qu ren σ σ' k l F) K=qu ren σ σ' k l λ x=>za (F x) K
 | [],k,F,K=>rfl
 | i::l,k,F,K=>by
  simp only [qu,zq,zs6];congr 1; funext a; congr 1; funext b; congr 1; funext c;exact zj1 ren σ' l (k+1) _ K
theorem zhc(call:yu)(t f:Nat)(args:List V)(xs:List Nat)(F:Oc→De→List Nat→Option α)(K:α→Option R):za (vi cx call σ t f args xs F) K=vi cx call σ t f args xs λ a b c=>za (F a b c) K:=by
 unfold vi;simp only [zj];congr 1;congr 1;split <;> simp only [zj1,zp6,zw]
end
section
variable {R:Type} {cx:Cx} {w:World} {σ:St} {μ:Mu}
def ze2(w:World)(σ:St)(μ:Mu):Ex→Exit→Prop
 | .normal,.normal=>True
 | .ret,.ret=>True
 | .exit i,.exit j=>i=j
 | .goto i,.goto j=>i=j
 | .pan v,.panic chain=>∃ x,chain=[{ v:=x,recovered:=false }]∧RV w σ μ x v
 | _,_=>False
structure Now (cx:Cx) (nt:Nat) (ds:List Deferred) (w₀:World) (σ₀:St) (μ₀:Mu) (a:Act) (w:World) (σ:St) (μ:Mu) (fr:Fr):Prop where
 after:After cx w₀ σ₀ μ₀ w σ μ
 fr:FR w σ μ a.tmps fr
 size:nt≤a.tmps.size
 defers:a.defers=ds
def y9(fr fr':Fr):Prop:=∀ t,zf fr' t=zf fr t
theorem FR.same{tmps:Array Value}{fr fr':Fr}(h:FR w σ μ tmps fr)(hs:y9 fr fr'):FR w σ μ tmps fr':=λ t v ht=>h t v (by rw [←hs t]; exact ht)
theorem y9.refl(fr:Fr):y9 fr fr:=λ _=>rfl
theorem y9.dup{fr:Fr}{t:Nat}{v:V}(h:zf fr t=some v):y9 fr ((t,v)::fr):=by
 intro t';simp only [zf];cases hb:Nat.beq t t'
 ·rfl
 ·obtain rfl:=po hb;exact h.symm
theorem RV.bool_of{v:V}{b:Bool}(h:RV w σ μ (.bool b) v):v=.d (.bool b):=by
 cases h with
 | d _ x hd=>cases hd; rfl
 | sl _ sz l id n hd=>cases hd
theorem zzt{tmps:Array Value}{t:Nat}{v:Value}(h:tmps[t]?=some v):tmps.getD t undef=v:=by
 simp [Array.getD_eq_getD_getElem?,h]
theorem zza{tmps:Array Value}{t:Nat}{b:Bool}(h:tmps.getD t undef=.bool b):tmps[t]?=some (.bool b):=by
 cases hg:tmps[t]? with
 | none=>simp [Array.getD_eq_getD_getElem?,hg,undef] at h
 | some v=>simp [Array.getD_eq_getD_getElem?,hg] at h; rw [h]
def ze8(ops:List Oper)(o:Oper)(fr:Fr):Option Bool:=
 match o.guard with
 | none=>some true
 | some (j,want)=>
  match zkq ops j with
  | none=>some false
  | some t=>
   match zf fr t with
   | some (.d (.bool b))=>some (b == want)
   | some _=>some false
   | none=>none
theorem zju{ops:List Oper}{o:Oper}{fr:Fr}{yes no:Fr→Option R}{r:R}(h:zak ops o fr yes no=some r) :
  ∃ fr',y9 fr fr'∧((ze8 ops o fr=some true∧yes fr'=some r)∨(ze8 ops o fr=some false∧no fr'=some r)):=by
 unfold zak at h;unfold ze8;split at h
 ·exact ⟨fr,y9.refl fr,.inl ⟨by simp [*],h⟩⟩
 ·rename_i j want hg;simp only [hg];split at h
  ·exact ⟨fr,y9.refl fr,.inr ⟨by simp [*],h⟩⟩
  ·rename_i t ht;simp only [ht];split at h
   ·rename_i b hb;cases b <;> cases want <;> simp only [p5,p6] at h
    ·exact ⟨_,y9.dup hb,.inl ⟨by simp [hb],h⟩⟩
    ·exact ⟨_,y9.dup hb,.inr ⟨by simp [hb],h⟩⟩
    ·exact ⟨_,y9.dup hb,.inr ⟨by simp [hb],h⟩⟩
    ·exact ⟨_,y9.dup hb,.inl ⟨by simp [hb],h⟩⟩
   ·rename_i x hn hx;refine ⟨fr,y9.refl fr,.inr ⟨?_,h⟩⟩;rw [hx];split
    ·rename_i b hb; exact (hn _ (Option.some.inj hb)).elim
    ·rfl
    ·rename_i hb; cases hb
   ·cases h
theorem zqu{ops:List Oper}{arr:Array Oper}(h:arr.toList=ops)(j:Nat):(arr[j]?).bind (·.dst)=zkq ops j:=by
 unfold zkq;rw [←h,Array.getElem?_toList];cases arr[j]? <;> rfl
theorem zbt{ops:List Oper}{arr:Array Oper}(harr:arr.toList=ops){o:Oper}{fr:Fr}{tmps:Array Value}(hf:FR w σ μ tmps fr){b:Bool}(h:ze8 ops o fr=some b) :
  Region.wanted o (yielded arr tmps)=b:=by
 unfold ze8 at h;unfold Region.wanted;split at h
 ·rename_i hg; simp only [hg]; cases h; rfl
 ·rename_i j want hg;simp only [hg,yielded,zqu harr];split at h
  ·rename_i ht; cases h; simp [ht]
  ·rename_i t ht;simp only [ht,Option.bind_some];split at h
   ·rename_i c hb;cases h;have hr:=hf t _ hb;have:tmps[t]?=some (.bool c):=by
     cases hr':tmps.getD t undef <;> rw [hr'] at hr
     case bool c'=>
      have:=hr.bool_of; cases this;exact zza hr'
     all_goals (cases hr with | d _ _ hd=>cases hd)
    rw [this];cases c <;> cases want <;> rfl
   ·rename_i x hn hx;cases h;have hr:=hf t _ hx;cases hq:tmps[t]? with
    | none=>simp
    | some q=>
     rw [zzt hq] at hr;cases q <;> first | rfl | skip
     have:=hr.bool_of;subst this;exact (hn _ rfl).elim
   ·cases h
theorem zja{fr:Fr}{dst:Option Nat}{v:V}{t:Nat}:zf (zc1 fr dst v) t=if dst=some t then some v else zf fr t:=by
 cases dst with
 | none=>simp [zc1]
 | some d=>
  simp only [zc1,zf];by_cases h:d=t
  ·subst h; simp
  ·simp [h,zif h]
theorem FR.put{nt:Nat}{a:Act}{fr:Fr}(h:FR w σ μ a.tmps fr){dst:Option Nat}(hd:zjx nt dst=true)(hs:nt≤a.tmps.size){v':Value}{v:V}(hv:RV w σ μ v' v) :
  FR w σ μ (a.put dst v').tmps (zc1 fr dst v):=by
 intro t u ht;rw [zja] at ht;cases dst with
 | none=>exact h t u (by simpa using ht)
 | some d=>
  have hlt:d<a.tmps.size:=Nat.lt_of_lt_of_le (p4 hd) hs;by_cases he:d=t
  ·subst he;simp at ht; subst ht;simpa [Act.put,Array.getD_eq_getD_getElem?,hlt] using hv
  ·simp [he] at ht;have:=h t u ht;simpa [Act.put,Array.getD_eq_getD_getElem?,Array.getElem?_setIfInBounds_ne he] using this
theorem va(a:Act)(dst:Option Nat)(v:Value):(a.put dst v).tmps.size=a.tmps.size:=by cases dst <;> simp [Act.put]
theorem x9(a:Act)(dst:Option Nat)(v:Value):(a.put dst v).defers=a.defers:=by cases dst <;> rfl
theorem zkp:RV w σ μ undef wa:=.tup #[] [] rfl (by simp)
theorem FR.nil{tmps:Array Value}:FR w σ μ tmps []:=λ _ _ h=>by cases h
variable {nt:Nat} {ds:List Deferred} {w₀:World} {σ₀:St} {μ₀:Mu}
theorem zeh{m:Nat}{call:Nat→List V→St→Option (Out×St)}(hcall:vu cx call)(hn:y4 cx.P){arr:Array Oper}{tl:List Oper}{K:Ex→Fr→St→Option R}{r:R}
  {Q:Exit→Act→World→Prop}
  (hend:∀ fr σ,K .normal fr σ=some r→∀ a w μ,Now cx nt ds w₀ σ₀ μ₀ a w σ μ fr→∀ i,arr.toList.drop i=tl→wpOps cx.P arr Q ((List.range arr.size).drop i) a w)
  (hQ:∀ v fr σ,K (.pan v) fr σ=some r→∀ x a w μ,ze2 w σ μ (.pan v) x→Now cx nt ds w₀ σ₀ μ₀ a w σ μ fr→Q x a w) :
  ∀ (l:List Oper) (i:Nat),arr.toList.drop i=l++tl→∀ (fr:Fr) (σ:St),qz cx m nt call arr.toList l fr σ K=some r →
   ∀ a w μ,Now cx nt ds w₀ σ₀ μ₀ a w σ μ fr→wpOps cx.P arr Q ((List.range arr.size).drop i) a w:=by
 intro l
 induction l with
 | nil=>
  intro i hi fr σ h a w μ hnow;exact hend _ _ h _ _ _ hnow i hi
 | cons o l ih=>
  intro i hi fr σ h a w μ hnow;have hlt:i<arr.size:=by
   have:=congrArg List.length hi;simp at this; omega
  have ho:arr[i]?=some o:=by
   have:=congrArg (·[0]?) hi;simpa using this
  have hrest:arr.toList.drop (i+1)=l++tl:=by
   rw [←List.drop_drop,hi]; rfl
  have hdrop:(List.range arr.size).drop i=i::(List.range arr.size).drop (i+1):=by
   rw [List.drop_eq_getElem_cons (by simpa using hlt)]; simp
  rw [hdrop];simp only [wpOps,ho];unfold qz at h;obtain ⟨hd,h⟩:=zd h;obtain ⟨fr',hs,h⟩:=zju h;have hf':=hnow.fr.same hs;rcases h with ⟨hw,h⟩ | ⟨hw,h⟩
  ·rw [zbt rfl hnow.fr hw,if_pos rfl];left;obtain ⟨p,hp,h⟩:=zb h;obtain ⟨oc,δ,fp,hK0,hok⟩:=zh5 hcall hn hnow.after.inv hf' hp;cases hK0;have hK:=h;refine hok _ _ ?_;cases oc with
   | val v=>
    intro v' w' μ' haf hv;refine ih (i+1) hrest _ _ hK _ _ μ' ⟨hnow.after.trans haf,FR.put (haf.frs hnow.after.inv hf') hd hnow.size hv,?_,?_⟩
    ·rw [va]; exact hnow.size
    ·rw [x9]; exact hnow.defers
   | pan v=>
    intro x w' μ' haf hv;exact hQ _ _ _ hK _ _ _ μ' ⟨x,rfl,hv⟩ ⟨hnow.after.trans haf,haf.frs hnow.after.inv hf',hnow.size,hnow.defers⟩
  ·rw [zbt rfl hnow.fr hw];simp only [Bool.false_eq_true,if_false];refine ih (i+1) hrest _ _ h _ _ μ ⟨hnow.after,FR.put hf' hd hnow.size zkp,?_,?_⟩
   ·rw [va]; exact hnow.size
   ·rw [x9]; exact hnow.defers
theorem zrv{m:Nat}{call:Nat→List V→St→Option (Out×St)}(hcall:vu cx call)(hn:y4 cx.P){arr:Array Oper}{K:Ex→Fr→St→Option R}{r:R}
  {Q:Exit→Act→World→Prop}
  (hQ:∀ e fr σ,K e fr σ=some r→∀ x a w μ,ze2 w σ μ e x→Now cx nt ds w₀ σ₀ μ₀ a w σ μ fr→Q x a w) :
  ∀ (l:List Oper) (i:Nat),arr.toList.drop i=l→∀ (fr:Fr) (σ:St),qz cx m nt call arr.toList l fr σ K=some r →
   ∀ a w μ,Now cx nt ds w₀ σ₀ μ₀ a w σ μ fr→wpOps cx.P arr Q ((List.range arr.size).drop i) a w:=by
 intro l i hi;refine zeh hcall hn (tl:=[]) (λ fr σ h a w μ hnow i hi=>?_) (λ v=>hQ (.pan v)) l i (by rw [hi,List.append_nil])
 have:arr.size≤i:=by have:=congrArg List.length hi; simp at this; omega
 rw [List.drop_eq_nil_of_le (by simpa using this)]
 exact hQ _ _ _ h _ _ _ _ trivial hnow
end
section
variable {R:Type} {cx:Cx} {w:World} {σ:St} {μ:Mu} {nt:Nat} {ds:List Deferred} {w₀:World} {σ₀:St} {μ₀:Mu}
theorem znv{y:Operand}{a:Nat}(h:zvd y a=true):y=.tmp a:=by
 unfold zvd at h;split at h
 ·rw [po h]
 ·cases h
theorem zed{y:Operand}{a:Nat}(h:zb1 y a=true)(c:Act)(v:Value):(c.put (some a) v).eval y=c.eval y:=by
 unfold zb1 at h;split at h
 ·rename_i b;have hne:b ≠ a:=by
   intro e;subst e;simp at h
  simp only [Act.eval,Act.put];simp [Array.getD_eq_getD_getElem?,Array.getElem?_setIfInBounds_ne (Ne.symm hne)]
 ·cases y <;> first | rfl | (rename_i hn; exact (hn _ rfl).elim)
theorem zfj{o i s:Oper}{q:Pend}(h:zi1 o i s=some q) :
  ∃ ty1 p1 f1 ty2 p2 f2 ty3 p3 f3,o=⟨some q.a,.call ⟨.builtin .append,#[q.sv,q.pv],#[q.t,q.t2]⟩,ty1,p1,f1,none⟩∧i=⟨some q.p,.indexAddr q.t (.tmp q.a) q.j,ty2,p2,f2,none⟩ ∧
   s=⟨none,.store q.e (.tmp q.p) q.x,ty3,p3,f3,none⟩∧zb1 q.j q.a=true∧zb1 q.x q.a=true∧zb1 q.x q.p=true∧q.a ≠ q.p:=by
 obtain ⟨d1,op1,ty1,p1,f1,g1⟩:=o;obtain ⟨d2,op2,ty2,p2,f2,g2⟩:=i;obtain ⟨d3,op3,ty3,p3,f3,g3⟩:=s;unfold zi1 at h;split at h
 ·rename_i c t' y j e q' x h1 h2 h3;simp only at h1 h2 h3;subst h1 h2 h3;split at h
  ·rename_i sv pv t t2 a p hc ha hty hd1 hd2;simp only at hd1 hd2;subst hd1 hd2;cases hb:(zvd y a&&zvd q' p&&zb1 j a&&zb1 x a&&zb1 x p&&!Nat.beq a p&&Nat.beq t' t&&g1.isNone&&g2.isNone&&g3.isNone&&d3.isNone) <;> simp only [hb] at h
   ·cases h
   ·cases h;simp only [pq,Bool.not_eq_true',Option.isNone_iff_eq_none] at hb;obtain ⟨⟨⟨⟨⟨⟨⟨⟨⟨⟨k1,k2⟩,k3⟩,k4⟩,k5⟩,k6⟩,k7⟩,k8⟩,k9⟩,k10⟩,k11⟩:=hb;subst k8 k9 k10 k11;have k7:=po k7;subst k7;obtain rfl:=znv k1;obtain rfl:=znv k2;obtain ⟨callee,cargs,ctys⟩:=c;simp only at hc ha hty;subst hc;have e1:cargs = #[sv,pv]:=by apply Array.ext'; simpa using ha
    have e2:ctys = #[t',t2]:=by apply Array.ext'; simpa using hty
    subst e1 e2;exact ⟨_,_,_,_,_,_,_,_,_,rfl,rfl,rfl,k3,k4,k5,λ e=>by have e':a=p:=e; subst e'; simp at k6⟩
  ·cases h
 ·cases h
theorem zq6{P:Program}{t:Nat}(h:zxi P t=true):(match P.underlying t with | some (.int _)=>false | some _=>true | none=>false)=true:=h
theorem zq0(hi:Inv cx w σ μ){a:Act}{fr:Fr}(hf:FR w σ μ a.tmps fr)(hs:nt≤a.tmps.size){q:Pend}{K:Fr→St→Option R}{r:R}{o i s:Oper}(hq:zi1 o i s=some q)(h:zc6 cx nt σ fr q K=some r) :
  ∃ fr' σ',K fr' σ'=some r∧∃ v1 v2 w1 w' μ',(execOp a.eval o).run cx.P w=.ok (.value v1) w1∧(execOp (a.put o.dst v1).eval i).run cx.P w1=.ok (.value v2) w1 ∧
   (execOp ((a.put o.dst v1).put i.dst v2).eval s).run cx.P w1=.ok .skip w'∧After cx w σ μ w' σ' μ'∧FR w' σ' μ' (((a.put o.dst v1).put i.dst v2).put s.dst undef).tmps fr' ∧
   (∀ w2,(execOp (a.put o.dst v1).eval i).run cx.P w2=.ok (.value v2) w2)∧∃ b ncs id n,zf σ' id=some (.tok n)∧(μ' id).blk=some b∧w'=w1.setRow b ncs ∧
    ∀ w2:World,w2.heap[b]?=w1.heap[b]?→(execOp ((a.put o.dst v1).put i.dst v2).eval s).run cx.P w2=.ok .skip (w2.setRow b ncs):=by
 obtain ⟨ty1,p1,f1,ty2,p2,f2,ty3,p3,f3,rfl,rfl,rfl,hj,hx1,hx2,hap⟩:=zfj hq;unfold zc6 at h;obtain ⟨hlt,h0⟩:=zd h;clear h;rw [pq] at hlt;split at h0
 case h_2=>cases h0
 rename_i e hu;obtain ⟨hc,h1⟩:=zd h0;clear h0;simp only [pq] at hc;obtain ⟨⟨⟨⟨he,hty⟩,hby⟩,hz⟩,hni⟩:=hc;have he:=po he;subst he;obtain ⟨z,hz⟩:=Option.isSome_iff_exists.1 hz;obtain ⟨sv,hsv,h2⟩:=zb h1;clear h1;obtain ⟨pl,hpl,h3⟩:=zb h2;clear h2;obtain ⟨jv,hjv,h4⟩:=zb h3;clear h3;obtain ⟨v,hv,h5⟩:=zb h4;clear h4;obtain ⟨y,hy,h6⟩:=zb h5;clear h5;split at h6
 case h_2=>cases h6
 rename_i sz l id k n;split at h6
 case h_2=>cases h6
 rename_i kk hid;obtain ⟨hc,h7⟩:=zd h6;clear h6;simp only [pq,decide_eq_true_eq,Bool.not_eq_true'] at hc;obtain ⟨⟨⟨⟨⟨⟨hsz,hT⟩,hkk⟩,hn⟩,hle⟩,hyc⟩,htup⟩:=hc;have hsz:=po hsz;have hyc:=po hyc;subst hkk hn;obtain ⟨sz',ps,hd,h8⟩:=zeo h7;clear h7;obtain ⟨hc,h⟩:=zd h8;clear h8;rw [pq] at hc;have hsz':=po hc.1;have hps:=po hc.2;have rs:=x5 (t:=q.t) hf hsv;have rp:=x5 (t:=q.t2) hf hpl;have rj:=xg hf hjv;have rv:=x5 (t:=q.e) hf hv;have hyr:=zdw rv hy;have hcells:=V.cells_ok (RV.d _ _ hyr);have hvd:RDs w (zp σ μ) (a.eval q.x).cells.toList y.cells:=by
  have:(V.d y).cells=y.cells.map .d:=by cases y <;> rfl
  rw [this] at hcells;exact hcells.rd
 have hone:=V.cells_one (RV.d _ _ hyr) rfl;obtain ⟨b,oo,cap,w1,w',lo,g1,g2,g3,g4,g5,g6,ncs,g7,g8⟩:=zzv (ty:=ty1) hi rs rp hd hps hvd hone hyc hu hz (zq6 hni) (.inl hsz') hsz (zuc hT) (p4 hby) hid hle;have haf:=g3.after hi g4;have hjint:a.eval q.j=.int k (l.length:Int):=rj.int_inv;have hidx:∀ w2:World,(execOp (a.put (some q.a) (.slice (some ⟨b,oo,none⟩) (l.length+1) cap)).eval ⟨some q.p,.indexAddr q.t (.tmp q.a) q.j,ty2,p2,f2,none⟩).run cx.P w2=.ok (.value (.pointer (some ⟨b,oo+l.length * cx.P.cellsOf q.e,none⟩))) w2:=by
  intro w2;simp only [execOp];refine wm ?_;rw [zed hj,hjint];have hsl:(a.put (some q.a) (.slice (some ⟨b,oo,none⟩) (l.length+1) cap)).eval (.tmp q.a)=.slice (some ⟨b,oo,none⟩) (l.length+1) cap:=by
   have:q.a<a.tmps.size:=Nat.lt_of_lt_of_le (p4 hlt.1) hs;simp [Act.eval,Act.put,Array.getD_eq_getD_getElem?,this]
  rw [hsl];have:=run_indexAt_slice (w:=w2) (k:=k) (i:=(l.length:Int)) (b:=b) (o:=oo) (n:=l.length+1) (cap:=cap) hu (by omega) (by omega) (wz hty)
  simpa using this
 have hput:∀ w2 w3:World,(storeCells ⟨b,oo+l.length * cx.P.cellsOf q.e,none⟩ (a.eval q.x).cells.toList).run cx.P w2=.ok () w3 →
   (execOp ((a.put (some q.a) (.slice (some ⟨b,oo,none⟩) (l.length+1) cap)).put (some q.p) (.pointer (some ⟨b,oo+l.length * cx.P.cellsOf q.e,none⟩))).eval ⟨none,.store q.e (.tmp q.p) q.x,ty3,p3,f3,none⟩).run cx.P w2=.ok .skip w3:=by
  intro w2 w3 hst;simp only [execOp];refine zqx ?_;rw [zed hx2,zed hx1];have hpp:((a.put (some q.a) (.slice (some ⟨b,oo,none⟩) (l.length+1) cap)).put (some q.p) (.pointer (some ⟨b,oo+l.length * cx.P.cellsOf q.e,none⟩))).eval (.tmp q.p)=.pointer (some ⟨b,oo+l.length * cx.P.cellsOf q.e,none⟩):=by
   have:q.p<a.tmps.size:=Nat.lt_of_lt_of_le (p4 hlt.2) hs;simp [Act.eval,Act.put,Array.getD_eq_getD_getElem?,this]
  rw [hpp];obtain ⟨dd,hdd⟩:=qk hty;unfold Instr.storeAt Instr.sureAddr storeVar;have hcs:(a.eval q.x).cells.size=cx.P.cellsOf q.e:=by have:=hvd.1; simp at this; omega
  simp [run_sizeOf hdd,hcs,hst]
 refine ⟨_,_,h,.slice (some ⟨b,oo,none⟩) (l.length+1) cap,.pointer (some ⟨b,oo+l.length * cx.P.cellsOf q.e,none⟩),w1,w',_,?_,hidx w1,hput w1 w' g2,haf,?_,hidx,
  b,ncs,id,l.length+1,by simp [zk],by simp [setMu,g6],g7,λ w2 h2=>hput w2 _ (g8 w2 h2)⟩
 ·simp only [execOp,resolve,invoke,builtin];simp [Sem.run_bind,g1]
 ·have hptr:RV w' (vx σ id (.tok (l.length+1))) (setMu μ id lo) (.pointer (some ⟨b,oo+l.length * cx.P.cellsOf q.e,none⟩)) (.eptr y 0):=by
   have hrd:=g5.slD;rw [hsz] at hrd;obtain ⟨b',o',n',cap',xs,he,_,hyl,hc1,hr1⟩:=hrd.slot (j:=l.length) (y:=y) (by simp)
   cases he;exact .eptr y b _ 0 xs (λ k hk=>hc1 k (by omega)) hr1
  exact FR.put (dst:=some q.p) (a:=a.put (some q.a) (.slice (some ⟨b,oo,none⟩) (l.length+1) cap)) (FR.put (dst:=some q.a) (haf.frs hi hf) hlt.1 hs g5) hlt.2 (by rw [va]; exact hs) hptr
theorem zws{P:Program}{arr:Array Oper}{Q:Exit→Act→World→Prop}{k:Nat}{o i s:Oper}{l:List Oper}{a:Act}{w w1 w':World}{v1 v2:Value}(hdrop:arr.toList.drop k=o::i::s::l)
  (hg:o.guard=none∧i.guard=none∧s.guard=none) (h1:(execOp a.eval o).run P w=.ok (.value v1) w1) (h2:(execOp (a.put o.dst v1).eval i).run P w1=.ok (.value v2) w1)
  (h3:(execOp ((a.put o.dst v1).put i.dst v2).eval s).run P w1=.ok .skip w') (h:wpOps P arr Q ((List.range arr.size).drop (k+3)) (((a.put o.dst v1).put i.dst v2).put s.dst undef) w') :
  wpOps P arr Q ((List.range arr.size).drop k) a w:=by
 have hlen:k+3≤arr.size:=by have:=congrArg List.length hdrop; simp at this; omega
 have ho:arr[k]?=some o:=by have:=congrArg (·[0]?) hdrop; simpa using this
 have hi:arr[k+1]?=some i:=by have:=congrArg (·[1]?) hdrop; simpa using this
 have hs:arr[k+2]?=some s:=by have:=congrArg (·[2]?) hdrop; simpa using this
 have hd:(List.range arr.size).drop k=k::(k+1)::(k+2)::(List.range arr.size).drop (k+3):=by
  rw [List.drop_eq_getElem_cons (by simp; omega),List.drop_eq_getElem_cons (by simp; omega),List.drop_eq_getElem_cons (by simp; omega)]
  simp
 rw [hd];simp only [wpOps,ho,hi,hs];rw [if_pos (by simp [Region.wanted,hg.1])]
 left;unfold Oper.wp;rw [h1,Oper.upon_value,if_pos (by simp [Region.wanted,hg.2.1])]
 left;rw [h2,Oper.upon_value,if_pos (by simp [Region.wanted,hg.2.2])]
 left;rw [h3,Oper.upon_skip];exact h
theorem zna{o i s:Oper}{q:Pend}(h:zi1 o i s=some q):o.guard=none∧i.guard=none∧s.guard=none:=by
 obtain ⟨ty1,p1,f1,ty2,p2,f2,ty3,p3,f3,rfl,rfl,rfl,_⟩:=zfj h;exact ⟨rfl,rfl,rfl⟩
theorem znp(a:Act)(x y z:Option Nat)(u v t:Value):(((a.put x u).put y v).put z t).tmps.size=a.tmps.size∧(((a.put x u).put y v).put z t).defers=a.defers:=by
 rw [va,va,va,x9,x9,x9];exact ⟨rfl,rfl⟩
theorem zvw{arr:Array Oper}{Q:Exit→Act→World→Prop}{k:Nat}{fr:Fr}{K:List Oper→Fr→St→Option R}{r:R}(h:zal cx nt arr.toList k fr σ K=some r){a:Act}(hnow:Now cx nt ds w₀ σ₀ μ₀ a w σ μ fr)
  (hnext:∀ l fr' σ',K l fr' σ'=some r→arr.toList.drop (k+3)=l→∀ a w μ,Now cx nt ds w₀ σ₀ μ₀ a w σ' μ fr'→wpOps cx.P arr Q ((List.range arr.size).drop (k+3)) a w) :
  wpOps cx.P arr Q ((List.range arr.size).drop k) a w:=by
 unfold zal at h;split at h
 case h_2=>cases h
 rename_i o i s l hdrop;obtain ⟨q,hq,h⟩:=zb h;obtain ⟨fr',σ',hK,v1,v2,w1,w',μ',g1,g2,g3,haf,hf,_⟩:=zq0 hnow.after.inv hnow.fr hnow.size hq h;refine zws hdrop (zna hq) g1 g2 g3 (hnext l fr' σ' hK ?_ _ _ μ' ⟨hnow.after.trans haf,hf,?_,?_⟩)
 ·rw [←List.drop_drop,hdrop]; rfl
 ·rw [(znp ..).1]; exact hnow.size
 ·rw [(znp ..).2]; exact hnow.defers
end
section
variable {R:Type} {cx:Cx} {σ σ':St}
theorem za3{P:Program}{t:Nat}{fr fr':Fr}{x:Operand}(h:opd fr' x=opd fr x):zct P t fr' x=zct P t fr x:=by
 unfold zct;split
 ·rfl
 ·exact h
theorem zpe{P:Program}{t:Nat}{fr fr':Fr}:∀ {ps:List (Nat×Operand)},(∀ p∈ps,opd fr' p.2=opd fr p.2)→zh0 P fr' t ps=zh0 P fr t ps
 | [],_=>rfl
 | (i,x)::ps,h=>by
  simp only [zh0];rw [za3 (h (i,x) py),zpe λ p hp=>h p (p0 _ hp)]
theorem zgh{P:Program}{fr fr':Fr}:∀ {xs:List Operand} {ts:List Nat},(∀ x∈xs,opd fr' x=opd fr x)→vq P fr' xs ts=vq P fr xs ts
 | [],_,_=>rfl
 | x::xs,ts,h=>by
  simp only [vq];rw [za3 (h x py),zgh λ p hp=>h p (p0 _ hp)]
theorem zmx{P:Program}{fr fr':Fr}{id:Nat}:∀ {xs:List Operand} {ts:List Nat},(∀ x∈xs,opd fr' x=opd fr x)→zab P fr' id xs ts=zab P fr id xs ts
 | [],_,_=>rfl
 | x::xs,ts,h=>by
  have e:=zmx (P:=P) (id:=id) (ts:=ts.tail) λ p hp=>h p (p0 _ hp);have e2:=h x py;simp only [zab];rw [e];cases zab P fr id xs ts.tail with
  | none=>rfl
  | some l=>
   simp only;split
   ·rfl
   ·rw [e2]
theorem zpf{fr fr':Fr}{x:Option Operand}(h:∀ y∈x,opd fr' y=opd fr y){K:Option V→Option R}:zec fr' x K=zec fr x K:=by
 cases x with
 | none=>rfl
 | some x=>simp only [zec,h x rfl]
theorem zuq{m nt : Nat}{call : Nat → List V → St → Option (Out × St)}{o : Oper}{fr fr' : Fr}(h : ∀ x ∈ o.op.operands, opd fr' x = opd fr x){K : Oc → De → List Nat → Option R} :
    xo cx m nt call o fr' σ K = xo cx m nt call o fr σ K := by
  obtain ⟨dst, op, type, pos, after, guard⟩ := o;cases op <;> simp only [Op.operands] at h
  case move x | assign x =>
    simp only [xo];split
    · rfl
    · rw [h x (by simp)]
  case makeFunc fn first caps =>
    cases fn <;> simp only [xo];rw [zgh λ x hx => h x (by simp at hx; simp [hx]), zgh λ x hx => h x (by simp at hx; simp [hx])]
  case makeMap t r => cases r <;> simp only [xo]
  case makeSlice t n c => simp only [xo]; rw [h n (by simp), h c (by simp)]
  case lookup t x i ok => simp only [xo]; rw [h x (by simp), h i (by simp)]
  case mapUpdate t mm k x | insert t mm k x => simp only [xo]; rw [h mm (by simp), h k (by simp), za3 (h x (by simp))]
  case build t ps => simp only [xo]; rw [zpe λ p hp => h p.2 (by simp; exact ⟨p.1, by simpa using hp⟩)]
  case buildSlice t n ps => simp only [xo]; rw [zpe λ p hp => h p.2 (by simp; exact ⟨p.1, by simpa using hp⟩)]
  case box t x => simp only [xo]; rw [za3 (h x (by simp))]
  case store t p x => simp only [xo]; rw [h p (by simp), za3 (h x (by simp))]
  case binOp op t x y u => simp only [xo]; rw [za3 (h x (by simp)), za3 (h y (by simp))]
  case convert s t x => simp only [xo]; rw [za3 (h x (by simp))]
  case makeInterface t x => simp only [xo]; rw [za3 (h x (by simp))]
  case slice t x lo hi mx =>
    simp only [xo];have e1 : ∀ {K : Option V → Option R}, zec fr' lo K = zec fr lo K := zpf λ y hy => h y (by cases hy; simp)
    have e2 : ∀ {K : Option V → Option R}, zec fr' hi K = zec fr hi K := zpf λ y hy => h y (by cases hy; simp)
    have e3 : ∀ {K : Option V → Option R}, zec fr' mx K = zec fr mx K := zpf λ y hy => h y (by cases hy; simp)
    simp only [za3 (h x (by simp)), e1, e2, e3]
  case call c =>
    obtain ⟨callee, cargs, ctypes⟩ := c;simp only [Call.operands] at h;cases callee with
    | value f =>
      simp only [xo];rw [h f (by simp)]
      have e : ∀ {ts}, vq cx.P fr' cargs.toList ts = vq cx.P fr cargs.toList ts := zgh λ x hx => h x (by simp at hx; simp [hx])
      have e' : ∀ {id ts}, zab cx.P fr' id cargs.toList ts = zab cx.P fr id cargs.toList ts := zmx λ x hx => h x (by simp at hx; simp [hx])
      have e2 : ∀ {site g cap} {K : Oc → De → List Nat → Option R}, zgr cx σ site g cap cargs.toList fr' K = zgr cx σ site g cap cargs.toList fr K := by
        intro site g cap K;unfold zgr;split
        · rename_i y hy
          rw [h y (by have : y ∈ cargs.toList := by rw [hy]; simp
                      simp at this; simp [this])]
        · rfl
      simp only [e, e', e2]
    | invoke r nm => simp only [xo]
    | builtin b =>
      have e : ∀ x ∈ cargs.toList, ∀ {P t}, zct P t fr' x = zct P t fr x := λ x hx {P t} => za3 (h x (by simp at hx; simp [hx]))
      cases b <;> simp only [xo]
      · split
        · rename_i s x t t' hx ht;rw [e s (by rw [hx]; simp), e x (by rw [hx]; simp)]
        · rfl
      · split
        · rename_i x t hx ht;rw [e x (by rw [hx]; simp)]
        · rfl
  all_goals simp only [xo]
  all_goals first | rfl | skip
  all_goals (simp only [Array.mem_def, List.mem_cons, List.not_mem_nil, or_false, forall_eq_or_imp, forall_eq] at h)
  all_goals first | (simp only [h]; done) | (simp only [h.1, h.2]; done) | (simp only [h.1, h.2.1, h.2.2]; done)
end
section
variable {R:Type} {cx:Cx} {σ σ':St}
def agree(S:List Nat)(σ σ':St):Prop:=∀ i∈S,zf σ' i=zf σ i
theorem zxd{S:List Nat}(ha:agree S σ σ')(hc:∀ i∈S,∃ o,zf σ i=some o∧∀ j∈o.ids,j∈S) :
  ∀ (n:Nat) (todo seen:List Nat),(∀ i∈todo,i∈S)→w6 σ' n todo seen=w6 σ n todo seen:=by
 intro n
 induction n with
 | zero=>intro todo seen _; rfl
 | succ n ih=>
  intro todo seen ht;cases todo with
  | nil=>rfl
  | cons i todo=>
   have hi:=ht i py;have htl:∀ j∈todo,j∈S:=λ j hj=>ht j (p0 _ hj);simp only [w6];rw [ha i hi];obtain ⟨o,ho,hids⟩:=hc i hi;rw [ho];cases seen.elem i
   ·simp only [p6];exact ih _ _ λ j hj=>by
     rcases List.mem_append.1 hj with h | h
     ·exact hids j h
     ·exact htl j h
   ·exact ih _ _ htl
theorem zkw(full:List Nat):∀ (ren:List Nat) (k:Nat),agree ren σ σ'→xd σ' full k ren=xd σ full k ren
 | [],_,_=>rfl
 | i::r,k,h=>by
  simp only [xd,h i py];split
  ·rw [zkw full r (k+1) λ j hj=>h j (p0 _ hj)]
  ·exact zkw full r (k+1) λ j hj=>h j (p0 _ hj)
theorem zo1{full:List Nat}{τ:St}:∀ (ren:List Nat) (k:Nat) {K:De→Option R},agree ren σ σ'→qu full σ' τ k ren K=qu full σ τ k ren K
 | [],_,_,_=>rfl
 | i::r,k,K,h=>by
  have e:∀ K:De→Option R,qu full σ' τ (k+1) r K=qu full σ τ (k+1) r K:=λ K=>zo1 r (k+1) λ j hj=>h j (p0 _ hj);simp only [qu,h i py,e]
theorem zt0{α:Type}{l:List α}{f g:α→Bool}(h:∀ x∈l,f x=g x):l.all f=l.all g:=by
 induction l with
 | nil=>rfl
 | cons a l ih=>simp only [List.all_cons]; rw [h a py,ih λ x hx=>h x (p0 _ hx)]
theorem zr3{ids:List Nat}{ren:List Nat}(h:agree ren σ σ'):closedIn σ' ids ren=closedIn σ ids ren:=by
 unfold closedIn;congr 1;exact zt0 λ i hi=>by rw [h i hi]
abbrev Tri:=Oc×De×List Nat
theorem zme{call:Nat→List V→St→Option (Out×St)}{t f:Nat}{args:List V}{xs:List Nat}{p:Tri}(h:vi cx call σ t f args xs (λ oc δ fp=>some (oc,δ,fp))=some p)(ha:agree p.2.2 σ σ') :
  vi cx call σ' t f args xs (λ oc δ fp=>some (oc,δ,fp))=some p:=by
 have hfp:w6 σ 1000 (V.idsL args++xs) []=p.2.2:=by
  unfold vi at h;obtain ⟨_,h⟩:=zd h;obtain ⟨_,h⟩:=zd h;split at h
  ·obtain ⟨δ,h1,_⟩:=zcj _ _ h;obtain ⟨u,h2,_⟩:=zmd h1;cases h2; rfl
  ·obtain ⟨δ,h1,_⟩:=zcj _ _ h;cases h1; rfl
  ·cases h
 unfold vi at h ⊢;simp only [hfp] at h ⊢;obtain ⟨hc,h⟩:=zd h;obtain ⟨_,hargs,hcl⟩:=zdl hc;obtain ⟨hdom,h⟩:=zd h;rw [zxd ha hcl 1000 _ _ hargs,hfp,zr3 ha,hc,hdom];simp only [zkw _ _ _ ha,zo1 _ _ ha];exact h
theorem zdb:∀ {δ:De},agree (δ.map (·.1)) σ σ'→z8 σ' δ=z8 σ δ
 | [],_=>rfl
 | (i,o)::δ,h=>by
  simp only [z8];rw [h i (by simp),zdb (δ:=δ) λ j hj=>h j (by simp at hj ⊢; exact .inr hj)]
theorem wv{i:Nat}{o:Ob}(h:zf σ' i=zf σ i):z8 σ' [(i,o)]=z8 σ [(i,o)]:=zdb (by intro j hj; simp at hj; subst hj; exact h)
theorem zxq{t:Nat}{q:V}{p:Tri}(h:zcv cx σ t q (λ v fp=>some (Oc.val v,([]:De),fp))=some p)(ha:agree p.2.2 σ σ') :
  zcv cx σ' t q (λ v fp=>some (Oc.val v,([]:De),fp))=some p:=by
 cases q with
 | ptr id off=>
  have:zf σ' id=zf σ id:=by
   refine ha id ?_;unfold zcv at h;obtain ⟨_,h⟩:=zd h;simp only at h;split at h
   ·cases hb:(Nat.beq off 0&&Nat.beq _ (cx.P.cellsOf t)) <;> rw [hb] at h
    ·rw [p6] at h;cases ha:xv cx.P t <;> rw [ha] at h
     ·obtain ⟨c,_,h⟩:=zgb h;obtain ⟨u,h,_⟩:=zci h;cases h; simp
     ·obtain ⟨_,h⟩:=zd h;cases h; simp
    ·obtain ⟨u,h,_⟩:=zci h;cases h; simp
   ·cases h
  unfold zcv at h ⊢;simp only [this];exact h
 | wptr id sz k i off=>
  have:zf σ' id=zf σ id:=by
   refine ha id ?_;unfold zcv at h;obtain ⟨_,h⟩:=zd h;simp only at h;split at h
   ·obtain ⟨_,h⟩:=zd h;obtain ⟨x,_,h⟩:=qa h;cases ha:xv cx.P t <;> rw [ha] at h
    ·obtain ⟨c,_,h⟩:=qa h;obtain ⟨u,h,_⟩:=zci (v:=.d c) (K:=λ v=>some (Oc.val v,([]:De),[id])) (by simpa only [zb2] using h)
     cases h; simp
    ·obtain ⟨_,h⟩:=zb4 _ _ h;cases h; simp
   ·cases h
  unfold zcv at h ⊢;simp only [this];exact h
 | _=>exact h
theorem zno{t:Nat}{q v:V}{p:Tri}(h:qi cx σ t q v (λ δ fp=>some (Oc.val wa,δ,fp))=some p)(ha:agree p.2.2 σ σ') :
  qi cx σ' t q v (λ δ fp=>some (Oc.val wa,δ,fp))=some p:=by
 cases q with
 | ptr id off=>
  have:zf σ' id=zf σ id:=by
   refine ha id ?_;unfold qi at h;simp only at h;split at h
   ·cases hb:(Nat.beq off 0&&Nat.beq _ (cx.P.cellsOf t)) <;> rw [hb] at h
    ·rw [p6] at h;obtain ⟨_,h⟩:=zd h;cases h; simp
    ·obtain ⟨_,h⟩:=zd h;cases h; simp
   ·cases h
  unfold qi at h ⊢;simp only [this];exact h
 | wptr id sz k i off=>
  have:zf σ' id=zf σ id:=by
   refine ha id ?_;unfold qi at h;simp only at h;split at h
   ·obtain ⟨_,h⟩:=zd h;obtain ⟨y,_,h⟩:=zb h;obtain ⟨_,h⟩:=zd h;cases h; simp
   ·cases h
  unfold qi at h ⊢;simp only [this];exact h
 | _=>exact h
theorem zqp{site t:Nat}{q:V}{p:Tri}(h:zbv cx σ site t q (λ δ fp=>some (Oc.val wa,δ,fp))=some p)(ha:agree p.2.2 σ σ') :
  zbv cx σ' site t q (λ δ fp=>some (Oc.val wa,δ,fp))=some p:=by
 unfold zbv at h ⊢;split at h
 ·rename_i e hu;obtain ⟨hc,h⟩:=zd h
  have key:∀ τ:St,qi cx τ t q (.sl (cx.P.cellsOf e) [] site) (λ δ fp=>some (Oc.val wa,(site,Ob.tok 0)::δ,site::fp)) =
    za (qi cx τ t q (.sl (cx.P.cellsOf e) [] site) (λ δ fp=>some (Oc.val wa,δ,fp))) λ z:Tri=>some (z.1,(site,Ob.tok 0)::z.2.1,site::z.2.2):=λ τ=>by
   rw [zff];rfl
  rw [key] at h;obtain ⟨z,hz,h⟩:=zb h;cases h;rw [pq] at hc;have h1:z8 σ' [(site,.tok 0)]=true:=by rw [wv (ha _ py)]; exact hc.2
  have h2:agree z.2.2 (vx σ site (.tok 0)) (vx σ' site (.tok 0)):=λ i hi=>by
   rw [zk,zk];by_cases he:site=i
   ·rw [if_pos he,if_pos he]
   ·rw [if_neg he,if_neg he];exact ha i (p0 _ hi)
  rw [hc.1,h1,key,zno hz h2];rfl
 ·cases h
theorem zzk{t:Nat}{x:V}{p:Tri}(h:lenV cx σ t x (λ v fp=>some (Oc.val v,([]:De),fp))=some p)(ha:agree p.2.2 σ σ') :
  lenV cx σ' t x (λ v fp=>some (Oc.val v,([]:De),fp))=some p:=by
 unfold lenV at h ⊢;split at h <;> first | exact h | skip
 split at h
 ·rename_i ks vs hg;cases h;have:zf σ' _=zf σ _:=ha _ py;rw [this,hg]
 ·cases h
theorem ztz{site t:Nat}{s x:V}{b:Bool}{p:Tri}(h:zdd cx σ site t s x b (λ v δ fp=>some (Oc.val v,δ,fp))=some p)(ha:agree p.2.2 σ σ') :
  zdd cx σ' site t s x b (λ v δ fp=>some (Oc.val v,δ,fp))=some p:=by
 unfold zdd at h ⊢;split at h <;> first | (cases h; done) | skip
 unfold dataOf at h ⊢;split at h <;> first | (cases h; done) | skip
 all_goals
  obtain ⟨hc,h⟩:=zd h;simp only [hc,zh,p5];cases b
  ·simp only [p6] at h ⊢;split at h
   ·rename_i id _;split at h
    ·rename_i n hg;obtain ⟨hc2,h⟩:=zd h;cases h;have:zf σ' _=zf σ _:=ha _ py;rw [this,hg];simp only [hc2,p5]
    ·cases h
   ·rename_i id sz k;split at h
    ·rename_i l hg;obtain ⟨hc2,h⟩:=zd h;cases h;have:zf σ' _=zf σ _:=ha _ py;rw [this,hg];simp only [hc2,p5]
    ·cases h
   ·cases h
  ·simp only [p5] at h ⊢;obtain ⟨hc2,h⟩:=zd h;cases h;rw [wv (ha _ py),hc2];rfl
theorem zvl{P:Program}{e id:Nat}{vs:List D}{a b:V→V}{z:D}{o:Option (Option Nat)}{q:Tri}(h:(za o λ o=>zk3 o (λ i=>vh vs i λ y=>zby P e y λ v=>some (Oc.val (a v),([]:De),[id]))
  (some (Oc.val (b (.d z)),([]:De),[id])))=some q):q.2.2=[id]:=by
 obtain ⟨o,_,h⟩:=zb h;rcases zga h with ⟨i,_,h⟩ | ⟨_,h⟩
 ·obtain ⟨y,_,h⟩:=qa h;obtain ⟨u,h,_⟩:=zci (v:=.d y) (K:=λ v=>some (Oc.val (a v),([]:De),[id])) (by simpa only [zb2] using h)
  cases h; rfl
 ·cases h; rfl
theorem zs3{t:Nat}{x k:V}{ok:Bool}{p:Tri}(h:zb8 cx σ t x k ok (λ v fp=>some (Oc.val v,([]:De),fp))=some p)(ha:agree p.2.2 σ σ') :
  zb8 cx σ' t x k ok (λ v fp=>some (Oc.val v,([]:De),fp))=some p:=by
 unfold zb8 at h ⊢;split at h
 ·rename_i kt e hu;obtain ⟨z,hz,q1⟩:=zb h;clear h;obtain ⟨key,rfl,q2⟩:=za9 q1;clear q1;obtain ⟨hty,h⟩:=zd q2;clear q2;simp only [hz,za,asD,hty,zh,p5];split at h <;> first | exact h | skip
  rename_i id;split at h
  ·rename_i ks vs hg;have:=zvl (id:=id) (a:=λ v=>bif ok then V.tup [v,.d (.bool true)] else v) (b:=λ v=>bif ok then V.tup [v,.d (.bool false)] else v) h;rw [this] at ha;simp only [ha _ py,hg];exact h
  ·cases h
 ·cases h
theorem zsy{t:Nat}{x k v:V}{p:Tri}(h:zb7 cx σ t x k v (λ δ fp=>some (Oc.val wa,δ,fp))=some p)(ha:agree p.2.2 σ σ') :
  zb7 cx σ' t x k v (λ δ fp=>some (Oc.val wa,δ,fp))=some p:=by
 unfold zb7 at h ⊢;split at h
 ·rename_i kt e hu;split at h
  ·rename_i id;split at h
   ·rename_i ks vs hg;obtain ⟨key,rfl,h⟩:=za9 h;obtain ⟨y,hy,h⟩:=zb h;obtain ⟨hty,h⟩:=zd h;obtain ⟨o,ho,h⟩:=zb h;have:zf σ' id=zf σ id:=by
     refine ha id ?_;rcases zga h with ⟨i,_,h⟩ | ⟨_,h⟩ <;> cases h <;> simp
    simp only [this,hg,asD,hy,za,hty,zh,p5,ho];exact h
   ·cases h
  ·cases h
 ·cases h
theorem znb{site t:Nat}{l c:V}{p:Tri}(h:vm cx σ site t l c (λ v δ fp=>some (Oc.val v,δ,fp))=some p)(ha:agree p.2.2 σ σ') :
  vm cx σ' site t l c (λ v δ fp=>some (Oc.val v,δ,fp))=some p:=by
 unfold vm at h ⊢;split at h
 ·obtain ⟨z,hz,h⟩:=zb h;obtain ⟨hc,h⟩:=zd h;cases h;simp only [hz,za];rw [wv (ha _ py),hc];rfl
 ·cases h
theorem zw2{v:V}{p:Tri}(h:zgn σ v (λ v δ fp=>some (Oc.val v,δ,fp))=some p)(ha:agree p.2.2 σ σ') :
  zgn σ' v (λ v δ fp=>some (Oc.val v,δ,fp))=some p:=by
 unfold zgn at h ⊢;split at h
 ·split at h
  ·rename_i l hg;obtain ⟨hc,h⟩:=zd h;cases h;rw [ha _ py,hg];simp only [hc,zh,p5]
  ·cases h
 ·cases h
theorem zjg{v:Option V}{y d:Nat}{K:Nat→Option R}{r:R}(h:bound v y d K=some r):∃ n,K n=some r∧∀ (R':Type) (K':Nat→Option R'),bound v y d K'=K' n:=by
 unfold bound at h ⊢;split at h
 ·exact ⟨_,h,λ _ _=>rfl⟩
 ·obtain ⟨hc,h⟩:=zd h;exact ⟨_,h,λ _ _=>by simp only [hc,zh,p5]⟩
 ·cases h
theorem zu4{site t:Nat}{x:V}{lo hi mx:Option V}{p:Tri}(h:zd6 cx σ site t x lo hi mx (λ v δ fp=>some (Oc.val v,δ,fp))=some p)(ha:agree p.2.2 σ σ') :
  zd6 cx σ' site t x lo hi mx (λ v δ fp=>some (Oc.val v,δ,fp))=some p:=by
 unfold zd6 at h ⊢;split at h <;> first | exact h | skip
 obtain ⟨h1,h⟩:=zd h;simp only [h1,zh,p5];unfold zjz at h ⊢;split at h <;> first | (cases h; done) | skip
 all_goals
  obtain ⟨h2,h⟩:=zd h;simp only [h2,zh,p5];split at h <;> first | exact h | skip
  obtain ⟨h3,h⟩:=zd h;simp only [h3,zh,p5];obtain ⟨n1,h,e1⟩:=zjg h;obtain ⟨n2,h,e2⟩:=zjg h;obtain ⟨n3,h,e3⟩:=zjg h;rw [e1,e2,e3];cases hb:Nat.beq n1 n3 <;> rw [hb] at h
  ·exact h
  ·rw [p5] at h ⊢;obtain ⟨h4,h⟩:=zd h;cases h;rw [wv (ha _ py),h4];rfl
theorem zk4{fr:Fr}{x:Option Operand}{K:Option V→Option R}{r:R}(h:zec fr x K=some r):∃ v,K v=some r∧∀ (R':Type) (K':Option V→Option R'),zec fr x K'=K' v:=by
 unfold zec at h ⊢;split at h
 ·exact ⟨_,h,λ _ _=>rfl⟩
 ·obtain ⟨v,hv,h⟩:=zb h;exact ⟨_,h,λ _ _=>by simp only [hv,za]⟩
theorem zz0{m nt:Nat}{call:Nat→List V→St→Option (Out×St)}{o:Oper}{fr:Fr}{p:Tri}(h:q6 cx m nt call o fr σ=some p)(ha:agree p.2.2 σ σ') :
  q6 cx m nt call o fr σ'=some p:=by
 unfold q6 at h ⊢;obtain ⟨dst,op,type,pos,after,guard⟩:=o;cases op
 case makeFunc fn first caps=>cases fn <;> exact h
 case makeMap t r=>
  cases r <;> simp only [xo] at h ⊢
  ·obtain ⟨hc,h⟩:=zd h;cases h;rw [wv (ha _ py),hc];rfl
  ·cases h
 case move x | assign x=>
  simp only [xo] at h ⊢;split at h
  ·split at h <;> first | exact h | skip
   split at h
   ·rename_i hg;cases hown:cx.own nt (dst.getD 0) <;> rw [hown] at h <;> cases h <;> rw [ha _ py,hg] <;> rfl
   ·rename_i hg;cases h;rw [ha _ py,hg]
  ·obtain ⟨v,hv,h⟩:=zb h;simp only [hv,za];cases hth:cx.thaw nt (dst.getD 0) <;> rw [hth] at h
   ·exact h
   ·exact zw2 h ha
 case alloc e=>
  simp only [xo] at h ⊢;obtain ⟨z,hz,h⟩:=zb h;simp only [hz,za];obtain ⟨hc,h⟩:=zd h;cases h;rw [zdb ha,hc];rfl
 case box e x=>
  simp only [xo] at h ⊢;obtain ⟨z,hz,h⟩:=zb h;simp only [hz,za];obtain ⟨hc,h⟩:=zd h;cases h;rw [wv (ha _ py),hc];rfl
 case build t ps=>
  simp only [xo] at h ⊢;cases hty:cx.typed nt (dst.getD 0)
  ·rw [hty] at h; exact h
  ·rw [hty] at h;simp only [p5] at h ⊢;obtain ⟨z,hz,h⟩:=zb h;simp only [hz,za];obtain ⟨hc,h⟩:=zd h;cases h;rw [zdb ha,hc];rfl
 case buildSlice t n ps=>
  simp only [xo] at h ⊢;split at h
  ·obtain ⟨z,hz,h⟩:=zb h;obtain ⟨l,hl,h⟩:=zb h;obtain ⟨xs,hx,h⟩:=zb h;obtain ⟨hc,h⟩:=zd h;cases hbare:zpq cx nt dst ps.toList <;> rw [hbare] at h <;> cases hown:cx.own nt (dst.getD 0) <;> rw [hown] at h <;>
   ·cases h;simp only [hz,hl,hx,za];rw [wv (ha _ py),hc];rfl
  ·cases h
 case makeSlice t n c=>
  simp only [xo] at h ⊢;obtain ⟨z,hz,h⟩:=zb h;obtain ⟨y,hy,h⟩:=zb h;simp only [hz,hy,za];exact znb h ha
 case lookup t x i ok=>
  simp only [xo] at h ⊢;obtain ⟨z,hz,h⟩:=zb h;obtain ⟨y,hy,h⟩:=zb h;simp only [hz,hy,za];exact zs3 h ha
 case mapUpdate t mm k x | insert t mm k x=>
  simp only [xo] at h ⊢;obtain ⟨z,hz,h⟩:=zb h;obtain ⟨y,hy,h⟩:=zb h;obtain ⟨q,hq,h⟩:=zb h;simp only [hz,hy,hq,za];exact zsy h ha
 case load t q=>
  simp only [xo] at h ⊢;obtain ⟨z,hz,h⟩:=zb h;simp only [hz,za];exact zxq h ha
 case store t q x=>
  simp only [xo] at h ⊢;obtain ⟨z,hz,h⟩:=zb h;simp only [hz,za];cases hnl:(qw x&&cx.nils nt (zt8 q)) <;> rw [hnl] at h
  ·rw [p6] at h ⊢;obtain ⟨v,hv,h⟩:=zb h;obtain ⟨hc,h⟩:=zd h;simp only [hv,hc,zh,p5];exact zno h ha
  ·rw [p5] at h ⊢;exact zqp h ha
 case convert s t x=>
  simp only [xo] at h ⊢;obtain ⟨v,hv,h⟩:=zb h;simp only [hv,za];split at h
  ·split at h
   ·rename_i hu hg;obtain ⟨hc,h⟩:=zd h;cases h;rw [hu,ha _ py,hg];simp only [hc,zh,p5]
   ·cases h
  ·rename_i hno;cases hun:zxz cx.P s t <;> rw [hun] at h
   ·exact h
   ·simp only [p5] at h ⊢;unfold zma at h ⊢;split at h
    ·split at h
     ·rename_i hg;obtain ⟨hc,h⟩:=zd h;cases h;rw [ha _ py,hg];simp only [hc,zh,p5]
     ·cases h
    ·cases h
 case slice t x lo hi mx=>
  simp only [xo] at h ⊢;obtain ⟨v,hv,h⟩:=zb h;simp only [hv,za];obtain ⟨v1,h,e1⟩:=zk4 h;obtain ⟨v2,h,e2⟩:=zk4 h;obtain ⟨v3,h,e3⟩:=zk4 h;rw [e1,e2,e3];exact zu4 h ha
 case call c=>
  obtain ⟨callee,cargs,ctypes⟩:=c;cases callee with
  | value f=>
   simp only [xo] at h ⊢;obtain ⟨v,hv,h⟩:=zb h;simp only [hv,za];split at h
   ·rename_i g first
    obtain ⟨l,hl,h⟩:=zb h;simp only [hl];exact zme h ha
   ·rename_i g cap
    have wrap:∀ {l:List V} {xs:List Nat},z8 σ [(m+dst.getD 0,Ob.tok 0)]=true →
      (vi cx call (vx σ (m+dst.getD 0) (.tok 0)) type g l xs λ oc δ fp=>some (oc,(m+dst.getD 0,Ob.tok 0)::δ,(m+dst.getD 0)::fp))=some p →
      (zh (z8 σ' [(m+dst.getD 0,Ob.tok 0)]) (vi cx call (vx σ' (m+dst.getD 0) (.tok 0)) type g l xs λ oc δ fp=>some (oc,(m+dst.getD 0,Ob.tok 0)::δ,(m+dst.getD 0)::fp)))=some p:=by
     intro l xs hfr h
     have e:∀ τ:St,(vi cx call (vx τ (m+dst.getD 0) (.tok 0)) type g l xs λ oc δ fp=>some (oc,(m+dst.getD 0,Ob.tok 0)::δ,(m+dst.getD 0)::fp)) =
       za (vi cx call (vx τ (m+dst.getD 0) (.tok 0)) type g l xs λ oc δ fp=>some (oc,δ,fp)) λ p=>some (p.1,(m+dst.getD 0,Ob.tok 0)::p.2.1,(m+dst.getD 0)::p.2.2):=λ τ=>(zhc (σ:=vx τ (m+dst.getD 0) (.tok 0)) call type g l xs (λ oc δ fp=>some (oc,δ,fp)) (λ p:Tri=>some (p.1,(m+dst.getD 0,Ob.tok 0)::p.2.1,(m+dst.getD 0)::p.2.2))).symm
     rw [e] at h;obtain ⟨q,hq,h⟩:=zb h;cases h;have hfr':z8 σ' [(m+dst.getD 0,Ob.tok 0)]=true:=by
      have:=ha (m+dst.getD 0) py;unfold z8 at hfr ⊢;rw [this]; exact hfr
     rw [hfr',e,zme hq (σ':=vx σ' (m+dst.getD 0) (.tok 0)) λ i hi=>by
      rw [zk,zk,ha i (p0 _ hi)]]
     rfl
    cases hgr:(cx.grow g).isSome <;> rw [hgr] at h <;> simp only [p5,p6] at h ⊢
    rotate_left
    ·unfold zgr at h ⊢;split at h
     ·rename_i y hargs;obtain ⟨e,he,h⟩:=zb h;obtain ⟨v,hv,h⟩:=zb h;simp only [hargs,he,hv,za];split at h
      ·obtain ⟨hc,h⟩:=zd h;cases h;rw [wv (ha _ py),hc];rfl
      ·cases h
     ·cases h
    cases hsm:(zfl cx.P g&&cap.isEmpty) <;> rw [hsm] at h <;> simp only [p5,p6] at h ⊢
    rotate_left
    ·obtain ⟨l,hl,h⟩:=zb h;simp only [hl];exact h
    cases hgv:cx.gives g <;> rw [hgv] at h
    ·cases hnil:(cx.keep g&&zg6 cargs.toList) <;> rw [hnil] at h
     ·obtain ⟨l,hl,h⟩:=zb h;simp only [hl,p6];exact zme h ha
     ·obtain ⟨l,hl,h⟩:=zb h;obtain ⟨hfr,h⟩:=zd h;simp only [hl,p5,p6];exact wrap hfr h
    ·obtain ⟨l,hl,h⟩:=zb h;obtain ⟨hfr,h⟩:=zd h;simp only [hl,p5];exact wrap hfr h
   ·cases h
  | invoke r nm=>exact h
  | builtin b=>
   cases b <;> first | exact h | skip
   ·simp only [xo] at h ⊢;split at h
    ·obtain ⟨v,hv,h⟩:=zb h;obtain ⟨u,hu,h⟩:=zb h;obtain ⟨hc,h⟩:=zd h;simp only [hv,hu,za,hc,zh,p5];exact ztz h ha
    ·cases h
   ·simp only [xo] at h ⊢;split at h
    ·obtain ⟨v,hv,h⟩:=zb h;simp only [hv,za];exact zzk h ha
    ·cases h
 all_goals exact h
end
section
variable {R:Type} {cx:Cx} {w:World} {σ σ':St} {μ:Mu}
def xw(σ σ':St):Prop:=∀ i,zf σ' i=zf σ i
theorem xw.own(h:xw σ σ'):zp σ' μ=zp σ μ:=by
 funext b i;simp only [zp,Mine,h _]
theorem xw.after(h:xw σ σ')(hi:Inv cx w σ μ):After cx w σ μ w σ' μ:=by
 have hown:=h.own (μ:=μ);have hst:Stays w (zp σ μ) w (zp σ' μ):=by rw [hown]; exact Stays.refl _ _
 have hstill:∀ id o,zf σ id=some o→yx μ id o μ (zf σ' id):=λ id o ho=>by rw [h id,ho]; exact yx.refl μ id o
 have rv:∀ v x,RV w σ μ v x→RV w σ' μ v x:=λ v x hv=>hv.stays hst λ id _ o ho=>hstill id o ho;have hm:Mine σ' μ=Mine σ μ:=by funext b i; simp only [Mine,h _]
 refine ⟨⟨λ id o ho=>?_,λ id id' o o' b i ho ho'=>hi.apart id id' o o' b i (h id ▸ ho) (h id' ▸ ho'),by rw [hown]; exact hi.glob,λ id o b i ho=>hi.frame id o b i (h id ▸ ho),hi.frLt,hi.frMap⟩,⟨⟨rfl,rfl,Nat.le_refl _,λ _ _ _=>rfl,λ _ _ _ _ h=>h⟩,λ b i _ ho=>by rw [hm] at ho; exact ho,rfl⟩,hstill,rfl⟩
 have hok:=hi.ob id o (h id ▸ ho);cases o with
 | val n v=>
  obtain ⟨b,cs,el,hb,hh,hn,ht,h1,hr,htag⟩:=hok;exact ⟨b,cs,el,hb,hh,hn,ht,h1,hr.map λ v x _=>rv v x,htag⟩
 | row l=>
  exact w7.stays hst hok λ _ _ _=>rfl
 | tok n=>exact hok
 | map ks vs=>
  obtain ⟨b,es,clock,hb,hh,hk,hv⟩:=hok;exact ⟨b,es,clock,hb,hh,hk.stays hst,hv.stays hst⟩
inductive Res where
 | dep
 | off
 | val (v:V) (δ:De) (fp:List Nat)
 | pan (v:V) (δ:De) (fp:List Nat)
structure It where
 i:Nat
 o:Oper
 res:Res
def It.wf(t:It):Option (Nat×V):=
 match t.res with
 | .off=>t.o.dst.map λ d=>(d,wa)
 | .val v _ _=>t.o.dst.map λ d=>(d,v)
 | _=>none
def It.ws(t:It):De:=
 match t.res with
 | .val _ δ _ | .pan _ δ _=>δ
 | _=>[]
def It.rf(ops:List Oper)(t:It):List Nat:=
 match t.res with
 | .dep=>[]
 | _=>looks ops t.o
def It.rs(t:It):List Nat:=
 match t.res with
 | .val _ _ fp | .pan _ _ fp=>fp
 | _=>[]
def It.nextF(t:It)(fr:Fr):Fr:=match t.wf with | some p=>p::fr | none=>fr
def It.nextS(t:It)(σ:St):St:=ze σ t.ws
def Good(cx:Cx)(m nt:Nat)(call:Nat→List V→St→Option (Out×St))(ops:List Oper)(fr:Fr)(σ:St)(t:It):Prop:=
 match t.res with
 | .dep=>True
 | .off=>ze8 ops t.o fr=some false
 | .val v δ fp=>ze8 ops t.o fr=some true∧q6 cx m nt call t.o fr σ=some (.val v,δ,fp)
 | .pan v δ fp=>ze8 ops t.o fr=some true∧q6 cx m nt call t.o fr σ=some (.pan v,δ,fp)
structure Comm (ops:List Oper) (a b:It):Prop where
 ab:∀ p,a.wf=some p→p.1 ∉ b.rf ops
 ba:∀ p,b.wf=some p→p.1 ∉ a.rf ops
 ff:∀ p q,a.wf=some p→b.wf=some q→p.1 ≠ q.1
 sab:∀ i∈a.ws.map (·.1),i ∉ b.rs∧i ∉ b.ws.map (·.1)
 sba:∀ i∈b.ws.map (·.1),i ∉ a.rs∧i ∉ a.ws.map (·.1)
variable {m nt:Nat} {call:Nat→List V→St→Option (Out×St)} {ops:List Oper}
theorem zq3{fr fr':Fr}{x:Operand}(h:∀ t,x=.tmp t→zf fr' t=zf fr t):opd fr' x=opd fr x:=by
 cases x <;> first | rfl | exact h _ rfl
theorem zxp{o:Oper}{x:Operand}(hx:x∈o.op.operands){t:Nat}(ht:x=.tmp t):t∈looks ops o:=by
 subst ht;exact List.mem_append_left _ (List.mem_filterMap.2 ⟨.tmp t,by simpa using hx,rfl⟩)
theorem zgw{o:Oper}{fr fr':Fr}(h:∀ t∈looks ops o,zf fr' t=zf fr t):ze8 ops o fr'=ze8 ops o fr:=by
 unfold ze8;split
 ·rfl
 ·rename_i j want hg;split
  ·rfl
  ·rename_i t ht;rw [h t (List.mem_append_right _ (by simp [hg,ht]))]
theorem Good.same{fr fr':Fr}{t:It}(h:Good cx m nt call ops fr σ t)(hf:∀ s∈t.rf ops,zf fr' s=zf fr s)(hs:agree t.rs σ σ'):Good cx m nt call ops fr' σ' t:=by
 unfold Good at h ⊢;obtain ⟨i,o,res⟩:=t;have key:∀ p:Tri,(∀ s∈looks ops o,zf fr' s=zf fr s)→q6 cx m nt call o fr σ=some p→agree p.2.2 σ σ'→q6 cx m nt call o fr' σ'=some p:=λ p hl h1 h2=>by
  have:q6 cx m nt call o fr' σ'=q6 cx m nt call o fr σ':=zuq λ x hx=>zq3 λ t ht=>hl t (zxp hx ht);rw [this];exact zz0 h1 h2
 cases res with
 | dep=>trivial
 | off=>exact (zgw hf).trans h
 | val v δ fp=>exact ⟨(zgw hf).trans h.1,key _ hf h.2 hs⟩
 | pan v δ fp=>exact ⟨(zgw hf).trans h.1,key _ hf h.2 hs⟩
theorem qq(t:It)(fr:Fr)(s:Nat):zf (t.nextF fr) s=match t.wf with | some p=>if p.1=s then some p.2 else zf fr s | none=>zf fr s:=by
 unfold It.nextF;cases t.wf with
 | none=>rfl
 | some p=>
  obtain ⟨d,v⟩:=p;simp only [zf];by_cases h:d=s
  ·subst h; simp
  ·simp [h,zif h]
theorem znx{t:It}{fr:Fr}{s:Nat}(h:∀ p,t.wf=some p→p.1 ≠ s):zf (t.nextF fr) s=zf fr s:=by
 rw [qq];cases hw:t.wf with
 | none=>rfl
 | some p=>simp [h p hw]
theorem zbi{t:It}{s:Nat}(h:s ∉ t.ws.map (·.1)):zf (t.nextS σ) s=zf σ s:=qs h
theorem zey{δ : De} : ∀ {σ σ' : St} {i : Nat}, i ∈ δ.map (·.1) ∨ zf σ' i = zf σ i → zf (ze σ' δ) i = zf (ze σ δ) i := by
  induction δ with
  | nil => intro σ σ' i h; rcases h with h | h; · simp at h
           exact h
  | cons p δ ih =>
    intro σ σ' i h;obtain ⟨j, o⟩ := p;simp only [ze];refine ih ?_;by_cases hj : j = i
    · right; subst hj; simp [zk]
    · simp only [List.map_cons, List.mem_cons] at h;rcases h with (h | h) | h
      · exact absurd h.symm hj
      · exact .inl h
      · right; simp [zk, hj, h]
theorem zk8{t:It}(h:xw σ σ'):xw (t.nextS σ) (t.nextS σ'):=λ i=>zey (.inr (h i))
theorem zk9{t:It}{fr fr':Fr}(h:y9 fr fr'):y9 (t.nextF fr) (t.nextF fr'):=λ i=>by rw [qq,qq]; split <;> simp [h i]
theorem Comm.swapF{a b:It}(h:Comm ops a b)(fr:Fr):y9 (b.nextF (a.nextF fr)) (a.nextF (b.nextF fr)):=λ i=>by
 rw [qq,qq,qq,qq];cases ha:a.wf with
 | none=>rfl
 | some p=>
  cases hb:b.wf with
  | none=>rfl
  | some q=>
   have:=h.ff p q ha hb;by_cases h1:p.1=i
   ·have:q.1 ≠ i:=λ e=>this (h1.trans e.symm);simp [h1,this]
   ·simp [h1]
theorem Comm.swapS{a b:It}(h:Comm ops a b)(σ:St):xw (b.nextS (a.nextS σ)) (a.nextS (b.nextS σ)):=λ i=>by
 by_cases ha:i∈a.ws.map (·.1)
 ·have hb:=(h.sab i ha).2;rw [zbi (t:=b) hb];exact zey (.inl ha)
 ·rw [zbi (t:=a) ha];by_cases hb:i∈b.ws.map (·.1)
  ·exact (zey (.inl hb))
  ·rw [zbi (t:=b) hb,zbi (t:=b) hb,zbi (t:=a) ha]
def Rem(cx:Cx)(m nt:Nat)(call:Nat→List V→St→Option (Out×St))(ops:List Oper):List It→Fr→St→Prop
 | [],_,_=>True
 | t::L,fr,σ=>Good cx m nt call ops fr σ t∧Rem cx m nt call ops L (t.nextF fr) (t.nextS σ)
def znj:List It→Fr→Fr
 | [],fr=>fr
 | t::L,fr=>znj L (t.nextF fr)
def zgl:List It→St→St
 | [],σ=>σ
 | t::L,σ=>zgl L (t.nextS σ)
theorem Rem.same:∀ {L:List It} {fr fr':Fr} {σ σ':St},Rem cx m nt call ops L fr σ→y9 fr fr'→xw σ σ'→Rem cx m nt call ops L fr' σ'
 | [],_,_,_,_,_,_,_=>trivial
 | _::_,_,_,_,_,h,hf,hs=>⟨h.1.same (λ s _=>hf s) (λ i _=>hs i),Rem.same h.2 (zk9 hf) (zk8 hs)⟩
theorem zge:∀ {L:List It} {fr fr':Fr},y9 fr fr'→y9 (znj L fr) (znj L fr')
 | [],_,_,h=>h
 | t::L,fr,fr',h=>zge (L:=L) (fr:=t.nextF fr) (fr':=t.nextF fr') (zk9 h)
theorem zos:∀ {L:List It} {σ σ':St},xw σ σ'→xw (zgl L σ) (zgl L σ')
 | [],_,_,h=>h
 | t::L,σ,σ',h=>zos (L:=L) (σ:=t.nextS σ) (σ':=t.nextS σ') (zk8 h)
theorem y9.trans{a b c:Fr}(h:y9 a b)(h':y9 b c):y9 a c:=λ t=>(h' t).trans (h t)
theorem xw.trans{a b c:St}(h:xw a b)(h':xw b c):xw a c:=λ t=>(h' t).trans (h t)
theorem xw.refl(a:St):xw a a:=λ _=>rfl
theorem Rem.pull{b:It}{B:List It}:∀ {A:List It} {fr:Fr} {σ:St},Rem cx m nt call ops (A++b::B) fr σ→(∀ a∈A,Comm ops a b) →
  Good cx m nt call ops fr σ b∧Rem cx m nt call ops (A++B) (b.nextF fr) (b.nextS σ)∧y9 (znj (A++b::B) fr) (znj (A++B) (b.nextF fr))∧xw (zgl (A++b::B) σ) (zgl (A++B) (b.nextS σ))
 | [],fr,σ,h,_=>⟨h.1,h.2,y9.refl _,xw.refl _⟩
 | a::A,fr,σ,h,hc=>by
  have hab:=hc a py;obtain ⟨h1,h2⟩:=h;obtain ⟨g1,g2,g3,g4⟩:=Rem.pull h2 λ x hx=>hc x (p0 _ hx);have gb:Good cx m nt call ops fr σ b:=g1.same (λ s hs=>(znx λ p hp e=>hab.ab p hp (e ▸ hs)).symm) (λ i hi=>(zbi λ hm=>(hab.sab i hm).1 hi).symm);have ga:Good cx m nt call ops (b.nextF fr) (b.nextS σ) a:=h1.same (λ s hs=>znx λ p hp e=>hab.ba p hp (e ▸ hs)) (λ i hi=>zbi λ hm=>(hab.sba i hm).1 hi);exact ⟨gb,⟨ga,g2.same (hab.swapF fr) (hab.swapS σ)⟩,g3.trans (zge (hab.swapF fr)),g4.trans (zos (hab.swapS σ))⟩
end
end Go.Vai
end

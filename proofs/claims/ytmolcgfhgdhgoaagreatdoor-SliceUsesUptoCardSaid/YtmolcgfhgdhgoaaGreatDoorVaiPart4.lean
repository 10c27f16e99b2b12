/-
  A call from the caller's side: the whole.
  Each operation of the interpreter is the machine's: all of them.
  What comes behind, drawn in: the looks, and calls.
  Regions in the text's order.
  A place is made behind a slice's end, and then filled: the three operations together.
  On what an operation's answer rests.
  An operation's answer rests on the objects of its footprint alone.
  Regions whose order is open.
-/
import Derived.Test.YtmolcgfhgdhgoaaGreatDoorVaiPart3
import Derived.Lib.Builder
import Derived.Orders
import Derived.LoopN
import Derived.Scope

set_option linter.all false
set_option linter.unusedSimpArgs false
set_option linter.unusedVariables false

section
namespace Go.Vai
section
variable {R:Type} {cx:Cx} {w w':World} {σ τ:St} {μ ν:Mu}
theorem Ob.ren_ids(f:Nat→Nat)(o:Ob):(o.ren f).ids=o.ids.map f:=by
 cases o <;> simp [Ob.ren,Ob.ids,V.ren_ids]
def zxw(σ:St)(μ:Mu)(ren:List Nat):Own:=fun b i=>μ.fr b i∨∃ j o,j ∉ ren∧zi σ j=some o∧owns μ j o b i
def wo(σ:St)(μ:Mu)(ren:List Nat):Mu:=⟨fun k=>μ (zcd ren k),zxw σ μ ren⟩
theorem zfg{ren:List Nat}(hex:∀ i∈ren,∃ o,zi σ i=some o){i:Nat}(hi:i∈ren) :
  zi (xn σ ren 0 ren) (xo ren i)=(zi σ i).map (Ob.ren (xo ren)):=by
 rw [zi2 σ ren ren 0 _ hex]
 obtain ⟨h1,h2⟩:=x7 hi
 simp only [Nat.zero_le,if_true,Nat.sub_zero]
 rw [zcc h2,h1]
 rfl
theorem zbn{ren:List Nat}(hex:∀ i∈ren,∃ o,zi σ i=some o){k:Nat}{o:Ob}(h:zi (xn σ ren 0 ren) k=some o) :
  ∃ i q,ren[k]?=some i∧zi σ i=some q∧o=q.ren (xo ren)∧k<ren.length:=by
 rw [zi2 σ ren ren 0 k hex] at h
 simp only [Nat.zero_le,if_true,Nat.sub_zero] at h
 cases hk:ren[k]? with
 | none=>rw [hk] at h; cases h
 | some i=>
  rw [hk] at h
  simp only [Option.bind_some,Option.map_eq_some_iff] at h
  obtain ⟨q,hq,rfl⟩:=h
  exact ⟨i,q,rfl,hq,rfl,(List.getElem?_eq_some_iff.1 hk).1⟩
theorem zda{ren:List Nat}{k i:Nat}(h:ren[k]?=some i):zcd ren k=i:=by
 have:=zcc (List.getElem?_eq_some_iff.1 h).1
 rw [h] at this
 exact (Option.some.inj this).symm
theorem qc{μ ν:Mu}{id k:Nat}(h:ν k=μ id)(o:Ob)(b i:Nat):owns ν k o b i↔owns μ id o b i:=by
 cases o <;> simp [owns,h]
theorem zq1{ren:List Nat}(hex:∀ i∈ren,∃ o,zi σ i=some o):zr (xn σ ren 0 ren) (wo σ μ ren)=zr σ μ:=by
 funext b i
 apply propext
 constructor
 ·rintro ((hf | ⟨j,o,hj,ho,hown⟩) | ⟨k,o,ho,hown⟩)
  ·exact .inl hf
  ·exact .inr ⟨j,o,ho,hown⟩
  ·obtain ⟨a,q,hk,hq,rfl,_⟩:=zbn hex ho
   exact .inr ⟨a,q,hq,(qc (show wo σ μ ren k=μ a from congrArg μ.lo (zda hk)) q b i).1 ((zb6 _ _ _ _ _).1 hown)⟩
 ·rintro (hf | ⟨j,o,ho,hown⟩)
  ·exact .inl (.inl hf)
  ·by_cases hj:j∈ren
   ·have hg:=zfg hex hj
    rw [ho] at hg
    exact .inr ⟨xo ren j,_,hg,(zb6 _ _ _ _ _).2 ((qc (show wo σ μ ren (xo ren j)=μ j from congrArg μ.lo (x7 hj).1) o b i).2 hown)⟩
   ·exact .inl (.inr ⟨j,o,hj,ho,hown⟩)
theorem ze9{ids:List Nat}{ren:List Nat}(h:closedIn σ ids ren=true):ren.Nodup∧(∀ i∈ids,i∈ren)∧∀ i∈ren,∃ o,zi σ i=some o∧∀ j∈o.ids,j∈ren:=by
 unfold closedIn at h
 simp only [Bool.and_eq_true,List.all_eq_true] at h
 obtain ⟨⟨h1,h2⟩,h3⟩:=h
 refine ⟨zet h1,fun i hi=>by simpa using h2 i hi,fun i hi=>?_⟩
 have:=h3 i hi
 split at this
 ·rename_i o ho
  exact ⟨o,ho,fun j hj=>by simpa using List.all_eq_true.1 this j hj⟩
 ·cases this
theorem zzk{ren:List Nat}(hi:Inv cx w σ μ)(hnd:ren.Nodup)(hcl:∀ i∈ren,∃ o,zi σ i=some o∧∀ j∈o.ids,j∈ren):Inv cx w (xn σ ren 0 ren) (wo σ μ ren):=by
 have hex:∀ i∈ren,∃ o,zi σ i=some o:=fun i h=>let ⟨o,ho,_⟩:=hcl i h; ⟨o,ho⟩
 have hown:=zq1 (μ:=μ) hex
 have hst:Stays w (zr σ μ) w (zr (xn σ ren 0 ren) (wo σ μ ren)):=by rw [hown]; exact Stays.refl _ _
 refine ⟨fun k o ho=>?_,fun k k' o o' b i ho ho' h1 h2=>?_,by rw [hown]; exact hi.glob,fun k o b i ho h j hf=>?_,fun b i hf=>?_,fun r es clock i hm hf=>?_⟩
 ·obtain ⟨a,q,hk,hq,rfl,hlt⟩:=zbn hex ho
  have ha:a∈ren:=List.mem_of_getElem? hk
  have hpos:=za0 hnd hk
  obtain ⟨q',hq',hids⟩:=hcl a ha
  rw [hq] at hq'; cases hq'
  have:=(hi.ob a q hq).rename (τ:=xn σ ren 0 ren) (ν:=wo σ μ ren) (xo ren) hst (congrArg μ.lo (x7 ha).1) fun j hj=>
   ⟨by rw [zfg hex (hids j hj)]; exact zaz.ren _ _,congrArg μ.lo (x7 (hids j hj)).1⟩
  rw [hpos] at this
  exact this
 ·obtain ⟨a,q,hk,hq,rfl,_⟩:=zbn hex ho
  obtain ⟨a',q',hk',hq',rfl,_⟩:=zbn hex ho'
  have e1:=(qc (show wo σ μ ren k=μ a from congrArg μ.lo (zda hk)) q b i).1 ((zb6 _ _ _ _ _).1 h1)
  have e2:=(qc (show wo σ μ ren k'=μ a' from congrArg μ.lo (zda hk')) q' b i).1 ((zb6 _ _ _ _ _).1 h2)
  have:=hi.apart a a' q q' b i hq hq' e1 e2
  subst this
  rw [←za0 hnd hk,←za0 hnd hk']
 ·obtain ⟨a,q,hk,hq,rfl,_⟩:=zbn hex ho
  have e1:=(qc (show wo σ μ ren k=μ a from congrArg μ.lo (zda hk)) q b i).1 ((zb6 _ _ _ _ _).1 h)
  rcases hf with hf | ⟨j',o',hj',ho',hown'⟩
  ·exact hi.frame a q b i hq e1 j hf
  ·have:=hi.blockApart hq ho' e1 hown'
   exact hj' (this ▸ List.mem_of_getElem? hk)
 ·rcases hf with hf | ⟨j',o',hj',ho',hown'⟩
  ·exact hi.frLt b i hf
  ·exact zes hi ho' hown'
 ·rcases hf with hf | ⟨j',o',hj',ho',hown'⟩
  ·exact .inl (hi.frMap r es clock i hm hf)
  ·refine .inr ⟨j',o',hj',ho',?_⟩
   have hok:=hi.ob j' o' ho'
   cases o' with
   | tok n=>
    obtain ⟨cs,el,fr,hh,_⟩:=hok r hown'.1
    rw [hm] at hh; cases hh
   | _=>exact hown'
def x8(μ μ1:Mu)(ren:List Nat):Mu:=⟨fun j=>if j∈ren then μ1 (xo ren j) else μ j,μ.fr⟩
theorem zvd(hi:Inv cx w σ μ){ren:List Nat}(hnd:ren.Nodup)(hcl:∀ i∈ren,∃ o,zi σ i=some o∧∀ j∈o.ids,j∈ren){σ':St}{δ:De}(hδm:δ.map (·.1)=ren)
  (hδ:∀ (j i:Nat),ren[j]?=some i→∃ old new o,zi σ i=some old∧zi σ' (0+j)=some new∧δ[j]?=some (i,o)∧LikeO (new.ren (zcd ren)) o)
  (hσ':∀ k o,zi σ' k=some o→k<ren.length∧∀ i∈o.ids,i<ren.length) {w':World} {μ1:Mu} (haf:After cx w (xn σ ren 0 ren) (wo σ μ ren) w' σ' μ1) :
  After cx w σ μ w' (zf σ δ) (x8 μ μ1 ren) ∧
   ∀ (x:Value) (v:V),(∀ i∈v.ids,i<ren.length)→RV w' σ' μ1 x v→RV w' (zf σ δ) (x8 μ μ1 ren) x (v.ren (zcd ren)):=by
 have hex:∀ i∈ren,∃ o,zi σ i=some o:=fun i h=>let ⟨o,ho,_⟩:=hcl i h; ⟨o,ho⟩
 have hget:∀ {j i:Nat},ren[j]?=some i→∃ new o,zi σ' j=some new∧zi (zf σ δ) i=some o∧LikeO (new.ren (zcd ren)) o:=by
  intro j i hj
  obtain ⟨old,new,o,h1,h2,h3,h4⟩:=hδ j i hj
  rw [Nat.zero_add] at h2
  exact ⟨new,o,h2,wj (by rw [hδm]; exact hnd) (List.mem_of_getElem? h3),h4⟩
 have hrest:∀ {j:Nat},j ∉ ren→zi (zf σ δ) j=zi σ j:=fun hj=>za4 (by rw [hδm]; exact hj)
 have hmu:∀ {j i:Nat},ren[j]?=some i→x8 μ μ1 ren i=μ1 j:=fun {j i} hj=>by
  have hm:i∈ren:=List.mem_of_getElem? hj
  simp only [x8,if_pos hm,za0 hnd hj]
 have hmu':∀ {j:Nat},j ∉ ren→x8 μ μ1 ren j=μ j:=fun {j} hj=>by simp only [x8,if_neg hj]
 have hfr1:μ1.fr=zxw σ μ ren:=haf.fr
 have hown2:zr (zf σ δ) (x8 μ μ1 ren)=zr σ' μ1:=by
  funext b i
  apply propext
  constructor
  ·rintro (hf | ⟨j,o,ho,hown⟩)
   ·exact .inl (by rw [hfr1]; exact .inl hf)
   ·by_cases hj:j∈ren
    ·obtain ⟨h1,h2⟩:=x7 hj
     have hk:ren[xo ren j]?=some j:=by rw [zcc h2,h1]
     obtain ⟨new,o',h3,h4,h5⟩:=hget hk
     rw [ho] at h4; cases h4
     exact .inr ⟨xo ren j,new,h3,(qc (hmu hk) new b i).1 ((zb6 _ _ _ _ _).1 ((h5.owns _ _ _ _).1 hown))⟩
    ·rw [hrest hj] at ho
     exact .inl (by rw [hfr1]; exact .inr ⟨j,o,hj,ho,(qc (hmu' hj) o b i).1 hown⟩)
  ·rintro (hf | ⟨k,o,ho,hown⟩)
   ·rw [hfr1] at hf
    rcases hf with hf | ⟨j,o,hj,ho,hown⟩
    ·exact .inl hf
    ·exact .inr ⟨j,o,by rw [hrest hj]; exact ho,(qc (hmu' hj) o b i).2 hown⟩
   ·obtain ⟨i',hk⟩:=yv (hσ' k o ho).1
    obtain ⟨new,o',h3,h4,h5⟩:=hget hk
    rw [ho] at h3; cases h3
    exact .inr ⟨i',o',h4,(h5.owns _ _ _ _).2 ((zb6 _ _ _ _ _).2 ((qc (hmu hk) o b i).2 hown))⟩
 have hst2:Stays w' (zr σ' μ1) w' (zr (zf σ δ) (x8 μ μ1 ren)):=by rw [hown2]; exact Stays.refl _ _
 have hmine:∀ b i,Mine (xn σ ren 0 ren) (wo σ μ ren) b i→∃ j o,j∈ren∧zi σ j=some o∧owns μ j o b i:=by
  rintro b i ⟨k,o,ho,h1⟩
  obtain ⟨a,q,hk,hq,rfl,_⟩:=zbn hex ho
  exact ⟨a,q,List.mem_of_getElem? hk,hq,(qc (show wo σ μ ren k=μ a from congrArg μ.lo (zda hk)) q b i).1 ((zb6 _ _ _ _ _).1 h1)⟩
 have hmine':∀ b i,Mine (xn σ ren 0 ren) (wo σ μ ren) b i→Mine σ μ b i:=fun b i h=>let ⟨j,o,_,ho,h1⟩:=hmine b i h; ⟨j,o,ho,h1⟩
 -- the callee's objects,outside
 have hback:∀ {j:Nat},j∈ren→∀ {o},zi (zf σ δ) j=some o→∃ new,zi σ' (xo ren j)=some new∧LikeO (new.ren (zcd ren)) o∧x8 μ μ1 ren j=μ1 (xo ren j):=by
  intro j hj o ho
  obtain ⟨h1,h2⟩:=x7 hj
  have hk:ren[xo ren j]?=some j:=by rw [zcc h2,h1]
  obtain ⟨new,o',h3,h4,h5⟩:=hget hk
  rw [ho] at h4; cases h4
  exact ⟨new,h3,h5,hmu hk⟩
 have hownIn:∀ {j:Nat},j∈ren→∀ {o b i},zi (zf σ δ) j=some o→owns (x8 μ μ1 ren) j o b i→∃ new,zi σ' (xo ren j)=some new∧owns μ1 (xo ren j) new b i:=by
  intro j hj o b i ho h1
  obtain ⟨new,h3,h5,h6⟩:=hback hj ho
  exact ⟨new,h3,(qc h6 new b i).1 ((zb6 _ _ _ _ _).1 ((h5.owns _ _ _ _).1 h1))⟩
 have hgoes:Goes w σ μ w' (zf σ δ) (x8 μ μ1 ren):=by
  have hg:=haf.goes
  refine ⟨⟨hg.kept.os,hg.kept.output,hg.kept.size,fun b hb hn=>hg.kept.blk b hb fun i hm=>hn i (hmine' b i hm),fun b i x hn hc=>hg.kept.cell b i x (fun hm=>hn (hmine' b i hm)) hc⟩,?_,rfl⟩
  rintro b i hb ⟨j,o,ho,h1⟩
  by_cases hj:j∈ren
  ·obtain ⟨new,h3,h4⟩:=hownIn hj ho h1
   exact hmine' b i (hg.own b i hb ⟨_,new,h3,h4⟩)
  ·exact ⟨j,o,by rw [←hrest hj]; exact ho,(qc (hmu' hj) o b i).1 h1⟩
 have hs:=hgoes.stays' hi
 -- names of the callee's,outside
 have hname:∀ k,k<ren.length→∀ new,zi σ' k=some new→∃ o,zi (zf σ δ) (zcd ren k)=some o∧LikeO (new.ren (zcd ren)) o∧x8 μ μ1 ren (zcd ren k)=μ1 k:=by
  intro k hk new hnew
  have hk':=zcc hk
  obtain ⟨new',o,h3,h4,h5⟩:=hget hk'
  rw [hnew] at h3; cases h3
  exact ⟨o,h4,h5,hmu hk'⟩
 have hcompat:∀ k,k<ren.length→zaz (zi σ' k) (zi (zf σ δ) (zcd ren k))∧x8 μ μ1 ren (zcd ren k)=μ1 k:=by
  intro k hk
  refine ⟨?_,hmu (zcc hk)⟩
  cases hn:zi σ' k with
  | none=>trivial
  | some new=>
   obtain ⟨o,h1,h2,_⟩:=hname k hk new hn
   rw [h1]
   have:=h2.compat
   cases new <;> cases o <;> first | exact this.elim | exact this
 have hrv:∀ (x:Value) (v:V),(∀ i∈v.ids,i<ren.length)→RV w' σ' μ1 x v→RV w' (zf σ δ) (x8 μ μ1 ren) x (v.ren (zcd ren)):=
  fun x v hv hrv=>hrv.rename (zcd ren) hst2 fun id hid=>hcompat id (hv id hid)
 have hstill:∀ id o,zi σ id=some o→y4 μ id o (x8 μ μ1 ren) (zi (zf σ δ) id):=by
  intro id o ho
  by_cases hj:id∈ren
  ·obtain ⟨h1,h2⟩:=x7 hj
   have hk:ren[xo ren id]?=some id:=by rw [zcc h2,h1]
   obtain ⟨new,o',h3,h4,h5⟩:=hget hk
   rw [h4]
   refine h5.still _ _ _ _ ?_
   have hg:=zfg hex hj
   rw [ho] at hg
   have:=haf.still _ _ hg
   rw [h3] at this
   have e1:wo σ μ ren (xo ren id)=μ id:=congrArg μ.lo h1
   have e2:x8 μ μ1 ren id=μ1 (xo ren id):=hmu hk
   cases o <;> cases new <;> simp only [Option.map_some,Ob.ren,y4] at this ⊢ <;> first
    | exact this.elim
    | (rw [e2,←e1]; exact this)
  ·rw [hrest hj,ho]
   have e:=hmu' hj
   cases o <;> simp [y4,e]
 refine ⟨⟨⟨fun id o ho=>?_,fun id id' o o' b i ho ho' h1 h2=>?_,by rw [hown2]; exact haf.inv.glob,fun id o b i ho h j hf=>?_,fun b i hf=>?_,fun q es clock i hm hf=>?_⟩,hgoes,hstill,rfl⟩,hrv⟩
 ·-- the objects
  by_cases hj:id∈ren
  ·obtain ⟨h1,h2⟩:=x7 hj
   have hk:ren[xo ren id]?=some id:=by rw [zcc h2,h1]
   obtain ⟨new,o',h3,h4,h5⟩:=hget hk
   rw [ho] at h4; cases h4
   refine h5.ok _ _ _ _ ?_
   have:=(haf.inv.ob _ _ h3).rename (τ:=zf σ δ) (ν:=x8 μ μ1 ren) (zcd ren) hst2 (by rw [h1]; exact hmu hk) fun j hj=>hcompat j ((hσ' _ _ h3).2 j hj)
   rw [h1] at this
   exact this
  ·rw [hrest hj] at ho
   have hok:=hi.ob id o ho
   have e2:=hmu' hj
   have hfree:∀ b,(μ id).blk=some b→w'.heap[b]?=w.heap[b]?:=by
    intro b hb
    have hoi:owns μ id o b (μ id).f:=by cases o <;> simp [owns,hb]
    refine haf.goes.kept.blk b (zes hi ho hoi) fun i hm=>hj ?_
    obtain ⟨a,q,ha,hq,h1⟩:=hmine b i hm
    exact hi.blockApart ho hq hoi h1 ▸ ha
   have rv:∀ v x,RV w σ μ v x→RV w' (zf σ δ) (x8 μ μ1 ren) v x:=fun v x hv=>hv.stays hs fun id _ o ho=>hstill id o ho
   cases o with
   | val n v=>
    obtain ⟨b,cs,el,hb,hh,hn,ht,h1,hr,htag⟩:=hok
    exact ⟨b,cs,el,e2 ▸ hb,(hfree b hb).trans hh,hn,ht,h1,hr.map fun v x _=>rv v x,htag⟩
   | row l=>
    show qb w' _ (x8 μ μ1 ren id) l
    rw [e2]
    exact qb.stays hs hok fun b hb _=>hfree b hb
   | tok n=>
    intro b hb
    rw [e2] at hb ⊢
    obtain ⟨cs,el,fr,hh,hz⟩:=hok b hb
    exact ⟨cs,el,fr,(hfree b hb).trans hh,hz⟩
   | map ks vs=>
    obtain ⟨b,es,clock,hb,hh,hk,hv⟩:=hok
    exact ⟨b,es,clock,e2 ▸ hb,(hfree b hb).trans hh,hk.stays hs,hv.stays hs⟩
 ·by_cases hj:id∈ren
  ·obtain ⟨new,h3,h4⟩:=hownIn hj ho h1
   by_cases hj':id'∈ren
   ·obtain ⟨new',h3',h4'⟩:=hownIn hj' ho' h2
    have:=haf.inv.apart _ _ _ _ b i h3 h3' h4 h4'
    rw [← (x7 hj).1,← (x7 hj').1,this]
   ·rw [hrest hj'] at ho'
    exact (haf.inv.frame _ _ b i h3 h4 i (by rw [hfr1]; exact .inr ⟨id',o',hj',ho',(qc (hmu' hj') o' b i).1 h2⟩)).elim
  ·rw [hrest hj] at ho
   have h1':=(qc (hmu' hj) o b i).1 h1
   by_cases hj':id'∈ren
   ·obtain ⟨new',h3',h4'⟩:=hownIn hj' ho' h2
    exact (haf.inv.frame _ _ b i h3' h4' i (by rw [hfr1]; exact .inr ⟨id,o,hj,ho,h1'⟩)).elim
   ·rw [hrest hj'] at ho'
    exact hi.apart _ _ _ _ b i ho ho' h1' ((qc (hmu' hj') o' b i).1 h2)
 ·by_cases hj:id∈ren
  ·obtain ⟨new,h3,h4⟩:=hownIn hj ho h
   exact haf.inv.frame _ _ b i h3 h4 j (by rw [hfr1]; exact .inl hf)
  ·rw [hrest hj] at ho
   exact hi.frame id o b i ho ((qc (hmu' hj) o b i).1 h) j hf
 ·exact Nat.lt_of_lt_of_le (hi.frLt b i hf) haf.goes.kept.size
 ·have hlt:=hi.frLt q i hf
  rw [haf.goes.kept.blk q hlt fun k hm=>by
   obtain ⟨a,p,ha,hp,h1⟩:=hmine q k hm
   exact hi.frame a p q k hp h1 i hf] at hm
  exact hi.frMap q es clock i hm hf
theorem zyk(hi:Inv cx w σ μ){args:List V}{vs:List Value}(hv:RVs w σ μ vs args){ren:List Nat}(hnd:ren.Nodup)(hargs:∀ i∈V.idsL args,i∈ren)
  (hcl:∀ i∈ren,∃ o,zi σ i=some o∧∀ j∈o.ids,j∈ren) :
  (xn σ ren 0 ren).length=ren.length∧Inv cx w (xn σ ren 0 ren) (wo σ μ ren)∧Canon (xn σ ren 0 ren)∧RVs w (xn σ ren 0 ren) (wo σ μ ren) vs (V.renL (xo ren) args) ∧
   (∀ i∈V.idsL (V.renL (xo ren) args),i<(xn σ ren 0 ren).length)∧(∀ k,k<(xn σ ren 0 ren).length→∃ o,zi (xn σ ren 0 ren) k=some o) ∧
   zr (xn σ ren 0 ren) (wo σ μ ren)=zr σ μ:=by
 have hex:∀ i∈ren,∃ o,zi σ i=some o:=fun i h=>let ⟨o,ho,_⟩:=hcl i h; ⟨o,ho⟩
 have hown:=zq1 (μ:=μ) hex
 have hst:Stays w (zr σ μ) w (zr (xn σ ren 0 ren) (wo σ μ ren)):=by rw [hown]; exact Stays.refl _ _
 have hlen:(xn σ ren 0 ren).length=ren.length:=zjp σ ren ren 0 hex
 have hinv:=zzk hi hnd hcl
 have hcanon:Canon (xn σ ren 0 ren):=fun k o ho=>by
  obtain ⟨a,q,hk,hq,rfl,hlt⟩:=zbn hex ho
  refine ⟨by omega,fun i hin=>?_⟩
  rw [Ob.ren_ids,List.mem_map] at hin
  obtain ⟨j,hj,rfl⟩:=hin
  obtain ⟨q',hq',hids⟩:=hcl a (List.mem_of_getElem? hk)
  rw [hq] at hq'; cases hq'
  rw [hlen]
  exact (x7 (hids j hj)).2
 have hvs:RVs w (xn σ ren 0 ren) (wo σ μ ren) vs (V.renL (xo ren) args):=
  hv.rename (xo ren) hst fun id hid=>⟨by rw [zfg hex (hargs id hid)]; exact zaz.ren _ _,congrArg μ.lo (x7 (hargs id hid)).1⟩
 have hargs':∀ i∈V.idsL (V.renL (xo ren) args),i<(xn σ ren 0 ren).length:=fun i hin=>by
  rw [V.renL_ids,List.mem_map] at hin
  obtain ⟨j,hj,rfl⟩:=hin
  rw [hlen]
  exact (x7 (hargs j hj)).2
 have hfull:∀ k,k<(xn σ ren 0 ren).length→∃ o,zi (xn σ ren 0 ren) k=some o:=fun k hk=>by
  rw [hlen] at hk
  obtain ⟨i,hik⟩:=yv hk
  obtain ⟨o,ho⟩:=hex i (List.mem_of_getElem? hik)
  have:=zfg hex (List.mem_of_getElem? hik)
  rw [za0 hnd hik,ho] at this
  exact ⟨_,this⟩
 exact ⟨hlen,hinv,hcanon,hvs,hargs',hfull,hown⟩
theorem zow{call:Nat→List V→St→Option (Out×St)}(hcall:zad cx call)(hi:Inv cx w σ μ){t f:Nat}{args:List V}{xs:List Nat}{vs:List Value}(hv:RVs w σ μ vs args){K:Oc→De→List Nat→Option R}{r:R}
  (h:qo cx call σ t f args xs K=some r) :
  ∃ oc δ fp,K oc δ fp=some r∧(∃ fn,cx.P.funcs[f]?=some fn∧fn.body.isNone=false)∧Calls cx.P f vs.toArray w fun e w'=>∃ μ',After cx w σ μ w' (zf σ δ) μ' ∧
   match oc,e with
   | .val v,.returned x=>RV w' (zf σ δ) μ' x v
   | .pan v,.panicked chain=>∃ x,chain=[{ v:=x,recovered:=false }]∧RV w' (zf σ δ) μ' x v
   | _,_=>False:=by
 unfold qo at h
 simp only at h
 generalize hren:qa σ 1000 (V.idsL args++xs) []=ren at h
 obtain ⟨hc,h⟩:=ze h
 obtain ⟨_,h⟩:=ze h
 obtain ⟨hnd,hargs0,hcl⟩:=ze9 hc
 have hargs:∀ i∈V.idsL args,i∈ren:=fun i hi=>hargs0 i (List.mem_append_left _ hi)
 have hex:∀ i∈ren,∃ o,zi σ i=some o:=fun i h=>let ⟨o,ho,_⟩:=hcl i h; ⟨o,ho⟩
 obtain ⟨hlen,hinv,hcanon,hvs,hargs',hfull,_⟩:=zyk hi hv hnd hargs hcl
 have fin:∀ (out:Out) (σ':St) (δ:De),call f (V.renL (xo ren) args) (xn σ ren 0 ren)=some (out,σ')→δ.map (·.1)=ren →
   (∀ (j i:Nat),ren[j]?=some i→∃ old new o,zi σ i=some old∧zi σ' (0+j)=some new∧δ[j]?=some (i,o)∧LikeO (new.ren (zcd ren)) o) →
   (∀ k o,zi σ' k=some o→k<ren.length∧∀ i∈o.ids,i<ren.length) →
   ∀ (w':World) (μ1:Mu),After cx w (xn σ ren 0 ren) (wo σ μ ren) w' σ' μ1 →
    After cx w σ μ w' (zf σ δ) (x8 μ μ1 ren) ∧
    ∀ (x:Value) (v:V),(∀ i∈v.ids,i<ren.length)→RV w' σ' μ1 x v→RV w' (zf σ δ) (x8 μ μ1 ren) x (v.ren (zcd ren)):=
  fun _ _ _ _ h1 h2 h3 _ _ h4=>zvd hi hnd hcl h1 h2 h3 h4
 cases hcl2:call f (V.renL (xo ren) args) (xn σ ren 0 ren) with
 | none=>rw [hcl2] at h; cases h
 | some p=>
  obtain ⟨out,σ'⟩:=p
  rw [hcl2] at h
  obtain ⟨hfn,hσ',hout,hrun⟩:=hcall.2 f _ _ out σ' hcl2 w (wo σ μ ren) vs hinv hcanon hargs' hfull hvs
  rw [hlen] at hσ' hout
  cases out with
  | ret v=>
   obtain ⟨δ,h1,h2,h3⟩:=zd2 ren 0 h
   obtain ⟨u,h4,h5⟩:=zou h1
   refine ⟨.val u,δ,ren,h4,hfn,hrun.mono ?_⟩
   intro e w' ⟨μ1,haf,hv⟩
   obtain ⟨g1,g2⟩:=fin _ σ' δ hcl2 h2 h3 hσ' w' μ1 haf
   refine ⟨x8 μ μ1 ren,g1,?_⟩
   cases e with
   | returned x=>exact h5 _ _ _ _ (g2 x v hout hv)
   | _=>exact hv.elim
  | pan v=>
   obtain ⟨δ,h1,h2,h3⟩:=zd2 ren 0 h
   refine ⟨.pan (v.ren (zcd ren)),δ,ren,h1,hfn,hrun.mono ?_⟩
   intro e w' ⟨μ1,haf,hv⟩
   obtain ⟨g1,g2⟩:=fin _ σ' δ hcl2 h2 h3 hσ' w' μ1 haf
   refine ⟨x8 μ μ1 ren,g1,?_⟩
   cases e with
   | panicked chain=>obtain ⟨x,hx,hr⟩:=hv; exact ⟨x,hx,g2 x v hout hr⟩
   | _=>exact hv.elim
end
end Go.Vai
end

section
namespace Go.Vai
section
variable {R:Type} {cx:Cx} {w:World} {σ:St} {μ:Mu}
theorem vn{s:Sem Value}{P:Program}{w w':World}{v:Value}(h:s.run P w=.ok v w'):(do pure (Next.value (←s)):Sem Next).run P w=.ok (.value v) w':=by
 rw [Sem.run_bind,h]; rfl
theorem zxu{s:Sem Unit}{P:Program}{w w':World}(h:s.run P w=.ok () w'):(do s; pure Next.skip:Sem Next).run P w=.ok .skip w':=by
 rw [Sem.run_bind,h]; rfl
theorem zgi{x:V}{K:Nat→List D→Option R}{r:R}(h:dataOf x K=some r):∃ sz l,dataOf x (fun a b=>some (a,b))=some (sz,l)∧K sz l=some r:=by
 unfold dataOf at h ⊢
 split at h <;> first
  | exact ⟨_,_,rfl,h⟩
  | cases h
theorem vq{id:Nat}{o:Ob}(h:yf σ [(id,o)]=true):zi σ id=none:=by
 unfold yf at h
 cases hg:zi σ id with
 | none=>rfl
 | some q=>rw [hg] at h; simp at h
def xc(P : Program) : Prop := ∀ (f : Nat) (fn : Func), P.funcs[f]? = some fn → fn.name ≠ "runtime.NumGoroutine"
theorem zfz(hn:xc cx.P){f:Nat}{fn:Func}{args:Array Value}(hf:cx.P.funcs[f]?=some fn)(hb:fn.body.isNone=false) :
  (callFunc f args).run cx.P w=.ok (.enter f args) w:=by
 have h1 : (fn.name == "runtime.NumGoroutine") = false := by simpa using hn f fn hf
 unfold callFunc
 rw [Sem.run_bind,run_program,Result.andThen_ok]
 simp only [hf,h1,hb,Bool.false_eq_true,if_false]
 rfl
theorem zq2{v:V}{v':Value}(h:RV w σ μ v' v):RV w σ μ v' v.handed:=by
 cases h with
 | sl v sz l id n h ht hn he=>exact .d _ _ h
 | d v x h=>exact .d _ _ h
 | ptr id off b hi hb=>exact .ptr id off b hi hb
 | eptr x b o off xs hc h=>exact .eptr x b o off xs hc h
 | gptr g off=>exact .gptr g off
 | agg cs l hl ho h=>exact .agg cs l hl ho h
 | slo id sz k cap base l hi hk hcap hn he=>exact .slo id sz k cap base l hi hk hcap hn he
 | wptr id sz k i off a l hi hk he=>exact .wptr id sz k i off a l hi hk he
 | mfunc f cs l h=>exact .mfunc f cs l h
 | func f cs l hl h=>exact .func f cs l hl h
 | map id b ks vs hi hb=>exact .map id b ks vs hi hb
 | iface t v u h=>exact .iface t v u h
 | tup cs l hl h=>exact .tup cs l hl h
theorem zi1{v:V}{v':Value}(h:RV w σ μ v' v):RV w σ μ v' v.handed2:=by
 cases v with
 | agg l=>
  cases hd:zg1 (.agg l) with
  | some d=>
   have e:V.handed2 (.agg l)=.d d:=by simp [V.handed2,hd]
   rw [e]
   exact .d _ _ (zfk h hd)
  | none=>
   have e:V.handed2 (.agg l)=.agg l:=by simp [V.handed2,hd]
   rw [e]
   exact h
 | _=>exact zq2 h
theorem z3h{b:Bool}{v:V}{v':Value}(h:RV w σ μ v' v):RV w σ μ v' (z6f b v):=by
 cases b
 ·exact h
 ·exact zi1 h
theorem zhg{keep:Bool}{vs:List Value}{l:List V}(h:RVs w σ μ vs l):RVs w σ μ vs (zbd keep l):=by
 unfold zbd
 cases keep
 ·refine ⟨by simp [h.1],fun i x y hx hy=>?_⟩
  simp only [cond_false,List.getElem?_map,Option.map_eq_some_iff] at hy
  obtain ⟨z,hz,rfl⟩:=hy
  exact zi1 (h.2 i x z hx hz)
 ·exact h
theorem RVs.append'{vs ws:List Value}{l k:List V}(h:RVs w σ μ vs l)(h':RVs w σ μ ws k):RVs w σ μ (vs++ws) (l++k):=by
 refine ⟨by simp [h.1,h'.1],fun i x y hx hy=>?_⟩
 by_cases hi:i<vs.length
 ·rw [List.getElem?_append_left hi] at hx
  rw [List.getElem?_append_left (by rw [←h.1]; exact hi)] at hy
  exact h.2 i x y hx hy
 ·rw [List.getElem?_append_right (by omega)] at hx
  rw [List.getElem?_append_right (by rw [←h.1]; omega)] at hy
  rw [←h.1] at hy
  exact h'.2 _ x y hx hy
theorem ztd:∀ {l:List V} {ds:List D},zd3 l=some ds→l=ds.map .d
 | [],ds,h=>by cases h; rfl
 | x::l,ds,h=>by
  cases x <;> first | (simp [zd3] at h; done) | skip
  simp only [zd3] at h
  split at h
  ·rename_i l' hl; cases h; rw [ztd hl]; rfl
  ·cases h
theorem znj{a:Act}{fr:Fr}(hf:FR w σ μ a.tmps fr){x:Option Operand}{K:Option V→Option R}{r:R}
  (h:zf2 fr x K=some r):∃ v,K v=some r∧zqg w σ μ v (x.map a.eval):=by
 cases x with
 | none=>exact ⟨none,h,trivial⟩
 | some x=>obtain ⟨v,hv,h⟩:=zd h; exact ⟨some v,h,xv hf hv⟩
theorem zpb{a:Act}{fr:Fr}(hi:Inv cx w σ μ)(hf:FR w σ μ a.tmps fr){id:Nat}(haf:After cx w σ μ w (zf σ [(id,.tok 0)]) (setMu μ id ⟨none,0,0,0⟩))(hg:zi σ id=none) :
  ∀ (xs:List Operand) (ts:List Nat) (l:List V),zbj cx.P fr id xs ts=some l→RVs w (zf σ [(id,.tok 0)]) (setMu μ id ⟨none,0,0,0⟩) (xs.map a.eval) l
 | [],ts,l,h=>by simp only [zbj] at h; cases h; exact ⟨rfl,by simp⟩
 | x::xs,ts,l,h=>by
  simp only [zbj] at h
  split at h
  ·cases h
  ·rename_i l' hl
   have ih:=zpb hi hf haf hg xs _ l' hl
   have one:∀ {v:V},RV w (zf σ [(id,.tok 0)]) (setMu μ id ⟨none,0,0,0⟩) (a.eval x) v→RVs w (zf σ [(id,.tok 0)]) (setMu μ id ⟨none,0,0,0⟩) ((x::xs).map a.eval) (v::l'):=by
    intro v hv
    refine ⟨by simp [ih.1],fun i p q hp hq=>?_⟩
    cases i with
    | zero=>simp at hp hq; subst hp; subst hq; exact hv
    | succ i=>exact ih.2 i p q (by simpa using hp) (by simpa using hq)
   split at h
   ·split at h
    ·cases h
     exact one (zia (w:=w) (μ:=μ) (base:=none) hg (cap:=0) rfl (.inr rfl)).2
    ·cases h
   ·split at h
    ·rename_i v hv
     cases h
     exact one (haf.rv hi (xv hf hv))
    ·cases h
theorem zr1{P:Program}{t xt:Nat}{ok:Bool}{v:Value}{w:World}(ht:zaw P t=true)(hif:isIface P t=false) :
  (Instr.typeAssert (.iface t v) xt t ok).run P w=.ok (if ok then .tuple #[v,.bool true] else v) w:=by
 unfold zaw at ht
 unfold isIface at hif
 cases hu:P.underlying t with
 | none=>rw [hu] at ht; cases ht
 | some u=>
  rw [hu] at hif
  unfold Instr.typeAssert
  cases u <;> first | (cases hif; done) | simp [run_underlying hu]
theorem z1j{P:Program}{g:Nat}(h:zhe P g=true)(x:Value){w:World}:(callFunc g #[x]).run P w=.ok (.value x) w:=by
 unfold zhe at h
 split at h
 ·rename_i fn hfn
  simp only [Bool.and_eq_true,beq_iff_eq] at h
  obtain ⟨⟨h1,h2⟩,h3⟩:=h
  have e1:Extern.findNext fn=none:=by
   unfold Extern.findNext
   rw [h2,h3]
   kernel_rfl
  have e2:Extern.find fn=some Extern.AbiNoEscape.same:=by
   unfold Extern.find
   rw [h2,h3]
   kernel_rfl
  rw [run_callFunc_extern hfn (by rw [h2]; decide) h1 e1 e2]
  rfl
 ·cases h
theorem z3c{R:Type}{s t:Nat}{x:V}{x':Value}{K:V→List Nat→Option R}{r:R}(hi:Inv cx w σ μ)(hx:RV w σ μ x' x)(h:zor cx σ s t x K=some r) :
  ∃ v fp,K v fp=some r∧∃ v',(convert s t x').run cx.P w=.ok v' w∧RV w σ μ v' v:=by
 unfold zor at h
 split at h
 ·rename_i id off
  split at h
  ·rename_i n u ho
   obtain ⟨hc,h⟩:=ze h
   have hx0:=hx
   cases hx with | ptr _ _ b hcell hb=>?_
   obtain ⟨b',cs,el,hb',hh,hn,htup,h1,hr,htag⟩:=hi.ob id _ ho
   obtain rfl:b=b':=by rw [hb] at hb'; exact Option.some.inj hb'
   have hsh:w.shape? b=some (el,cs.size):=by simp [World.shape?,hh]
   refine ⟨_,_,h,_,?_,hx0⟩
   unfold z5w at hc
   split at hc
   ·rename_i e hs ht
    rw [Bool.and_eq_true] at hc
    obtain ⟨c1,c2⟩:=hc
    split at c1
    ·rename_i j hj
     have c3:off<cs.size:=by
      have:off<szN n:=by simpa using c2
      omega
     exact Go.Lib.run_to_unsafe w ⟨b,off,none⟩ hs ht hj (fun e0=>by rw [e0] at c1; cases c1) hsh c3
    ·cases c1
   ·rename_i e hs ht
    simp only [Bool.and_eq_true,Bool.not_eq_true'] at hc
    obtain ⟨⟨c1,c2⟩,c3⟩:=hc
    obtain ⟨j,hj⟩:=Option.isSome_iff_exists.1 c1
    have hel:el=n / 1048576 - 1:=by
     rcases htag with h | h
     ·have:Nat.blt n 1048576=true:=by simpa using h
      rw [this] at c2; cases c2
     ·show el=n / 1048576 - 1
      rw [h]; rfl
    refine Go.Lib.run_from_unsafe w ⟨b,off,none⟩ hs ht hj hsh ?_
    rw [hel,hn]
    exact c3
   ·cases hc
  ·cases h
 ·cases h
theorem zj9{m nt:Nat}{call:Nat→List V→St→Option (Out×St)}(hcall:zad cx call)(hn:xc cx.P)(hi:Inv cx w σ μ){a:Act}{fr:Fr}(hf:FR w σ μ a.tmps fr){o:Oper}
  {K:Oc→De→List Nat→Option R} {r:R} (h:x6 cx m nt call o fr σ K=some r):∃ oc δ fp,K oc δ fp=some r∧zcg cx w σ μ a o oc δ:=by
 obtain ⟨dst,op,type,pos,after,guard⟩:=o
 have hval:∀ {v:V} {v':Value} {fp},K (.val v) [] fp=some r→True→RV w σ μ v' v→((execOp a.eval ⟨dst,op,type,pos,after,guard⟩).run cx.P w=.ok (.value v') w) →
   ∃ oc δ fp,K oc δ fp=some r∧zcg cx w σ μ a ⟨dst,op,type,pos,after,guard⟩ oc δ:=fun hK _ hv hr=>⟨_,_,_,hK,zcg.value hi _ hr hv⟩
 have hmove:∀ {x:Operand},(execOp a.eval ⟨dst,op,type,pos,after,guard⟩=pure (.value (a.eval x))) →
   (match x with
   | .const (.slice none 0 0)=>
    (match cx.P.underlying type with
    | some (.slice e)=>(match zi σ (m+dst.getD 0) with
     | none=>bif cx.own nt (dst.getD 0) then K (.val (.slo (m+dst.getD 0) (cx.P.cellsOf e) 0)) [(m+dst.getD 0,.row [])] [m+dst.getD 0] else K (.val (.sl (cx.P.cellsOf e) [] (m+dst.getD 0))) [(m+dst.getD 0,.tok 0)] [m+dst.getD 0]
     | some _=>K (.val (.d (.sl (cx.P.cellsOf e) []))) [] [m+dst.getD 0])
    | _=>none)
   | x=>zc (opd fr x) fun v=>bif cx.thaw nt (dst.getD 0) then zif σ v fun v δ fp=>K (.val v) δ fp else K (.val v) [] [])=some r→∃ oc δ fp,K oc δ fp=some r∧zcg cx w σ μ a ⟨dst,op,type,pos,after,guard⟩ oc δ:=by
  intro x he h
  split at h
  ·split at h
   ·split at h
    ·rename_i hg
     cases hown:cx.own nt (dst.getD 0) <;> rw [hown] at h
     ·obtain ⟨h1,h2⟩:=zia (w:=w) (μ:=μ) (sz:=cx.P.cellsOf _) (base:=none) hg rfl (.inr rfl)
      exact ⟨_,_,_,h,zcg.of_upd hi _ (by rw [he]; rfl) (zib hg) h1 h2⟩
     ·obtain ⟨h1,h2⟩:=zy9 (w:=w) (μ:=μ) (sz:=cx.P.cellsOf _) hg
      exact ⟨_,_,_,h,zcg.of_upd hi _ (by rw [he]; rfl) (zib hg) h1 h2⟩
    ·exact hval h trivial (.d _ _ (.sl0 none 0 _)) (by rw [he]; rfl)
   ·cases h
  ·obtain ⟨v,hv,h⟩:=zd h
   cases hth:cx.thaw nt (dst.getD 0) <;> rw [hth] at h
   ·exact hval h trivial (xv hf hv) (by rw [he]; rfl)
   ·rw [cond_true] at h
    obtain ⟨u,δ,fp,hK,μ',ids,h1,h2,h3⟩:=z05 hi (xv hf hv) h
    exact ⟨_,_,_,hK,zcg.of_upd hi _ (by rw [he]; rfl) h1 h2 h3⟩
 cases op
 case makeFunc fn first caps=>
  cases fn <;> simp only [x6] at h <;> first | (cases h; done) | skip
  cases hfe:first.isEmpty <;> rw [hfe] at h
  ·rw [cond_false] at h
   obtain ⟨hc,q1⟩:=ze h
   obtain ⟨l,hl,q2⟩:=zd q1
   obtain ⟨ds,hds,hKK⟩:=zd q2
   have hce:caps = #[]:=by simpa using hc
   subst hce
   have h1:=zcw hf _ _ _ hl
   have h2:RVs w σ μ (first.toList.map a.eval) (l.map V.handed2):=⟨by simpa using h1.1,fun i x y hx hy=>by
    rw [List.getElem?_map,Option.map_eq_some_iff] at hy
    obtain ⟨z,hz,rfl⟩:=hy
    exact zi1 (h1.2 i x z hx hz)⟩
   rw [ztd hds] at h2
   exact hval hKK trivial (.mfunc _ (first.map a.eval) ds (by simpa using h2.rd)) (vn (by simp [Instr.makeFunc]))
  ·rw [cond_true] at h
   obtain ⟨l,hl,h⟩:=zd h
   have hfe:first = #[]:=by simpa using hfe
   subst hfe
   obtain ⟨h1,h2⟩:=zcw hf _ _ _ hl
   exact hval h trivial (.func _ (caps.map a.eval) l (by rw [←h1]; simp) fun i x y hx hy=>h2 i x y (by simpa using hx) hy) (vn (by simp [Instr.makeFunc]))
 case makeMap t rr=>
  cases rr <;> simp only [x6] at h <;> first | (cases h; done) | skip
  obtain ⟨hc,h⟩:=ze h
  obtain ⟨w',h1,h2,h3,h4⟩:=zv7 (cx:=cx) (w:=w) (μ:=μ) (t:=t) (vq hc)
  exact ⟨_,_,_,h,zcg.of_upd hi _ (vn h1) h2 h3 h4⟩
 all_goals simp only [x6] at h
 all_goals first | (cases h; done) | skip
 case move x=>exact hmove rfl h
 case assign x=>exact hmove rfl h
 case pick c x y=>
  obtain ⟨c',hc,h⟩:=zd h
  obtain ⟨b,rfl,h⟩:=zkj h
  have hcb:a.eval c=.bool b:=by
   have hr:=xv hf hc
   generalize a.eval c=q at hr
   cases hr with | d _ _ hd=>cases hd; rfl
  cases b
  ·obtain ⟨v,hv,h⟩:=zd h
   exact hval h trivial (xv hf hv) (by simp [execOp,hcb,Go.asBool])
  ·obtain ⟨v,hv,h⟩:=zd h
   exact hval h trivial (xv hf hv) (by simp [execOp,hcb,Go.asBool])
 case alloc e=>
  obtain ⟨z,hz,h⟩:=zd h
  obtain ⟨hc,h⟩:=ze h
  rw [Bool.and_eq_true,Bool.and_eq_true] at hc
  obtain ⟨t1,t2⟩:=zrz (cx:=cx) (nt:=nt) (dst:=dst) hc.2
  obtain ⟨w',μ',h1,h2,h3,h4⟩:=z3k (w:=w) (μ:=μ) t1 t2 hz _ rfl hc.1.1 (by
   have:=hc.1.2
   cases ha:xw cx.P e
   ·right; simpa [ha] using this
   ·exact .inl rfl)
  exact ⟨_,_,_,h,zcg.of_upd hi _ (vn h1) h2 h3 h4⟩
 case box e x=>
  obtain ⟨v,hv,h⟩:=zd h
  obtain ⟨hc,h⟩:=ze h
  simp only [Bool.and_eq_true,Bool.not_eq_true'] at hc
  obtain ⟨w',h1,h2,h3,h4⟩:=z8k (e:=e) hi (wm hf hv) hc.1.1.1 ((Nat.eq_of_beq_eq_true hc.1.1.2).trans (zrz (cx:=cx) (nt:=nt) (dst:=dst) hc.2).1.symm) (zrz hc.2).2 (vq hc.1.2)
  exact ⟨_,_,_,h,zcg.of_upd hi _ (vn h1) h2 h3 h4⟩
 case build t ps=>
  cases hty:cx.typed nt (dst.getD 0)
  ·rw [hty,cond_false] at h
   obtain ⟨z,hz,h⟩:=zd h
   obtain ⟨l,hl,h⟩:=zd h
   obtain ⟨cs,hcs,h⟩:=zd h
   obtain ⟨hk,h⟩:=ze h
   obtain ⟨v',h1,h2⟩:=z3f (w:=w) hf hz hl hcs hk
   exact hval h trivial (z3h h2) (vn h1)
  ·rw [hty,cond_true] at h
   obtain ⟨z,hz,h⟩:=zd h
   obtain ⟨hc,h⟩:=ze h
   simp only [Bool.and_eq_true] at hc
   have hps:ps = #[]:=by simpa using hc.1.1
   obtain ⟨v',μ',h1,h2,h3,h4⟩:=zz9 (w:=w) (μ:=μ) hz hc.1.2 hc.2
   exact ⟨_,_,_,h,zcg.of_upd hi _ (vn (by rw [hps]; simpa using h1)) h2 h3 h4⟩
 case buildSlice t n ps=>
  split at h
  ·rename_i e hu
   obtain ⟨z,hz,h⟩:=zd h
   obtain ⟨l,hl,h⟩:=zd h
   obtain ⟨xs,hx,h⟩:=zd h
   obtain ⟨hc,h⟩:=ze h
   simp only [Bool.and_eq_true,Bool.not_eq_true'] at hc
   cases hbare:zsn cx nt dst ps.toList <;> rw [hbare] at h
   case true=>
    obtain ⟨w',h1,h2,h3⟩:=zs3 hi hf hu hz hl hx (vq hc.1.1.1) (Nat.le_of_ble_eq_true hc.1.1.2) (Nat.le_of_ble_eq_true hc.1.2)
     (fun e=>by simp [e] at hc)
    exact ⟨_,_,_,h,zcg.of_upd hi _ (vn h1) h2 (fun j hj=>by simp at hj) h3⟩
   cases hown:cx.own nt (dst.getD 0) <;> rw [hown] at h
   ·obtain ⟨w',lo,h1,h2,h3,h4⟩:=zil hi hf hu hz hl hx (vq hc.1.1.1) (Nat.le_of_ble_eq_true hc.1.1.2) (Nat.le_of_ble_eq_true hc.1.2)
     (fun e=>by simp [e] at hc)
    exact ⟨_,_,_,h,zcg.of_upd hi _ (vn h1) h2 h3 h4⟩
   ·obtain ⟨w',lo,h1,h2,h3,h4⟩:=zoy hi hf hu hz hl hx (vq hc.1.1.1) (Nat.le_of_ble_eq_true hc.1.1.2) (Nat.le_of_ble_eq_true hc.1.2)
     (fun e=>by simp [e] at hc)
    exact ⟨_,_,_,h,zcg.of_upd hi _ (vn h1) h2 h3 h4⟩
  ·cases h
 case makeSlice t n c=>
  obtain ⟨a',ha,h⟩:=zd h
  obtain ⟨b',hb,h⟩:=zd h
  obtain ⟨v,δ,fp,hK,v',w',μ',h1,h2,h3,h4⟩:=zpp hi (xv hf ha) (xv hf hb) h
  exact ⟨_,_,_,hK,zcg.of_upd hi _ (vn h1) h2 h3 h4⟩
 case lookup t x i ok=>
  obtain ⟨a',ha,h⟩:=zd h
  obtain ⟨b',hb,h⟩:=zd h
  obtain ⟨v,fp,hK,v',h1,h2⟩:=zv9 hi (xv hf ha) (xv hf hb) h
  exact hval hK trivial h2 (vn h1)
 case mapUpdate t mm k x | insert t mm k x=>
  obtain ⟨a',ha,h⟩:=zd h
  obtain ⟨b',hb,h⟩:=zd h
  obtain ⟨c',hc,h⟩:=zd h
  obtain ⟨δ,fp,hK,w',id,h1,h2,h3⟩:=zv6 hi (xv hf ha) (xv hf hb) (wm hf hc) h
  exact ⟨_,_,_,hK,zcg.of_skip hi (zxu h1) h2 h3⟩
 case load t p=>
  obtain ⟨p',hp,h⟩:=zd h
  obtain ⟨v,fp,h,v',h1,h2⟩:=zt5 hi (xv hf hp) h
  exact hval h trivial h2 (vn h1)
 case store t p x=>
  obtain ⟨p',hp,h⟩:=zd h
  obtain ⟨v,hv,h⟩:=zd h
  obtain ⟨hty,h⟩:=ze h
  obtain ⟨δ,fp,h,w',id,h1,h2,h3⟩:=zp4 hi (xv hf hp) (wm hf hv) h hty
  exact ⟨_,_,_,h,zcg.of_skip hi (zxu h1) h2 h3⟩
 case nilCheck x=>
  obtain ⟨v,hv,h⟩:=zd h
  have hr:=xv hf hv
  split at h
  ·refine hval h trivial hr ?_
   generalize hq:a.eval x=q at hr ⊢
   cases hr with | ptr id off b _ _=>simp [execOp,hq]
  ·refine hval h trivial hr ?_
   generalize hq:a.eval x=q at hr ⊢
   cases hr with | eptr x b o off xs hc hh=>simp [execOp,hq]
  ·refine hval h trivial hr ?_
   generalize hq:a.eval x=q at hr ⊢
   cases hr with | gptr g off=>simp [execOp,hq]
  ·refine hval h trivial hr ?_
   generalize hq:a.eval x=q at hr ⊢
   cases hr with | wptr id sz k i off a l _ _ _=>simp [execOp,hq]
  ·refine hval h trivial hr ?_
   generalize hq:a.eval x=q at hr ⊢
   cases hr with | func f cs l hl hh=>simp [execOp,hq]
  ·refine hval h trivial hr ?_
   generalize hq:a.eval x=q at hr ⊢
   cases hr with | mfunc f cs l hh=>simp [execOp,hq]
  ·cases h
 case binOp op t x y u=>
  obtain ⟨v1,hv1,h⟩:=zd h
  obtain ⟨v2,hv2,h⟩:=zd h
  obtain ⟨v,h,v',h1,h2⟩:=z5f (w:=w) (wm hf hv1) (wm hf hv2) h
  exact hval h trivial h2 (vn h1)
 case unOp op t x=>
  obtain ⟨v1,hv1,h⟩:=zd h
  obtain ⟨v,h,v',h1,h2⟩:=z6o (P:=cx.P) (w:=w) (xv hf hv1) h
  exact hval h trivial h2 (vn h1)
 case convert s t x=>
  obtain ⟨v1,hv1,h⟩:=zd h
  split at h
  ·rename_i e' e sz l id hu1 hu2
   split at h
   ·rename_i n hu3 hg
    obtain ⟨hc,h'⟩:=ze h
    clear h
    simp only [Bool.and_eq_true,Bool.not_eq_true',decide_eq_true_eq] at hc
    obtain e3:=Nat.eq_of_beq_eq_true hc.1.1
    subst e3
    have h:=h'
    rw [hu1] at hu2; cases hu2
    obtain ⟨w',h1,h2,h3,h4⟩:=zzo hi (wm hf hv1) (by have:=hc.1.2; intro e; simp [e] at this) hg hc.2 hu1 hu3
    exact ⟨_,_,_,h,zcg.of_upd hi _ (vn h1) h2 h3 h4⟩
   ·cases h
  ·cases hun:z2b cx.P s t <;> rw [hun] at h <;> simp only [cond_true,cond_false] at h
   ·obtain ⟨v,h,v',h1,h2⟩:=z3b (w:=w) (wm hf hv1) h
    exact hval h trivial h2 (vn h1)
   ·obtain ⟨v,fp,h,v',h1,h2⟩:=z3c hi (wm hf hv1) h
    exact hval h trivial h2 (vn h1)
 case makeInterface t x=>
  split at h
  ·cases h
  ·cases h
  ·rename_i hu1 hu2
   obtain ⟨v,hv,h⟩:=zd h
   have hr:=wm hf hv
   have hrun:(Instr.makeInterface t (a.eval x)).run cx.P w=.ok (.iface t (a.eval x)) w:=by
    unfold Instr.makeInterface
    cases hu:cx.P.underlying t with
    | none=>exact absurd hu hu2
    | some u=>
     rw [Sem.run_bind,run_underlying hu,Result.andThen_ok]
     cases u <;> first | rfl | exact absurd hu (hu1 _)
   split at h
   ·rename_i y hy
    exact hval h trivial (.d _ _ (.iface t _ _ (zfk hr hy))) (vn hrun)
   ·exact hval h trivial (.iface t _ _ hr) (vn hrun)
 case slice t x lo hii mx=>
  obtain ⟨v1,hv1,h⟩:=zd h
  obtain ⟨l,h,hl⟩:=znj hf h
  obtain ⟨hh,h,hhh⟩:=znj hf h
  obtain ⟨mm,h,hm⟩:=znj hf h
  obtain ⟨v,δ,fp,h,v',μ',ids,h1,h2,h3,h4⟩:=zy2 (wm hf hv1) hl hhh hm h
  exact ⟨_,_,_,h,zcg.of_upd hi _ (vn h1) h2 h3 h4⟩
 case fieldAddr s x f=>
  obtain ⟨v1,hv1,h⟩:=zd h
  obtain ⟨v,h,v',h1,h2⟩:=zps (w:=w) (xv hf hv1) h
  exact hval h trivial h2 (vn h1)
 case field t x f=>
  obtain ⟨v1,hv1,h⟩:=zd h
  obtain ⟨p,hp,h⟩:=zd h
  obtain ⟨v,h,v',h1,h2⟩:=z2m (w:=w) (xv hf hv1) hp h
  exact hval h trivial h2 (vn h1)
 case indexAddr t x i=>
  obtain ⟨v1,hv1,h⟩:=zd h
  obtain ⟨v2,hv2,h⟩:=zd h
  obtain ⟨v,h,v',h1,h2⟩:=zpq (w:=w) (xv hf hv1) (xv hf hv2) h
  exact hval h trivial h2 (vn h1)
 case index t x i=>
  obtain ⟨v1,hv1,h⟩:=zd h
  obtain ⟨v2,hv2,h⟩:=zd h
  obtain ⟨v,h,v',h1,h2⟩:=zzl (w:=w) (xv hf hv1) (xv hf hv2) h
  exact hval h trivial h2 (vn h1)
 case extract t i=>
  obtain ⟨v1,hv1,h⟩:=zd h
  obtain ⟨l,rfl,h⟩:=zo4 h
  obtain ⟨v,hv,h⟩:=zh0 h
  have hr:=xv hf hv1
  generalize hq:a.eval t=q at hr
  cases hr with | tup cs _ hl hh=>?_
  have hlt:i<cs.size:=by rw [hl]; exact (List.getElem?_eq_some_iff.1 hv).1
  exact hval h trivial (hh i cs[i] v (by simp) hv) (vn (by simp [Instr.extract,hq,hlt]))
 case panic x=>
  obtain ⟨v1,hv1,h⟩:=zd h
  split at h <;> first | (cases h; done) | skip
  rename_i t y
  have hr:=xv hf hv1
  refine ⟨_,_,_,h,fun next Q hk=>?_⟩
  have hk:=hk _ w μ (After.refl hi) hr
  generalize hq:a.eval x=q at hr hk
  cases hr with | d v' _ hd=>?_
  cases hd with | iface _ v0 _ h0=>?_
  unfold Oper.wp
  have:(execOp a.eval ⟨dst,.panic x,type,pos,after,guard⟩).run cx.P w=.halt (.panic (.iface t v0)) w:=by
   simp [execOp,hq,Instr.panic]
  rw [this]
  exact hk
 case typeAssert x xt t ok=>
  obtain ⟨v,hv,h1⟩:=zd h
  clear h
  unfold zki at h1
  obtain ⟨hc,h2⟩:=ze h1
  clear h1
  simp only [Bool.and_eq_true,Bool.not_eq_true'] at hc
  split at h2
  ·rename_i t' y
   cases hb:Nat.beq t' t <;> rw [hb] at h2
   ·cases h2
   ·obtain rfl:=Nat.eq_of_beq_eq_true hb
    have hr:=xv hf hv
    generalize hq:a.eval x=q at hr
    cases hr with | d v' _ hd=>?_
    cases hd with | iface _ v0 _ h0=>?_
    refine hval h2 trivial ?_ (vn (v:=if ok then .tuple #[v0,.bool true] else v0) (by rw [hq]; exact zr1 hc.1 hc.2))
    cases ok
    ·exact .d _ _ h0
    ·refine .tup _ _ rfl fun i p q hp hq=>?_
     match i with
     | 0=>simp at hp hq; subst hp; subst hq; exact .d _ _ h0
     | 1=>simp at hp hq; subst hp; subst hq; exact .d _ _ (.bool true)
     | i+2=>simp at hp
  ·cases h2
 case call c=>
  obtain ⟨callee,cargs,ctypes⟩:=c
  split at h
  ·rename_i f hcl
   simp only at hcl
   subst hcl
   obtain ⟨fv,hfv,h⟩:=zd h
   split at h <;> first | (cases h; done) | skip
   ·rename_i g first
    have hr:=xv hf hfv
    generalize hq:a.eval f=q at hr
    cases hr with | mfunc _ cs _ hcs=>?_
    have hrun:∀ {fn:Func},cx.P.funcs[g]?=some fn→fn.body.isNone=false→(execOp a.eval ⟨dst,.call ⟨.value f,cargs,ctypes⟩,type,pos,after,guard⟩).run cx.P w=.ok (.enter g (cs.toList++cargs.toList.map a.eval).toArray) w:=by
     intro fn hfn hbody
     simp only [execOp,resolve,hq,Deferred.ofValue]
     rw [Sem.run_bind]
     simp only [Sem.run_pure,Result.andThen_ok,invoke]
     rw [show (cs++Array.map a.eval cargs++#[])=(cs.toList++cargs.toList.map a.eval).toArray by
      apply Array.ext'; simp]
     exact zfz hn hfn hbody
    obtain ⟨l,hl,h⟩:=zd h
    have hargs:RVs w σ μ (cs.toList++cargs.toList.map a.eval) (first.map .d++zbd (cx.keep g) l):=
     RVs.append' hcs.rv (zhg (zcw hf _ _ _ hl))
    obtain ⟨oc,δ,fp,hK,⟨fn,hfn,hbody⟩,hcalls⟩:=zow hcall hi hargs h
    refine ⟨oc,δ,fp,hK,fun next Q hk=>?_⟩
    unfold Oper.wp
    rw [hrun hfn hbody,Oper.upon_enter]
    refine hcalls.mono fun e w' ⟨μ',haf,he⟩=>?_
    cases oc with
    | val v=>cases e <;> first | exact hk _ _ _ haf he | exact he.elim
    | pan v=>cases e <;> first | exact he.elim | (obtain ⟨x,rfl,hx⟩:=he; exact hk _ _ _ haf hx)
   rename_i g cap
   have hr:=xv hf hfv
   generalize hq:a.eval f=q at hr
   cases hr with | func _ cs _ hcl hch=>?_
   have hrun:∀ {fn:Func},cx.P.funcs[g]?=some fn→fn.body.isNone=false→(execOp a.eval ⟨dst,.call ⟨.value f,cargs,ctypes⟩,type,pos,after,guard⟩).run cx.P w=.ok (.enter g (cargs.toList.map a.eval++cs.toList).toArray) w:=by
    intro fn hfn hbody
    simp only [execOp,resolve,hq,Deferred.ofValue]
    rw [Sem.run_bind]
    simp only [Sem.run_pure,Result.andThen_ok,invoke]
    rw [show (#[]++Array.map a.eval cargs++cs)=(cargs.toList.map a.eval++cs.toList).toArray by
     apply Array.ext'; simp]
    exact zfz hn hfn hbody
   have hcap:RVs w σ μ cs.toList cap:=⟨by simpa using hcl,fun i x y hx hy=>hch i x y (by simpa using hx) hy⟩
   have tokd:∀ {l:List V} {xs:List Nat},yf σ [(m+dst.getD 0,Ob.tok 0)]=true →
     (zi σ (m+dst.getD 0)=none→After cx w σ μ w (zf σ [(m+dst.getD 0,.tok 0)]) (setMu μ (m+dst.getD 0) ⟨none,0,0,0⟩)→RVs w (zf σ [(m+dst.getD 0,.tok 0)]) (setMu μ (m+dst.getD 0) ⟨none,0,0,0⟩) (cargs.toList.map a.eval) l) →
     (qo cx call (qg σ (m+dst.getD 0) (.tok 0)) type g (l++cap) xs fun oc δ fp=>K oc ((m+dst.getD 0,Ob.tok 0)::δ) ((m+dst.getD 0)::fp))=some r →
     ∃ oc δ fp,K oc δ fp=some r∧zcg cx w σ μ a ⟨dst,.call ⟨.value f,cargs,ctypes⟩,type,pos,after,guard⟩ oc δ:=by
    intro l xs hfr hl h
    have hg:=vq hfr
    obtain ⟨hob,_⟩:=zia (w:=w) (μ:=μ) (sz:=0) (base:=none) hg (cap:=0) rfl (.inr rfl)
    have haf0:=(zib (cx:=cx) (w:=w) (μ:=μ) (ob:=.tok 0) hg).after hi hob
    have hargs:RVs w (qg σ (m+dst.getD 0) (.tok 0)) (setMu μ (m+dst.getD 0) ⟨none,0,0,0⟩) (cargs.toList.map a.eval++cs.toList) (l++cap):=
     RVs.append' (hl hg haf0) (hcap.map fun v x _ hv=>haf0.rv hi hv)
    obtain ⟨oc,δ,fp,hK,⟨fn,hfn,hbody⟩,hcalls⟩:=zow hcall haf0.inv hargs h
    refine ⟨oc,_,_,hK,fun next Q hk=>?_⟩
    unfold Oper.wp
    rw [hrun hfn hbody,Oper.upon_enter]
    refine hcalls.mono fun e w' ⟨μ',haf,he⟩=>?_
    cases oc with
    | val v=>cases e <;> first | exact hk _ _ _ (haf0.trans haf) he | exact he.elim
    | pan v=>cases e <;> first | exact he.elim | (obtain ⟨x,rfl,hx⟩:=he; exact hk _ _ _ (haf0.trans haf) hx)
   cases hgr:(cx.grow g).isSome <;> rw [hgr] at h <;> simp only [cond_true,cond_false] at h
   rotate_left
   ·unfold zij at h
    split at h
    ·rename_i y hargs
     obtain ⟨e,he,h⟩:=zd h
     obtain ⟨v,hv,h⟩:=zd h
     split at h
     ·rename_i n
      obtain ⟨hc,hK⟩:=ze h
      simp only [Bool.and_eq_true,decide_eq_true_eq] at hc
      obtain ⟨⟨⟨⟨h0,h1⟩,hce⟩,hfr⟩,hsm⟩:=hc
      have hg:=vq hfr
      have hc0:cs.toList=[]:=by
       have h1:cap.length=0:=by simpa using hce
       exact List.eq_nil_of_length_eq_zero (by rw [hcap.1]; exact h1)
      obtain ⟨⟨fn,hfn,hbody⟩,hcalls⟩:=hcall.1 g e he n w h0 h1
      have hya:=(xv hf hv).int_inv
      have hav:(cargs.toList.map a.eval++cs.toList).toArray = #[.slice none 0 0,.int .i64 n]:=by
       rw [hargs,hc0]; simp [hya]; rfl
      have hsm:cx.P.cellsOf e<1048576:=by simpa using hsm
      refine ⟨_,_,_,hK,fun next Q hk=>?_⟩
      unfold Oper.wp
      rw [hrun hfn hbody,Oper.upon_enter,hav]
      refine hcalls.mono fun x w' ⟨base,c,hx,hw⟩=>?_
      subst hx
      rcases hw with ⟨rfl,rfl,rfl⟩ | ⟨ncs,el,rfl,rfl,hsize⟩
      ·obtain ⟨b1,b2⟩:=zia (w:=w') (μ:=μ) (sz:=cx.P.cellsOf e) (base:=none) (cap:=0) hg rfl (.inr rfl)
       exact hk _ _ _ ((zib (cx:=cx) hg).after hi b1) b2
      ·have hnh:(w.drew.alloc (.cells ncs el)).heap[w.heap.size]?=some (.cells ncs el (0,0)):=vk (w:=w.drew)
       have hup:Upd cx w σ μ (w.drew.alloc (.cells ncs el)) (zf σ [(m+dst.getD 0,.tok 0)]) (setMu μ (m+dst.getD 0) ⟨some w.heap.size,0,c * cx.P.cellsOf e,el⟩) [m+dst.getD 0]:=
        ziv (δ:=[(m+dst.getD 0,.tok 0)]) rfl rfl (by simp) (fun b hb=>alloc_old (w:=w.drew) b hb) hfr rfl (fun j hj=>by simp at hj; simp [setMu,hj])
         (fun j hj b hb=>by simp at hj; subst hj; simp [setMu] at hb; omega) (fun j hj j' hj' b _ _=>by simp at hj hj'; rw [hj,hj'])
       have hnew:zi (zf σ [(m+dst.getD 0,Ob.tok 0)]) (m+dst.getD 0)=some (.tok 0):=by simp [zf,zp]
       refine hk _ _ _ (hup.after hi fun j hj o' ho'=>?_) ?_
       ·simp at hj; subst hj
        rw [hnew] at ho'; cases ho'
        intro b' hb'
        have hbb:w.heap.size=b':=by simpa [setMu] using hb'
        subst hbb
        exact ⟨ncs,el,(0,0),hnh,by simp [setMu],by simp [setMu,hsize],.inl rfl⟩
       ·exact .slm (zkm hsm) (.sl0 _ _ _) hnew (Nat.le_refl _) fun _=>zfr (zkm hsm) (by simp [setMu]) (by simp [setMu]) (by simp [setMu]) (Nat.zero_le _) (.inl hsm)
     ·cases h
    ·cases h
   cases hsm:(zhe cx.P g&&cap.isEmpty) <;> rw [hsm] at h <;> simp only [cond_true,cond_false] at h
   rotate_left
   ·rw [Bool.and_eq_true] at hsm
    obtain ⟨l,hl,h⟩:=zd h
    have hal:=zcw hf _ _ _ hl
    unfold zzd at h
    split at h
    ·rename_i v
     have hc0:cs.toList=[]:=by
      have h1:cap.length=0:=by simpa using hsm.2
      exact List.eq_nil_of_length_eq_zero (by rw [hcap.1]; exact h1)
     obtain ⟨x,hx⟩:∃ x,cargs.toList.map a.eval=[x]:=List.length_eq_one_iff.1 hal.1
     have hrx:RV w σ μ x v:=hal.2 0 x v (by rw [hx]; rfl) rfl
     exact hval h trivial hrx (by
      simp only [execOp,resolve,hq,Deferred.ofValue]
      rw [Sem.run_bind]
      simp only [Sem.run_pure,Result.andThen_ok,invoke]
      rw [show (#[]++Array.map a.eval cargs++cs) = #[x] by
       apply Array.ext'; simp [hc0,hx]]
      exact z1j hsm.1 x)
    ·cases h
   cases hgv:cx.gives g <;> rw [hgv] at h
   ·cases hnil:(cx.keep g&&zi0 cargs.toList) <;> rw [hnil] at h
    ·obtain ⟨l,hl,h⟩:=zd h
     have hargs:RVs w σ μ (cargs.toList.map a.eval++cs.toList) (zbd (cx.keep g) l++cap):=
      RVs.append' (zhg (zcw hf _ _ _ hl)) hcap
     obtain ⟨oc,δ,fp,hK,⟨fn,hfn,hbody⟩,hcalls⟩:=zow hcall hi hargs h
     refine ⟨oc,δ,fp,hK,fun next Q hk=>?_⟩
     unfold Oper.wp
     rw [hrun hfn hbody,Oper.upon_enter]
     refine hcalls.mono fun e w' ⟨μ',haf,he⟩=>?_
     cases oc with
     | val v=>cases e <;> first | exact hk _ _ _ haf he | exact he.elim
     | pan v=>cases e <;> first | exact he.elim | (obtain ⟨x,rfl,hx⟩:=he; exact hk _ _ _ haf hx)
    ·obtain ⟨l,hl,h⟩:=zd h
     obtain ⟨hfr,h⟩:=ze h
     exact tokd hfr (fun hg haf0=>zpb hi hf haf0 hg _ _ _ hl) h
   ·obtain ⟨l,hl,h⟩:=zd h
    obtain ⟨hfr,h⟩:=ze h
    exact tokd hfr (fun hg haf0=>zhg ((zcw hf _ _ _ hl).map fun v x _ hv=>haf0.rv hi hv)) h
  ·rename_i hcl
   simp only at hcl
   subst hcl
   split at h
   ·rename_i x t hx ht
    obtain ⟨v1,hv1,h⟩:=zd h
    obtain ⟨v,fp,h,v',h1,h2⟩:=z4u (ty:=type) hi (wm hf hv1) h
    have e1:cargs = #[x]:=by apply Array.ext'; simpa using hx
    have e2:ctypes = #[t]:=by apply Array.ext'; simpa using ht
    subst e1 e2
    exact hval h trivial h2 (by
     simp only [execOp,resolve]
     rw [Sem.run_bind]
     simp only [Sem.run_pure,Result.andThen_ok,invoke,builtin]
     exact vn (by simpa using h1))
   ·cases h
  ·rename_i hcl
   simp only at hcl
   subst hcl
   split at h
   ·rename_i s x t t' hx ht
    obtain ⟨v1,hv1,h⟩:=zd h
    obtain ⟨v2,hv2,h⟩:=zd h
    obtain ⟨ht',h⟩:=ze h
    have e1:cargs = #[s,x]:=by apply Array.ext'; simpa using hx
    have e2:ctypes = #[t,t']:=by apply Array.ext'; simpa using ht
    subst e1 e2
    have hexec:∀ {v' w'},(Builtin.append_ #[t,t'] type #[a.eval s,a.eval x]).run cx.P w=.ok v' w' →
      (execOp a.eval ⟨dst,.call ⟨.builtin .append,#[s,x],#[t,t']⟩,type,pos,after,guard⟩).run cx.P w=.ok (.value v') w':=by
     intro v' w' h1
     simp only [execOp,resolve]
     rw [Sem.run_bind]
     simp only [Sem.run_pure,Result.andThen_ok,invoke,builtin]
     exact vn (by simpa using h1)
    unfold zey at h
    split at h
    ·rename_i e hu
     obtain ⟨sz',ys,hd,h⟩:=zgi h
     obtain ⟨hc,h⟩:=ze h
     simp only [Bool.and_eq_true,Bool.or_eq_true,Nat.beq_eq] at hc
     obtain ⟨z,hz⟩:=Option.isSome_iff_exists.1 hc.2
     have hsz':sz'=cx.P.cellsOf e∨ys=[]:=hc.1.1.imp id fun h=>by simpa using h
     have hby:=Nat.le_of_ble_eq_true hc.1.2
     cases hnil:zfe s
     ·rw [hnil,cond_false] at h
      split at h
      ·rename_i sz l id
       split at h
       ·rename_i n hg
        obtain ⟨hc2,h⟩:=ze h
        simp only [Bool.and_eq_true,decide_eq_true_eq] at hc2
        obtain ⟨⟨⟨hc3,hcT⟩,hc4⟩,hc5⟩:=hc2
        obtain ⟨v',w',lo,h1,h2,h3,h4⟩:=z0c (ty:=type) hi (wm hf hv1) (wm hf hv2) hd hu hz ht' hsz' (Nat.eq_of_beq_eq_true hc3) (zxo hcT) hby (hc4 ▸ hg) hc5
        exact ⟨_,_,_,h,zcg.of_upd hi _ (hexec h1) h2 h3 h4⟩
       ·cases h
      ·rename_i id sz k
       split at h
       ·rename_i l hg
        obtain ⟨hc2,hK⟩:=ze h
        clear h
        simp only [Bool.and_eq_true,decide_eq_true_eq] at hc2
        obtain ⟨⟨hc3,hc4⟩,hc5⟩:=hc2
        obtain rfl:=Nat.eq_of_beq_eq_true hc4
        obtain ⟨v',w',lo,h1,h2,h3,h4⟩:=zs7 (ty:=type) hi (wm hf hv1) (wm hf hv2) hd hu hz ht' hsz' (Nat.eq_of_beq_eq_true hc3) hby hg hc5
        exact ⟨_,_,_,hK,zcg.of_upd hi _ (hexec h1) h2 h3 h4⟩
       ·cases h
      ·cases h
     ·rw [hnil,cond_true] at h
      obtain ⟨hc2,h⟩:=ze h
      simp only [Bool.and_eq_true,decide_eq_true_eq] at hc2
      have hs:a.eval s=.slice none 0 0:=by
       unfold zfe at hnil
       split at hnil
       ·rfl
       ·cases hnil
      obtain ⟨v',w',lo,h1,h2,h3,h4⟩:=zpx (ty:=type) hi (wm hf hv2) hd hu hz ht' hsz' hby (vq hc2.1.1) hc2.1.2 (by simpa using hc2.2)
      rw [←hs] at h1
      exact ⟨_,_,_,h,zcg.of_upd hi _ (hexec h1) h2 h3 h4⟩
    ·cases h
   ·cases h
  ·cases h
end
end Go.Vai
end

section
namespace Go.Vai
section
variable {R α:Type} {cx:Cx} {σ:St}
abbrev yu:=Nat→List V→St→Option (Out×St)
theorem yw{β:Type}(o:Option β)(F:β→Option α)(K:α→Option R):zc (zc o F) K=zc o fun x=>zc (F x) K:=by cases o <;> rfl
theorem z8(b:Bool)(X:Option α)(K:α→Option R):zc (zb b X) K=zb b (zc X K):=by cases b <;> rfl
theorem xh(b:Bool)(X Y:Option α)(K:α→Option R):zc (bif b then X else Y) K=bif b then zc X K else zc Y K:=by cases b <;> rfl
theorem z7(K:α→Option R):zc none K=none:=rfl
theorem zv0(x:α)(K:α→Option R):zc (some x) K=K x:=rfl
theorem z3i(v:V)(F:Bool→Option α)(K:α→Option R):zc (asB v F) K=asB v fun x=>zc (F x) K:=by unfold asB; split <;> rfl
theorem zo8(x:D)(k:IntKind)(F:Int→Option α)(K:α→Option R):zc (asInt x k F) K=asInt x k fun x=>zc (F x) K:=by unfold asInt; split <;> simp only [xh,z7]
theorem zmh(x:D)(F:Bool→Option α)(K:α→Option R):zc (asBool x F) K=asBool x fun x=>zc (F x) K:=by unfold asBool; split <;> rfl
theorem zo7(x:D)(F:List UInt8→Option α)(K:α→Option R):zc (zmg x F) K=zmg x fun x=>zc (F x) K:=by unfold zmg; split <;> rfl
theorem zrr(x:D)(n:Nat)(F:List D→Option α)(K:α→Option R):zc (zvg x n F) K=zvg x n fun x=>zc (F x) K:=by unfold zvg; split <;> simp only [xh,z7]
theorem zpa(x:D)(n:Nat)(F:D→Option α)(K:α→Option R):zc (asAgg x n F) K=asAgg x n fun x=>zc (F x) K:=by unfold asAgg; split <;> simp only [xh,z7]
theorem zo9(x:V)(F:D→Option α)(K:α→Option R):zc (asD x F) K=asD x fun x=>zc (F x) K:=by unfold asD; split <;> rfl
theorem zbs(l:List D)(i:Nat)(F:D→Option α)(K:α→Option R):zc (za l i F) K=za l i fun x=>zc (F x) K:=by unfold za; split <;> rfl
theorem zdx(l:List V)(i:Nat)(F:V→Option α)(K:α→Option R):zc (zjw l i F) K=zjw l i fun x=>zc (F x) K:=by unfold zjw; split <;> rfl
theorem zo5(x:V)(F:List V→Option α)(K:α→Option R):zc (zo6 x F) K=zo6 x fun x=>zc (F x) K:=by unfold zo6; split <;> rfl
theorem ztf(l:List V)(F:V→List V→Option α)(K:α→Option R):zc (unc l F) K=unc l fun x y=>zc (F x y) K:=by unfold unc; split <;> rfl
theorem ztc(l:List V)(F:Option α)(K:α→Option R):zc (unn l F) K=unn l (zc F K):=by unfold unn; split <;> rfl
theorem zbq(P:Program)(t:Nat)(x:D)(F:V→Option α)(K:α→Option R):zc (zc7 P t x F) K=zc7 P t x fun x=>zc (F x) K:=by
 unfold zc7
 split <;> simp only [zo8,zmh,zo7,zrr,zpa,z7]
 split <;> rfl
theorem zgl(P:Program)(t:Nat)(x:V)(F:V→Option α)(K:α→Option R):zc (zdi P t x F) K=zdi P t x fun x=>zc (F x) K:=by
 unfold zdi
 split
 ·exact zbq P t _ F K
 ·exact z8 _ _ _
theorem zwd(op:BinOp)(k:IntKind)(a b:Int)(F:V→Option α)(K:α→Option R):zc (zq0 op k a b F) K=zq0 op k a b fun x=>zc (F x) K:=by cases op <;> first | rfl | simp only [zq0,z8,z7]
theorem zvu(op:BinOp)(a b:List UInt8)(F:V→Option α)(K:α→Option R):zc (zp3 op a b F) K=zp3 op a b fun x=>zc (F x) K:=by cases op <;> first | rfl | simp only [zp3,z8,z7]
theorem zr0(op:BinOp)(k:IntKind)(a b:Int)(F:V→Option α)(K:α→Option R):zc (zfw op k a b F) K=zfw op k a b fun x=>zc (F x) K:=by cases op <;> first | rfl | simp only [zfw,z8,z7]
theorem z2q(op:BinOp)(b:Bool)(F:V→Option α)(K:α→Option R):zc (eqV op b F) K=eqV op b fun x=>zc (F x) K:=by cases op <;> first | rfl | simp only [eqV,z7]
theorem z0a(P:Program)(cst:Bool)(op:BinOp)(t:Nat)(x y:V)(F:V→Option α)(K:α→Option R):zc (z0b P cst op t x y F) K=z0b P cst op t x y fun x=>zc (F x) K:=by
 unfold z0b
 split <;> first | rfl | simp only [zvu,z8,z2q,z7] | skip
 split <;> simp only [zr0,zwd,xh,z7]
theorem z02(op:UnOp)(x:V)(F:V→Option α)(K:α→Option R):zc (unV op x F) K=unV op x fun x=>zc (F x) K:=by unfold unV; split <;> rfl
theorem zva(x:V)(F:Nat→List D→Option α)(K:α→Option R):zc (dataOf x F) K=dataOf x fun a b=>zc (F a b) K:=by unfold dataOf; split <;> rfl
theorem zoq(x:V)(F:Nat→List D→Option α)(K:α→Option R):zc (zmd x F) K=zmd x fun a b=>zc (F a b) K:=by unfold zmd; split <;> rfl
theorem zw2(P:Program)(s d:Nat)(x:V)(F:V→Option α)(K:α→Option R):zc (zrk P s d x F) K=zrk P s d x fun x=>zc (F x) K:=by
 unfold zrk
 split <;> try rfl
 split <;> simp only [zoq,z8,z7]
 congr 1; funext a b; congr 1
 split <;> rfl
theorem zo1(v:Option V)(y d:Nat)(F:Nat→Option α)(K:α→Option R):zc (bound v y d F) K=bound v y d fun x=>zc (F x) K:=by unfold bound; split <;> simp only [z8,z7]
theorem ziz(v:V)(n:Nat)(F:Nat→Option α)(K:α→Option R):zc (index v n F) K=index v n fun x=>zc (F x) K:=by unfold index; split <;> simp only [z8,z7]
theorem zza(fr:Fr)(x:Option Operand)(F:Option V→Option α)(K:α→Option R):zc (zf2 fr x F) K=zf2 fr x fun x=>zc (F x) K:=by unfold zf2; split <;> simp only [yw]
theorem zft(x:D):∀ (n off:Nat) (F:List D→Option α) (K:α→Option R),zc (zeq x off n F) K=zeq x off n fun x=>zc (F x) K
 | 0,off,F,K=>rfl
 | n+1,off,F,K=>by simp only [zeq,zbs,zft x n]
theorem zwa(t:Nat)(p:V)(F:V→List Nat→Option α)(K:α→Option R):zc (zd8 cx σ t p F) K=zd8 cx σ t p fun a b=>zc (F a b) K:=by
 unfold zd8
 rw [z8]
 congr 1
 split
 ·split <;> simp only [xh,zgl,zbq,z8,zdx,zbs,z7]
 ·simp only [xh,zft,zbq,z8,zdx,zbs,z7]
 ·split <;> simp only [xh,zft,zbq,z8,zdx,zbs,z7]
 ·simp only [yw,xh,zpa,zbq,z8,zdx,zbs,z7]
 ·rfl
theorem ztm(t:Nat)(p v:V)(F:De→List Nat→Option α)(K:α→Option R):zc (zb3 cx σ t p v F) K=zb3 cx σ t p v fun a b=>zc (F a b) K:=by
 unfold zb3
 split <;> try rfl
 all_goals (split <;> simp only [yw,xh,z8,z7])
theorem zkh(P:Program):∀ (ts:List Nat) (vs:List V) (F:List V→Option α) (K:α→Option R),zc (zgm P ts vs F) K=zgm P ts vs fun x=>zc (F x) K
 | [],vs,F,K=>by simp only [zgm,ztc]
 | t::ts,vs,F,K=>by
  simp only [zgm,ztf,zgl]
  congr 1; funext v r; congr 1; funext u
  exact zkh P ts r _ K
theorem zs1(P:Program)(t:Nat)(v:V)(F:V→Option α)(K:α→Option R):zc (zgn P t v F) K=zgn P t v fun x=>zc (F x) K:=by
 unfold zgn
 split
 ·split <;> simp only [zo5,zkh]
 ·exact zgl P t v F K
theorem zns(o x:V)(F:V→Option α)(K:α→Option R):zc (znt o x F) K=znt o x fun x=>zc (F x) K:=by
 unfold znt
 split <;> simp only [zo9,zo8,zmh,zo7,zrr]
 split <;> simp only [xh,z7]
theorem znu:∀ (os vs:List V) (F:List V→Option α) (K:α→Option R),zc (znv os vs F) K=znv os vs fun x=>zc (F x) K
 | [],vs,F,K=>by simp only [znv,ztc]
 | o::os,vs,F,K=>by
  simp only [znv,ztf,zns]
  congr 1; funext v r; congr 1; funext u
  exact znu os r _ K
theorem zwb(o x:Ob)(F:Ob→Option α)(K:α→Option R):zc (zqs o x F) K=zqs o x fun x=>zc (F x) K:=by
 unfold zqs
 split
 ·rw [z8]
  congr 1
  split
  ·exact znu _ _ _ K
  ·rfl
 ·rw [z8,zns]
 ·rfl
theorem zmf(ren:List Nat)(σ':St):∀ (l:List Nat) (k:Nat) (F:De→Option α) (K:α→Option R),zc (za9 ren σ σ' k l F) K=za9 ren σ σ' k l fun x=>zc (F x) K
 | [],k,F,K=>rfl
 | i::l,k,F,K=>by
  simp only [za9,yw,zwb]
  congr 1; funext a; congr 1; funext b; congr 1; funext c
  exact zmf ren σ' l (k+1) _ K
theorem zi7(call:yu)(t f:Nat)(args:List V)(xs:List Nat)(F:Oc→De→List Nat→Option α)(K:α→Option R):zc (qo cx call σ t f args xs F) K=qo cx call σ t f args xs fun a b c=>zc (F a b c) K:=by
 unfold qo
 simp only [z8]
 congr 1
 congr 1
 split <;> simp only [zmf,zs1,z7]
end
end Go.Vai
end

section
namespace Go.Vai
section
variable {R:Type} {cx:Cx} {w:World} {σ:St} {μ:Mu}
def zgy(w:World)(σ:St)(μ:Mu):Ex→Exit→Prop
 | .normal,.normal=>True
 | .ret,.ret=>True
 | .exit i,.exit j=>i=j
 | .goto i,.goto j=>i=j
 | .pan v,.panic chain=>∃ x,chain=[{ v:=x,recovered:=false }]∧RV w σ μ x v
 | _,_=>False
structure Now (cx:Cx) (nt:Nat) (ds:List Deferred) (w₀:World) (σ₀:St) (μ₀:Mu) (a:Act) (w:World) (σ:St) (μ:Mu) (fr:Fr):Prop where
 after:After cx w₀ σ₀ μ₀ w σ μ
 fr:FR w σ μ a.tmps fr
 size:nt≤a.tmps.size
 defers:a.defers=ds
def xj(fr fr':Fr):Prop:=∀ t,zi fr' t=zi fr t
theorem FR.same{tmps:Array Value}{fr fr':Fr}(h:FR w σ μ tmps fr)(hs:xj fr fr'):FR w σ μ tmps fr':=fun t v ht=>h t v (by rw [←hs t]; exact ht)
theorem xj.refl(fr:Fr):xj fr fr:=fun _=>rfl
theorem xj.dup{fr:Fr}{t:Nat}{v:V}(h:zi fr t=some v):xj fr ((t,v)::fr):=by
 intro t'
 simp only [zi]
 cases hb:Nat.beq t t'
 ·rfl
 ·obtain rfl:=Nat.eq_of_beq_eq_true hb
  exact h.symm
theorem RV.bool_of{v:V}{b:Bool}(h:RV w σ μ (.bool b) v):v=.d (.bool b):=by
 cases h with
 | d _ x hd=>cases hd; rfl
 | sl _ sz l id n hd=>cases hd
theorem z4z{tmps:Array Value}{t:Nat}{v:Value}(h:tmps[t]?=some v):tmps.getD t undef=v:=by
 simp [Array.getD_eq_getD_getElem?,h]
theorem z4i{tmps:Array Value}{t:Nat}{b:Bool}(h:tmps.getD t undef=.bool b):tmps[t]?=some (.bool b):=by
 cases hg:tmps[t]? with
 | none=>simp [Array.getD_eq_getD_getElem?,hg,undef] at h
 | some v=>simp [Array.getD_eq_getD_getElem?,hg] at h; rw [h]
def zg4(ops:List Oper)(o:Oper)(fr:Fr):Option Bool:=
 match o.guard with
 | none=>some true
 | some (j,want)=>
  match zm6 ops j with
  | none=>some false
  | some t=>
   match zi fr t with
   | some (.d (.bool b))=>some (b == want)
   | some _=>some false
   | none=>none
theorem zl4{ops:List Oper}{o:Oper}{fr:Fr}{yes no:Fr→Option R}{r:R}(h:zdd ops o fr yes no=some r) :
  ∃ fr',xj fr fr'∧((zg4 ops o fr=some true∧yes fr'=some r)∨(zg4 ops o fr=some false∧no fr'=some r)):=by
 unfold zdd at h
 unfold zg4
 split at h
 ·exact ⟨fr,xj.refl fr,.inl ⟨by simp [*],h⟩⟩
 ·rename_i j want hg
  simp only [hg]
  split at h
  ·exact ⟨fr,xj.refl fr,.inr ⟨by simp [*],h⟩⟩
  ·rename_i t ht
   simp only [ht]
   split at h
   ·rename_i b hb
    cases b <;> cases want <;> simp only [cond_true,cond_false] at h
    ·exact ⟨_,xj.dup hb,.inl ⟨by simp [hb],h⟩⟩
    ·exact ⟨_,xj.dup hb,.inr ⟨by simp [hb],h⟩⟩
    ·exact ⟨_,xj.dup hb,.inr ⟨by simp [hb],h⟩⟩
    ·exact ⟨_,xj.dup hb,.inl ⟨by simp [hb],h⟩⟩
   ·rename_i x hn hx
    refine ⟨fr,xj.refl fr,.inr ⟨?_,h⟩⟩
    rw [hx]
    split
    ·rename_i b hb; exact (hn _ (Option.some.inj hb)).elim
    ·rfl
    ·rename_i hb; cases hb
   ·cases h
theorem ztq{ops:List Oper}{arr:Array Oper}(h:arr.toList=ops)(j:Nat):(arr[j]?).bind (·.dst)=zm6 ops j:=by
 unfold zm6
 rw [←h,Array.getElem?_toList]
 cases arr[j]? <;> rfl
theorem zc4{ops:List Oper}{arr:Array Oper}(harr:arr.toList=ops){o:Oper}{fr:Fr}{tmps:Array Value}(hf:FR w σ μ tmps fr){b:Bool}(h:zg4 ops o fr=some b) :
  Region.wanted o (yielded arr tmps)=b:=by
 unfold zg4 at h
 unfold Region.wanted
 split at h
 ·rename_i hg; simp only [hg]; cases h; rfl
 ·rename_i j want hg
  simp only [hg,yielded,ztq harr]
  split at h
  ·rename_i ht; cases h; simp [ht]
  ·rename_i t ht
   simp only [ht,Option.bind_some]
   split at h
   ·rename_i c hb
    cases h
    have hr:=hf t _ hb
    have:tmps[t]?=some (.bool c):=by
     cases hr':tmps.getD t undef <;> rw [hr'] at hr
     case bool c'=>
      have:=hr.bool_of; cases this
      exact z4i hr'
     all_goals (cases hr with | d _ _ hd=>cases hd)
    rw [this]
    cases c <;> cases want <;> rfl
   ·rename_i x hn hx
    cases h
    have hr:=hf t _ hx
    cases hq:tmps[t]? with
    | none=>simp
    | some q=>
     rw [z4z hq] at hr
     cases q <;> first | rfl | skip
     have:=hr.bool_of
     subst this
     exact (hn _ rfl).elim
   ·cases h
theorem zld{fr:Fr}{dst:Option Nat}{v:V}{t:Nat}:zi (zek fr dst v) t=if dst=some t then some v else zi fr t:=by
 cases dst with
 | none=>simp [zek]
 | some d=>
  simp only [zek,zi]
  by_cases h:d=t
  ·subst h; simp
  ·simp [h,zjb h]
theorem FR.put{nt:Nat}{a:Act}{fr:Fr}(h:FR w σ μ a.tmps fr){dst:Option Nat}(hd:zl8 nt dst=true)(hs:nt≤a.tmps.size){v':Value}{v:V}(hv:RV w σ μ v' v) :
  FR w σ μ (a.put dst v').tmps (zek fr dst v):=by
 intro t u ht
 rw [zld] at ht
 cases dst with
 | none=>exact h t u (by simpa using ht)
 | some d=>
  have hlt:d<a.tmps.size:=Nat.lt_of_lt_of_le (Nat.le_of_ble_eq_true hd) hs
  by_cases he:d=t
  ·subst he
   simp at ht; subst ht
   simpa [Act.put,Array.getD_eq_getD_getElem?,hlt] using hv
  ·simp [he] at ht
   have:=h t u ht
   simpa [Act.put,Array.getD_eq_getD_getElem?,Array.getElem?_setIfInBounds_ne he] using this
theorem qf(a:Act)(dst:Option Nat)(v:Value):(a.put dst v).tmps.size=a.tmps.size:=by cases dst <;> simp [Act.put]
theorem wv(a:Act)(dst:Option Nat)(v:Value):(a.put dst v).defers=a.defers:=by cases dst <;> rfl
theorem zmz:RV w σ μ undef qp:=.tup #[] [] rfl (by simp)
theorem FR.nil{tmps:Array Value}:FR w σ μ tmps []:=fun _ _ h=>by cases h
variable {nt:Nat} {ds:List Deferred} {w₀:World} {σ₀:St} {μ₀:Mu}
theorem zga{m:Nat}{call:Nat→List V→St→Option (Out×St)}(hcall:zad cx call)(hn:xc cx.P){arr:Array Oper}{tl:List Oper}{K:Ex→Fr→St→Option R}{r:R}
  {Q:Exit→Act→World→Prop}
  (hend:∀ fr σ,K .normal fr σ=some r→∀ a w μ,Now cx nt ds w₀ σ₀ μ₀ a w σ μ fr→∀ i,arr.toList.drop i=tl→wpOps cx.P arr Q ((List.range arr.size).drop i) a w)
  (hQ:∀ v fr σ,K (.pan v) fr σ=some r→∀ x a w μ,zgy w σ μ (.pan v) x→Now cx nt ds w₀ σ₀ μ₀ a w σ μ fr→Q x a w) :
  ∀ (l:List Oper) (i:Nat),arr.toList.drop i=l++tl→∀ (fr:Fr) (σ:St),zci cx m nt call arr.toList l fr σ K=some r →
   ∀ a w μ,Now cx nt ds w₀ σ₀ μ₀ a w σ μ fr→wpOps cx.P arr Q ((List.range arr.size).drop i) a w:=by
 intro l
 induction l with
 | nil=>
  intro i hi fr σ h a w μ hnow
  exact hend _ _ h _ _ _ hnow i hi
 | cons o l ih=>
  intro i hi fr σ h a w μ hnow
  have hlt:i<arr.size:=by
   have:=congrArg List.length hi
   simp at this; omega
  have ho:arr[i]?=some o:=by
   have:=congrArg (·[0]?) hi
   simpa using this
  have hrest:arr.toList.drop (i+1)=l++tl:=by
   rw [←List.drop_drop,hi]; rfl
  have hdrop:(List.range arr.size).drop i=i::(List.range arr.size).drop (i+1):=by
   rw [List.drop_eq_getElem_cons (by simpa using hlt)]; simp
  rw [hdrop]
  simp only [wpOps,ho]
  unfold zci at h
  obtain ⟨hd,h⟩:=ze h
  obtain ⟨fr',hs,h⟩:=zl4 h
  have hf':=hnow.fr.same hs
  rcases h with ⟨hw,h⟩ | ⟨hw,h⟩
  ·rw [zc4 rfl hnow.fr hw,if_pos rfl]
   left
   obtain ⟨p,hp,h⟩:=zd h
   obtain ⟨oc,δ,fp,hK0,hok⟩:=zj9 hcall hn hnow.after.inv hf' hp
   cases hK0
   have hK:=h
   refine hok _ _ ?_
   cases oc with
   | val v=>
    intro v' w' μ' haf hv
    refine ih (i+1) hrest _ _ hK _ _ μ' ⟨hnow.after.trans haf,FR.put (haf.frs hnow.after.inv hf') hd hnow.size hv,?_,?_⟩
    ·rw [qf]; exact hnow.size
    ·rw [wv]; exact hnow.defers
   | pan v=>
    intro x w' μ' haf hv
    exact hQ _ _ _ hK _ _ _ μ' ⟨x,rfl,hv⟩ ⟨hnow.after.trans haf,haf.frs hnow.after.inv hf',hnow.size,hnow.defers⟩
  ·rw [zc4 rfl hnow.fr hw]
   simp only [Bool.false_eq_true,if_false]
   refine ih (i+1) hrest _ _ h _ _ μ ⟨hnow.after,FR.put hf' hd hnow.size zmz,?_,?_⟩
   ·rw [qf]; exact hnow.size
   ·rw [wv]; exact hnow.defers
theorem zux{m:Nat}{call:Nat→List V→St→Option (Out×St)}(hcall:zad cx call)(hn:xc cx.P){arr:Array Oper}{K:Ex→Fr→St→Option R}{r:R}
  {Q:Exit→Act→World→Prop}
  (hQ:∀ e fr σ,K e fr σ=some r→∀ x a w μ,zgy w σ μ e x→Now cx nt ds w₀ σ₀ μ₀ a w σ μ fr→Q x a w) :
  ∀ (l:List Oper) (i:Nat),arr.toList.drop i=l→∀ (fr:Fr) (σ:St),zci cx m nt call arr.toList l fr σ K=some r →
   ∀ a w μ,Now cx nt ds w₀ σ₀ μ₀ a w σ μ fr→wpOps cx.P arr Q ((List.range arr.size).drop i) a w:=by
 intro l i hi
 refine zga hcall hn (tl:=[]) (fun fr σ h a w μ hnow i hi=>?_) (fun v=>hQ (.pan v)) l i (by rw [hi,List.append_nil])
 have:arr.size≤i:=by have:=congrArg List.length hi; simp at this; omega
 rw [List.drop_eq_nil_of_le (by simpa using this)]
 exact hQ _ _ _ h _ _ _ _ trivial hnow
end
end Go.Vai
end

section
namespace Go.Vai
section
variable {R:Type} {cx:Cx} {w:World} {σ:St} {μ:Mu} {nt:Nat} {ds:List Deferred} {w₀:World} {σ₀:St} {μ₀:Mu}
theorem zqh{y:Operand}{a:Nat}(h:zzb y a=true):y=.tmp a:=by
 unfold zzb at h
 split at h
 ·rw [Nat.eq_of_beq_eq_true h]
 ·cases h
theorem zf3{y:Operand}{a:Nat}(h:zdg y a=true)(c:Act)(v:Value):(c.put (some a) v).eval y=c.eval y:=by
 unfold zdg at h
 split at h
 ·rename_i b
  have hne:b ≠ a:=by
   intro e
   subst e
   simp at h
  simp only [Act.eval,Act.put]
  simp [Array.getD_eq_getD_getElem?,Array.getElem?_setIfInBounds_ne (Ne.symm hne)]
 ·cases y <;> first | rfl | (rename_i hn; exact (hn _ rfl).elim)
theorem zg9{o i s:Oper}{q:Pend}(h:zkx o i s=some q) :
  ∃ ty1 p1 f1 ty2 p2 f2 ty3 p3 f3,o=⟨some q.a,.call ⟨.builtin .append,#[q.sv,q.pv],#[q.t,q.t2]⟩,ty1,p1,f1,none⟩∧i=⟨some q.p,.indexAddr q.t (.tmp q.a) q.j,ty2,p2,f2,none⟩ ∧
   s=⟨none,.store q.e (.tmp q.p) q.x,ty3,p3,f3,none⟩∧zdg q.j q.a=true∧zdg q.x q.a=true∧zdg q.x q.p=true∧q.a ≠ q.p:=by
 obtain ⟨d1,op1,ty1,p1,f1,g1⟩:=o
 obtain ⟨d2,op2,ty2,p2,f2,g2⟩:=i
 obtain ⟨d3,op3,ty3,p3,f3,g3⟩:=s
 unfold zkx at h
 split at h
 ·rename_i c t' y j e q' x h1 h2 h3
  simp only at h1 h2 h3
  subst h1 h2 h3
  split at h
  ·rename_i sv pv t t2 a p hc ha hty hd1 hd2
   simp only at hd1 hd2
   subst hd1 hd2
   cases hb:(zzb y a&&zzb q' p&&zdg j a&&zdg x a&&zdg x p&&!Nat.beq a p&&Nat.beq t' t&&g1.isNone&&g2.isNone&&g3.isNone&&d3.isNone) <;> simp only [hb] at h
   ·cases h
   ·cases h
    simp only [Bool.and_eq_true,Bool.not_eq_true',Option.isNone_iff_eq_none] at hb
    obtain ⟨⟨⟨⟨⟨⟨⟨⟨⟨⟨k1,k2⟩,k3⟩,k4⟩,k5⟩,k6⟩,k7⟩,k8⟩,k9⟩,k10⟩,k11⟩:=hb
    subst k8 k9 k10 k11
    have k7:=Nat.eq_of_beq_eq_true k7
    subst k7
    obtain rfl:=zqh k1
    obtain rfl:=zqh k2
    obtain ⟨callee,cargs,ctys⟩:=c
    simp only at hc ha hty
    subst hc
    have e1:cargs = #[sv,pv]:=by apply Array.ext'; simpa using ha
    have e2:ctys = #[t',t2]:=by apply Array.ext'; simpa using hty
    subst e1 e2
    exact ⟨_,_,_,_,_,_,_,_,_,rfl,rfl,rfl,k3,k4,k5,fun e=>by have e':a=p:=e; subst e'; simp at k6⟩
  ·cases h
 ·cases h
theorem zt1{P:Program}{t:Nat}(h:z1t P t=true):(match P.underlying t with | some (.int _)=>false | some _=>true | none=>false)=true:=h
theorem ztw(hi:Inv cx w σ μ){a:Act}{fr:Fr}(hf:FR w σ μ a.tmps fr)(hs:nt≤a.tmps.size){q:Pend}{K:Fr→St→Option R}{r:R}{o i s:Oper}(hq:zkx o i s=some q)(h:zg8 cx nt σ fr q K=some r) :
  ∃ fr' σ',K fr' σ'=some r∧∃ v1 v2 w1 w' μ',(execOp a.eval o).run cx.P w=.ok (.value v1) w1∧(execOp (a.put o.dst v1).eval i).run cx.P w1=.ok (.value v2) w1 ∧
   (execOp ((a.put o.dst v1).put i.dst v2).eval s).run cx.P w1=.ok .skip w'∧After cx w σ μ w' σ' μ'∧FR w' σ' μ' (((a.put o.dst v1).put i.dst v2).put s.dst undef).tmps fr' ∧
   (∀ w2,(execOp (a.put o.dst v1).eval i).run cx.P w2=.ok (.value v2) w2)∧∃ b ncs id n,zi σ' id=some (.tok n)∧(μ' id).blk=some b∧w'=w1.setRow b ncs ∧
    ∀ w2:World,w2.heap[b]?=w1.heap[b]?→(execOp ((a.put o.dst v1).put i.dst v2).eval s).run cx.P w2=.ok .skip (w2.setRow b ncs):=by
 obtain ⟨ty1,p1,f1,ty2,p2,f2,ty3,p3,f3,rfl,rfl,rfl,hj,hx1,hx2,hap⟩:=zg9 hq
 unfold zg8 at h
 obtain ⟨hlt,h0⟩:=ze h
 clear h
 rw [Bool.and_eq_true] at hlt
 split at h0
 case h_2=>cases h0
 rename_i e hu
 obtain ⟨hc,h1⟩:=ze h0
 clear h0
 simp only [Bool.and_eq_true] at hc
 obtain ⟨⟨⟨⟨he,hty⟩,hby⟩,hz⟩,hni⟩:=hc
 have he:=Nat.eq_of_beq_eq_true he
 subst he
 obtain ⟨z,hz⟩:=Option.isSome_iff_exists.1 hz
 obtain ⟨sv,hsv,h2⟩:=zd h1
 clear h1
 obtain ⟨pl,hpl,h3⟩:=zd h2
 clear h2
 obtain ⟨jv,hjv,h4⟩:=zd h3
 clear h3
 obtain ⟨v,hv,h5⟩:=zd h4
 clear h4
 obtain ⟨y,hy,h6⟩:=zd h5
 clear h5
 split at h6
 case h_2=>cases h6
 rename_i sz l id k n
 split at h6
 case h_2=>cases h6
 rename_i kk hid
 obtain ⟨hc,h7⟩:=ze h6
 clear h6
 simp only [Bool.and_eq_true,decide_eq_true_eq,Bool.not_eq_true'] at hc
 obtain ⟨⟨⟨⟨⟨⟨hsz,hT⟩,hkk⟩,hn⟩,hle⟩,hyc⟩,htup⟩:=hc
 have hsz:=Nat.eq_of_beq_eq_true hsz
 have hyc:=Nat.eq_of_beq_eq_true hyc
 subst hkk hn
 obtain ⟨sz',ps,hd,h8⟩:=zgi h7
 clear h7
 obtain ⟨hc,h⟩:=ze h8
 clear h8
 rw [Bool.and_eq_true] at hc
 have hsz':=Nat.eq_of_beq_eq_true hc.1
 have hps:=Nat.eq_of_beq_eq_true hc.2
 have rs:=wm (t:=q.t) hf hsv
 have rp:=wm (t:=q.t2) hf hpl
 have rj:=xv hf hjv
 have rv:=wm (t:=q.e) hf hv
 have hyr:=zfk rv hy
 have hcells:=V.cells_ok (RV.d _ _ hyr)
 have hvd:RDs w (zr σ μ) (a.eval q.x).cells.toList y.cells:=by
  have:(V.d y).cells=y.cells.map .d:=by cases y <;> rfl
  rw [this] at hcells
  exact hcells.rd
 have hone:=V.cells_one (RV.d _ _ hyr) rfl
 obtain ⟨b,oo,cap,w1,w',lo,g1,g2,g3,g4,g5,g6,ncs,g7,g8⟩:=z41 (ty:=ty1) hi rs rp hd hps hvd hone hyc hu hz (zt1 hni) (.inl hsz') hsz (zxo hT) (Nat.le_of_ble_eq_true hby) hid hle
 have haf:=g3.after hi g4
 have hjint:a.eval q.j=.int k (l.length:Int):=rj.int_inv
 have hidx:∀ w2:World,(execOp (a.put (some q.a) (.slice (some ⟨b,oo,none⟩) (l.length+1) cap)).eval ⟨some q.p,.indexAddr q.t (.tmp q.a) q.j,ty2,p2,f2,none⟩).run cx.P w2=.ok (.value (.pointer (some ⟨b,oo+l.length * cx.P.cellsOf q.e,none⟩))) w2:=by
  intro w2
  simp only [execOp]
  refine vn ?_
  rw [zf3 hj,hjint]
  have hsl:(a.put (some q.a) (.slice (some ⟨b,oo,none⟩) (l.length+1) cap)).eval (.tmp q.a)=.slice (some ⟨b,oo,none⟩) (l.length+1) cap:=by
   have:q.a<a.tmps.size:=Nat.lt_of_lt_of_le (Nat.le_of_ble_eq_true hlt.1) hs
   simp [Act.eval,Act.put,Array.getD_eq_getD_getElem?,this]
  rw [hsl]
  have:=run_indexAt_slice (w:=w2) (k:=k) (i:=(l.length:Int)) (b:=b) (o:=oo) (n:=l.length+1) (cap:=cap) hu (by omega) (by omega) (vy hty)
  simpa using this
 have hput:∀ w2 w3:World,(storeCells ⟨b,oo+l.length * cx.P.cellsOf q.e,none⟩ (a.eval q.x).cells.toList).run cx.P w2=.ok () w3 →
   (execOp ((a.put (some q.a) (.slice (some ⟨b,oo,none⟩) (l.length+1) cap)).put (some q.p) (.pointer (some ⟨b,oo+l.length * cx.P.cellsOf q.e,none⟩))).eval ⟨none,.store q.e (.tmp q.p) q.x,ty3,p3,f3,none⟩).run cx.P w2=.ok .skip w3:=by
  intro w2 w3 hst
  simp only [execOp]
  refine zxu ?_
  rw [zf3 hx2,zf3 hx1]
  have hpp:((a.put (some q.a) (.slice (some ⟨b,oo,none⟩) (l.length+1) cap)).put (some q.p) (.pointer (some ⟨b,oo+l.length * cx.P.cellsOf q.e,none⟩))).eval (.tmp q.p)=.pointer (some ⟨b,oo+l.length * cx.P.cellsOf q.e,none⟩):=by
   have:q.p<a.tmps.size:=Nat.lt_of_lt_of_le (Nat.le_of_ble_eq_true hlt.2) hs
   simp [Act.eval,Act.put,Array.getD_eq_getD_getElem?,this]
  rw [hpp]
  obtain ⟨dd,hdd⟩:=zav hty
  unfold Instr.storeAt Instr.sureAddr storeVar
  have hcs:(a.eval q.x).cells.size=cx.P.cellsOf q.e:=by have:=hvd.1; simp at this; omega
  simp [run_sizeOf hdd,hcs,hst]
 refine ⟨_,_,h,.slice (some ⟨b,oo,none⟩) (l.length+1) cap,.pointer (some ⟨b,oo+l.length * cx.P.cellsOf q.e,none⟩),w1,w',_,?_,hidx w1,hput w1 w' g2,haf,?_,hidx,
  b,ncs,id,l.length+1,by simp [zp],by simp [setMu,g6],g7,fun w2 h2=>hput w2 _ (g8 w2 h2)⟩
 ·simp only [execOp,resolve,invoke,builtin]
  simp [Sem.run_bind,g1]
 ·have hptr:RV w' (qg σ id (.tok (l.length+1))) (setMu μ id lo) (.pointer (some ⟨b,oo+l.length * cx.P.cellsOf q.e,none⟩)) (.eptr y 0):=by
   have hrd:=g5.slD
   rw [hsz] at hrd
   obtain ⟨b',o',n',cap',xs,he,_,hyl,hc1,hr1⟩:=hrd.slot (j:=l.length) (y:=y) (by simp)
   cases he
   exact .eptr y b _ 0 xs (fun k hk=>hc1 k (by omega)) hr1
  exact FR.put (dst:=some q.p) (a:=a.put (some q.a) (.slice (some ⟨b,oo,none⟩) (l.length+1) cap)) (FR.put (dst:=some q.a) (haf.frs hi hf) hlt.1 hs g5) hlt.2 (by rw [qf]; exact hs) hptr
theorem z0w{P:Program}{arr:Array Oper}{Q:Exit→Act→World→Prop}{k:Nat}{o i s:Oper}{l:List Oper}{a:Act}{w w1 w':World}{v1 v2:Value}(hdrop:arr.toList.drop k=o::i::s::l)
  (hg:o.guard=none∧i.guard=none∧s.guard=none) (h1:(execOp a.eval o).run P w=.ok (.value v1) w1) (h2:(execOp (a.put o.dst v1).eval i).run P w1=.ok (.value v2) w1)
  (h3:(execOp ((a.put o.dst v1).put i.dst v2).eval s).run P w1=.ok .skip w') (h:wpOps P arr Q ((List.range arr.size).drop (k+3)) (((a.put o.dst v1).put i.dst v2).put s.dst undef) w') :
  wpOps P arr Q ((List.range arr.size).drop k) a w:=by
 have hlen:k+3≤arr.size:=by have:=congrArg List.length hdrop; simp at this; omega
 have ho:arr[k]?=some o:=by have:=congrArg (·[0]?) hdrop; simpa using this
 have hi:arr[k+1]?=some i:=by have:=congrArg (·[1]?) hdrop; simpa using this
 have hs:arr[k+2]?=some s:=by have:=congrArg (·[2]?) hdrop; simpa using this
 have hd:(List.range arr.size).drop k=k::(k+1)::(k+2)::(List.range arr.size).drop (k+3):=by
  rw [List.drop_eq_getElem_cons (by simp; omega),List.drop_eq_getElem_cons (by simp; omega),List.drop_eq_getElem_cons (by simp; omega)]
  simp
 rw [hd]
 simp only [wpOps,ho,hi,hs]
 rw [if_pos (by simp [Region.wanted,hg.1])]
 left
 unfold Oper.wp
 rw [h1,Oper.upon_value,if_pos (by simp [Region.wanted,hg.2.1])]
 left
 rw [h2,Oper.upon_value,if_pos (by simp [Region.wanted,hg.2.2])]
 left
 rw [h3,Oper.upon_skip]
 exact h
theorem zpn{o i s:Oper}{q:Pend}(h:zkx o i s=some q):o.guard=none∧i.guard=none∧s.guard=none:=by
 obtain ⟨ty1,p1,f1,ty2,p2,f2,ty3,p3,f3,rfl,rfl,rfl,_⟩:=zg9 h
 exact ⟨rfl,rfl,rfl⟩
theorem zp8(a:Act)(x y z:Option Nat)(u v t:Value):(((a.put x u).put y v).put z t).tmps.size=a.tmps.size∧(((a.put x u).put y v).put z t).defers=a.defers:=by
 rw [qf,qf,qf,wv,wv,wv]
 exact ⟨rfl,rfl⟩
theorem zzq{arr:Array Oper}{Q:Exit→Act→World→Prop}{k:Nat}{fr:Fr}{K:List Oper→Fr→St→Option R}{r:R}(h:ze7 cx nt arr.toList k fr σ K=some r){a:Act}(hnow:Now cx nt ds w₀ σ₀ μ₀ a w σ μ fr)
  (hnext:∀ l fr' σ',K l fr' σ'=some r→arr.toList.drop (k+3)=l→∀ a w μ,Now cx nt ds w₀ σ₀ μ₀ a w σ' μ fr'→wpOps cx.P arr Q ((List.range arr.size).drop (k+3)) a w) :
  wpOps cx.P arr Q ((List.range arr.size).drop k) a w:=by
 unfold ze7 at h
 split at h
 case h_2=>cases h
 rename_i o i s l hdrop
 obtain ⟨q,hq,h⟩:=zd h
 obtain ⟨fr',σ',hK,v1,v2,w1,w',μ',g1,g2,g3,haf,hf,_⟩:=ztw hnow.after.inv hnow.fr hnow.size hq h
 refine z0w hdrop (zpn hq) g1 g2 g3 (hnext l fr' σ' hK ?_ _ _ μ' ⟨hnow.after.trans haf,hf,?_,?_⟩)
 ·rw [←List.drop_drop,hdrop]; rfl
 ·rw [(zp8 ..).1]; exact hnow.size
 ·rw [(zp8 ..).2]; exact hnow.defers
end
end Go.Vai
end

section
namespace Go.Vai
section
variable {R:Type} {cx:Cx} {σ σ':St}
theorem zb7{P:Program}{t:Nat}{fr fr':Fr}{x:Operand}(h:opd fr' x=opd fr x):zd7 P t fr' x=zd7 P t fr x:=by
 unfold zd7
 split
 ·rfl
 ·exact h
theorem zr6{P:Program}{t:Nat}{fr fr':Fr}:∀ {ps:List (Nat×Operand)},(∀ p∈ps,opd fr' p.2=opd fr p.2)→zjv P fr' t ps=zjv P fr t ps
 | [],_=>rfl
 | (i,x)::ps,h=>by
  simp only [zjv]
  rw [zb7 (h (i,x) List.mem_cons_self),zr6 fun p hp=>h p (List.mem_cons_of_mem _ hp)]
theorem zic{P:Program}{fr fr':Fr}:∀ {xs:List Operand} {ts:List Nat},(∀ x∈xs,opd fr' x=opd fr x)→zab P fr' xs ts=zab P fr xs ts
 | [],_,_=>rfl
 | x::xs,ts,h=>by
  simp only [zab]
  rw [zb7 (h x List.mem_cons_self),zic fun p hp=>h p (List.mem_cons_of_mem _ hp)]
theorem zpc{P:Program}{fr fr':Fr}{id:Nat}:∀ {xs:List Operand} {ts:List Nat},(∀ x∈xs,opd fr' x=opd fr x)→zbj P fr' id xs ts=zbj P fr id xs ts
 | [],_,_=>rfl
 | x::xs,ts,h=>by
  have e:=zpc (P:=P) (id:=id) (ts:=ts.tail) fun p hp=>h p (List.mem_cons_of_mem _ hp)
  have e2:=h x List.mem_cons_self
  simp only [zbj]
  rw [e]
  cases zbj P fr id xs ts.tail with
  | none=>rfl
  | some l=>
   simp only
   split
   ·rfl
   ·rw [e2]
theorem zr7{fr fr':Fr}{x:Option Operand}(h:∀ y∈x,opd fr' y=opd fr y){K:Option V→Option R}:zf2 fr' x K=zf2 fr x K:=by
 cases x with
 | none=>rfl
 | some x=>simp only [zf2,h x rfl]
theorem zyg{m nt : Nat}{call : Nat → List V → St → Option (Out × St)}{o : Oper}{fr fr' : Fr}(h : ∀ x ∈ o.op.operands, opd fr' x = opd fr x){K : Oc → De → List Nat → Option R} :
    x6 cx m nt call o fr' σ K = x6 cx m nt call o fr σ K := by
  obtain ⟨dst, op, type, pos, after, guard⟩ := o
  cases op <;> simp only [Op.operands] at h
  case move x | assign x =>
    simp only [x6]
    split
    · rfl
    · rw [h x (by simp)]
  case makeFunc fn first caps =>
    cases fn <;> simp only [x6]
    rw [zic fun x hx => h x (by simp at hx; simp [hx]), zic fun x hx => h x (by simp at hx; simp [hx])]
  case makeMap t r => cases r <;> simp only [x6]
  case makeSlice t n c => simp only [x6]; rw [h n (by simp), h c (by simp)]
  case lookup t x i ok => simp only [x6]; rw [h x (by simp), h i (by simp)]
  case mapUpdate t mm k x | insert t mm k x => simp only [x6]; rw [h mm (by simp), h k (by simp), zb7 (h x (by simp))]
  case build t ps => simp only [x6]; rw [zr6 fun p hp => h p.2 (by simp; exact ⟨p.1, by simpa using hp⟩)]
  case buildSlice t n ps => simp only [x6]; rw [zr6 fun p hp => h p.2 (by simp; exact ⟨p.1, by simpa using hp⟩)]
  case box t x => simp only [x6]; rw [zb7 (h x (by simp))]
  case store t p x => simp only [x6]; rw [h p (by simp), zb7 (h x (by simp))]
  case binOp op t x y u => simp only [x6]; rw [zb7 (h x (by simp)), zb7 (h y (by simp))]
  case convert s t x => simp only [x6]; rw [zb7 (h x (by simp))]
  case makeInterface t x => simp only [x6]; rw [zb7 (h x (by simp))]
  case slice t x lo hi mx =>
    simp only [x6]
    have e1 : ∀ {K : Option V → Option R}, zf2 fr' lo K = zf2 fr lo K := zr7 fun y hy => h y (by cases hy; simp)
    have e2 : ∀ {K : Option V → Option R}, zf2 fr' hi K = zf2 fr hi K := zr7 fun y hy => h y (by cases hy; simp)
    have e3 : ∀ {K : Option V → Option R}, zf2 fr' mx K = zf2 fr mx K := zr7 fun y hy => h y (by cases hy; simp)
    simp only [zb7 (h x (by simp)), e1, e2, e3]
  case call c =>
    obtain ⟨callee, cargs, ctypes⟩ := c
    simp only [Call.operands] at h
    cases callee with
    | value f =>
      simp only [x6]
      rw [h f (by simp)]
      have e : ∀ {ts}, zab cx.P fr' cargs.toList ts = zab cx.P fr cargs.toList ts := zic fun x hx => h x (by simp at hx; simp [hx])
      have e' : ∀ {id ts}, zbj cx.P fr' id cargs.toList ts = zbj cx.P fr id cargs.toList ts := zpc fun x hx => h x (by simp at hx; simp [hx])
      have e2 : ∀ {site g cap} {K : Oc → De → List Nat → Option R}, zij cx σ site g cap cargs.toList fr' K = zij cx σ site g cap cargs.toList fr K := by
        intro site g cap K
        unfold zij
        split
        · rename_i y hy
          rw [h y (by have : y ∈ cargs.toList := by rw [hy]; simp
                      simp at this; simp [this])]
        · rfl
      simp only [e, e', e2]
    | invoke r nm => simp only [x6]
    | builtin b =>
      have e : ∀ x ∈ cargs.toList, ∀ {P t}, zd7 P t fr' x = zd7 P t fr x := fun x hx {P t} => zb7 (h x (by simp at hx; simp [hx]))
      cases b <;> simp only [x6]
      · split
        · rename_i s x t t' hx ht
          rw [e s (by rw [hx]; simp), e x (by rw [hx]; simp)]
        · rfl
      · split
        · rename_i x t hx ht
          rw [e x (by rw [hx]; simp)]
        · rfl
  all_goals simp only [x6]
  all_goals first | rfl | skip
  all_goals (simp only [Array.mem_def, List.mem_cons, List.not_mem_nil, or_false, forall_eq_or_imp, forall_eq] at h)
  all_goals first | (simp only [h]; done) | (simp only [h.1, h.2]; done) | (simp only [h.1, h.2.1, h.2.2]; done)
end
end Go.Vai
end

section
namespace Go.Vai
section
variable {R:Type} {cx:Cx} {σ σ':St}
def agree(S:List Nat)(σ σ':St):Prop:=∀ i∈S,zi σ' i=zi σ i
theorem z1m{S:List Nat}(ha:agree S σ σ')(hc:∀ i∈S,∃ o,zi σ i=some o∧∀ j∈o.ids,j∈S) :
  ∀ (n:Nat) (todo seen:List Nat),(∀ i∈todo,i∈S)→qa σ' n todo seen=qa σ n todo seen:=by
 intro n
 induction n with
 | zero=>intro todo seen _; rfl
 | succ n ih=>
  intro todo seen ht
  cases todo with
  | nil=>rfl
  | cons i todo=>
   have hi:=ht i List.mem_cons_self
   have htl:∀ j∈todo,j∈S:=fun j hj=>ht j (List.mem_cons_of_mem _ hj)
   simp only [qa]
   rw [ha i hi]
   obtain ⟨o,ho,hids⟩:=hc i hi
   rw [ho]
   cases seen.elem i
   ·simp only [cond_false]
    exact ih _ _ fun j hj=>by
     rcases List.mem_append.1 hj with h | h
     ·exact hids j h
     ·exact htl j h
   ·exact ih _ _ htl
theorem znb(full:List Nat):∀ (ren:List Nat) (k:Nat),agree ren σ σ'→xn σ' full k ren=xn σ full k ren
 | [],_,_=>rfl
 | i::r,k,h=>by
  simp only [xn,h i List.mem_cons_self]
  split
  ·rw [znb full r (k+1) fun j hj=>h j (List.mem_cons_of_mem _ hj)]
  ·exact znb full r (k+1) fun j hj=>h j (List.mem_cons_of_mem _ hj)
theorem zrp{full:List Nat}{τ:St}:∀ (ren:List Nat) (k:Nat) {K:De→Option R},agree ren σ σ'→za9 full σ' τ k ren K=za9 full σ τ k ren K
 | [],_,_,_=>rfl
 | i::r,k,K,h=>by
  have e:∀ K:De→Option R,za9 full σ' τ (k+1) r K=za9 full σ τ (k+1) r K:=fun K=>zrp r (k+1) fun j hj=>h j (List.mem_cons_of_mem _ hj)
  simp only [za9,h i List.mem_cons_self,e]
theorem zxb{α:Type}{l:List α}{f g:α→Bool}(h:∀ x∈l,f x=g x):l.all f=l.all g:=by
 induction l with
 | nil=>rfl
 | cons a l ih=>simp only [List.all_cons]; rw [h a List.mem_cons_self,ih fun x hx=>h x (List.mem_cons_of_mem _ hx)]
theorem zvc{ids:List Nat}{ren:List Nat}(h:agree ren σ σ'):closedIn σ' ids ren=closedIn σ ids ren:=by
 unfold closedIn
 congr 1
 exact zxb fun i hi=>by rw [h i hi]
abbrev Tri:=Oc×De×List Nat
theorem zov{call:Nat→List V→St→Option (Out×St)}{t f:Nat}{args:List V}{xs:List Nat}{p:Tri}(h:qo cx call σ t f args xs (fun oc δ fp=>some (oc,δ,fp))=some p)(ha:agree p.2.2 σ σ') :
  qo cx call σ' t f args xs (fun oc δ fp=>some (oc,δ,fp))=some p:=by
 have hfp:qa σ 1000 (V.idsL args++xs) []=p.2.2:=by
  unfold qo at h
  obtain ⟨_,h⟩:=ze h
  obtain ⟨_,h⟩:=ze h
  split at h
  ·obtain ⟨δ,h1,_⟩:=zd2 _ _ h
   obtain ⟨u,h2,_⟩:=zou h1
   cases h2; rfl
  ·obtain ⟨δ,h1,_⟩:=zd2 _ _ h
   cases h1; rfl
  ·cases h
 unfold qo at h ⊢
 simp only [hfp] at h ⊢
 obtain ⟨hc,h⟩:=ze h
 obtain ⟨_,hargs,hcl⟩:=ze9 hc
 obtain ⟨hdom,h⟩:=ze h
 rw [z1m ha hcl 1000 _ _ hargs,hfp,zvc ha,hc,hdom]
 simp only [znb _ _ _ ha,zrp _ _ ha]
 exact h
theorem zew:∀ {δ:De},agree (δ.map (·.1)) σ σ'→yf σ' δ=yf σ δ
 | [],_=>rfl
 | (i,o)::δ,h=>by
  simp only [yf]
  rw [h i (by simp),zew (δ:=δ) fun j hj=>h j (by simp at hj ⊢; exact .inr hj)]
theorem qz{i:Nat}{o:Ob}(h:zi σ' i=zi σ i):yf σ' [(i,o)]=yf σ [(i,o)]:=zew (by intro j hj; simp at hj; subst hj; exact h)
theorem z12{t:Nat}{q:V}{p:Tri}(h:zd8 cx σ t q (fun v fp=>some (Oc.val v,([]:De),fp))=some p)(ha:agree p.2.2 σ σ') :
  zd8 cx σ' t q (fun v fp=>some (Oc.val v,([]:De),fp))=some p:=by
 cases q with
 | ptr id off=>
  have:zi σ' id=zi σ id:=by
   refine ha id ?_
   unfold zd8 at h
   obtain ⟨_,h⟩:=ze h
   simp only at h
   split at h
   ·cases hb:(Nat.beq off 0&&Nat.beq _ (cx.P.cellsOf t)) <;> rw [hb] at h
    ·rw [cond_false] at h
     cases ha:xw cx.P t <;> rw [ha] at h
     ·obtain ⟨c,_,h⟩:=zh0 h
      obtain ⟨u,h,_⟩:=zd1 h
      cases h; simp
     ·obtain ⟨_,h⟩:=ze h
      cases h; simp
    ·obtain ⟨u,h,_⟩:=zd1 h
     cases h; simp
   ·cases h
  unfold zd8 at h ⊢
  simp only [this]
  exact h
 | wptr id sz k i off=>
  have:zi σ' id=zi σ id:=by
   refine ha id ?_
   unfold zd8 at h
   obtain ⟨_,h⟩:=ze h
   simp only at h
   split at h
   ·obtain ⟨_,h⟩:=ze h
    obtain ⟨x,_,h⟩:=zal h
    cases ha:xw cx.P t <;> rw [ha] at h
    ·obtain ⟨c,_,h⟩:=zal h
     obtain ⟨u,h,_⟩:=zd1 (v:=.d c) (K:=fun v=>some (Oc.val v,([]:De),[id])) (by simpa only [zdi] using h)
     cases h; simp
    ·obtain ⟨_,h⟩:=zdk _ _ h
     cases h; simp
   ·cases h
  unfold zd8 at h ⊢
  simp only [this]
  exact h
 | _=>exact h
theorem zyy{t:Nat}{q v:V}{p:Tri}(h:zb3 cx σ t q v (fun δ fp=>some (Oc.val qp,δ,fp))=some p)(ha:agree p.2.2 σ σ') :
  zb3 cx σ' t q v (fun δ fp=>some (Oc.val qp,δ,fp))=some p:=by
 cases q with
 | ptr id off=>
  have:zi σ' id=zi σ id:=by
   refine ha id ?_
   unfold zb3 at h
   simp only at h
   split at h
   ·cases hb:(Nat.beq off 0&&Nat.beq _ (cx.P.cellsOf t)) <;> rw [hb] at h
    ·rw [cond_false] at h
     obtain ⟨_,h⟩:=ze h
     cases h; simp
    ·obtain ⟨_,h⟩:=ze h
     cases h; simp
   ·cases h
  unfold zb3 at h ⊢
  simp only [this]
  exact h
 | wptr id sz k i off=>
  have:zi σ' id=zi σ id:=by
   refine ha id ?_
   unfold zb3 at h
   simp only at h
   split at h
   ·obtain ⟨_,h⟩:=ze h
    obtain ⟨y,_,h⟩:=zd h
    obtain ⟨_,h⟩:=ze h
    cases h; simp
   ·cases h
  unfold zb3 at h ⊢
  simp only [this]
  exact h
 | _=>exact h
theorem z4t{t:Nat}{x:V}{p:Tri}(h:lenV cx σ t x (fun v fp=>some (Oc.val v,([]:De),fp))=some p)(ha:agree p.2.2 σ σ') :
  lenV cx σ' t x (fun v fp=>some (Oc.val v,([]:De),fp))=some p:=by
 unfold lenV at h ⊢
 split at h <;> first | exact h | skip
 split at h
 ·rename_i ks vs hg
  cases h
  have:zi σ' _=zi σ _:=ha _ List.mem_cons_self
  rw [this,hg]
 ·cases h
theorem zxa{site t:Nat}{s x:V}{b:Bool}{p:Tri}(h:zey cx σ site t s x b (fun v δ fp=>some (Oc.val v,δ,fp))=some p)(ha:agree p.2.2 σ σ') :
  zey cx σ' site t s x b (fun v δ fp=>some (Oc.val v,δ,fp))=some p:=by
 unfold zey at h ⊢
 split at h <;> first | (cases h; done) | skip
 unfold dataOf at h ⊢
 split at h <;> first | (cases h; done) | skip
 all_goals
  obtain ⟨hc,h⟩:=ze h
  simp only [hc,zb,cond_true]
  cases b
  ·simp only [cond_false] at h ⊢
   split at h
   ·rename_i id _
    split at h
    ·rename_i n hg
     obtain ⟨hc2,h⟩:=ze h
     cases h
     have:zi σ' _=zi σ _:=ha _ List.mem_cons_self
     rw [this,hg]
     simp only [hc2,cond_true]
    ·cases h
   ·rename_i id sz k
    split at h
    ·rename_i l hg
     obtain ⟨hc2,h⟩:=ze h
     cases h
     have:zi σ' _=zi σ _:=ha _ List.mem_cons_self
     rw [this,hg]
     simp only [hc2,cond_true]
    ·cases h
   ·cases h
  ·simp only [cond_true] at h ⊢
   obtain ⟨hc2,h⟩:=ze h
   cases h
   rw [qz (ha _ List.mem_cons_self),hc2]
   rfl
theorem zzh{P:Program}{e id:Nat}{vs:List D}{a b:V→V}{z:D}{o:Option (Option Nat)}{q:Tri}(h:(zc o fun o=>zis o (fun i=>za vs i fun y=>zc7 P e y fun v=>some (Oc.val (a v),([]:De),[id]))
  (some (Oc.val (b (.d z)),([]:De),[id])))=some q):q.2.2=[id]:=by
 obtain ⟨o,_,h⟩:=zd h
 rcases zhz h with ⟨i,_,h⟩ | ⟨_,h⟩
 ·obtain ⟨y,_,h⟩:=zal h
  obtain ⟨u,h,_⟩:=zd1 (v:=.d y) (K:=fun v=>some (Oc.val (a v),([]:De),[id])) (by simpa only [zdi] using h)
  cases h; rfl
 ·cases h; rfl
theorem zv8{t:Nat}{x k:V}{ok:Bool}{p:Tri}(h:zdn cx σ t x k ok (fun v fp=>some (Oc.val v,([]:De),fp))=some p)(ha:agree p.2.2 σ σ') :
  zdn cx σ' t x k ok (fun v fp=>some (Oc.val v,([]:De),fp))=some p:=by
 unfold zdn at h ⊢
 split at h
 ·rename_i kt e hu
  obtain ⟨z,hz,q1⟩:=zd h
  clear h
  obtain ⟨key,rfl,q2⟩:=zce q1
  clear q1
  obtain ⟨hty,h⟩:=ze q2
  clear q2
  simp only [hz,zc,asD,hty,zb,cond_true]
  split at h <;> first | exact h | skip
  rename_i id
  split at h
  ·rename_i ks vs hg
   have:=zzh (id:=id) (a:=fun v=>bif ok then V.tup [v,.d (.bool true)] else v) (b:=fun v=>bif ok then V.tup [v,.d (.bool false)] else v) h
   rw [this] at ha
   simp only [ha _ List.mem_cons_self,hg]
   exact h
  ·cases h
 ·cases h
theorem zv5{t:Nat}{x k v:V}{p:Tri}(h:zdm cx σ t x k v (fun δ fp=>some (Oc.val qp,δ,fp))=some p)(ha:agree p.2.2 σ σ') :
  zdm cx σ' t x k v (fun δ fp=>some (Oc.val qp,δ,fp))=some p:=by
 unfold zdm at h ⊢
 split at h
 ·rename_i kt e hu
  split at h
  ·rename_i id
   split at h
   ·rename_i ks vs hg
    obtain ⟨key,rfl,h⟩:=zce h
    obtain ⟨y,hy,h⟩:=zd h
    obtain ⟨hty,h⟩:=ze h
    obtain ⟨o,ho,h⟩:=zd h
    have:zi σ' id=zi σ id:=by
     refine ha id ?_
     rcases zhz h with ⟨i,_,h⟩ | ⟨_,h⟩ <;> cases h <;> simp
    simp only [this,hg,asD,hy,zc,hty,zb,cond_true,ho]
    exact h
   ·cases h
  ·cases h
 ·cases h
theorem zpo{site t:Nat}{l c:V}{p:Tri}(h:qt cx σ site t l c (fun v δ fp=>some (Oc.val v,δ,fp))=some p)(ha:agree p.2.2 σ σ') :
  qt cx σ' site t l c (fun v δ fp=>some (Oc.val v,δ,fp))=some p:=by
 unfold qt at h ⊢
 split at h
 ·obtain ⟨z,hz,h⟩:=zd h
  obtain ⟨hc,h⟩:=ze h
  cases h
  simp only [hz,zc]
  rw [qz (ha _ List.mem_cons_self),hc]
  rfl
 ·cases h
theorem z04{v:V}{p:Tri}(h:zif σ v (fun v δ fp=>some (Oc.val v,δ,fp))=some p)(ha:agree p.2.2 σ σ') :
  zif σ' v (fun v δ fp=>some (Oc.val v,δ,fp))=some p:=by
 unfold zif at h ⊢
 split at h
 ·split at h
  ·rename_i l hg
   obtain ⟨hc,h⟩:=ze h
   cases h
   rw [ha _ List.mem_cons_self,hg]
   simp only [hc,zb,cond_true]
  ·cases h
 ·cases h
theorem zll{v:Option V}{y d:Nat}{K:Nat→Option R}{r:R}(h:bound v y d K=some r):∃ n,K n=some r∧∀ (R':Type) (K':Nat→Option R'),bound v y d K'=K' n:=by
 unfold bound at h ⊢
 split at h
 ·exact ⟨_,h,fun _ _=>rfl⟩
 ·obtain ⟨hc,h⟩:=ze h
  exact ⟨_,h,fun _ _=>by simp only [hc,zb,cond_true]⟩
 ·cases h
theorem zy1{site t:Nat}{x:V}{lo hi mx:Option V}{p:Tri}(h:zfv cx σ site t x lo hi mx (fun v δ fp=>some (Oc.val v,δ,fp))=some p)(ha:agree p.2.2 σ σ') :
  zfv cx σ' site t x lo hi mx (fun v δ fp=>some (Oc.val v,δ,fp))=some p:=by
 unfold zfv at h ⊢
 split at h <;> first | exact h | skip
 obtain ⟨h1,h⟩:=ze h
 simp only [h1,zb,cond_true]
 unfold zmd at h ⊢
 split at h <;> first | (cases h; done) | skip
 all_goals
  obtain ⟨h2,h⟩:=ze h
  simp only [h2,zb,cond_true]
  split at h <;> first | exact h | skip
  obtain ⟨h3,h⟩:=ze h
  simp only [h3,zb,cond_true]
  obtain ⟨n1,h,e1⟩:=zll h
  obtain ⟨n2,h,e2⟩:=zll h
  obtain ⟨n3,h,e3⟩:=zll h
  rw [e1,e2,e3]
  cases hb:Nat.beq n1 n3 <;> rw [hb] at h
  ·exact h
  ·rw [cond_true] at h ⊢
   obtain ⟨h4,h⟩:=ze h
   cases h
   rw [qz (ha _ List.mem_cons_self),h4]
   rfl
theorem znk{fr:Fr}{x:Option Operand}{K:Option V→Option R}{r:R}(h:zf2 fr x K=some r):∃ v,K v=some r∧∀ (R':Type) (K':Option V→Option R'),zf2 fr x K'=K' v:=by
 unfold zf2 at h ⊢
 split at h
 ·exact ⟨_,h,fun _ _=>rfl⟩
 ·obtain ⟨v,hv,h⟩:=zd h
  exact ⟨_,h,fun _ _=>by simp only [hv,zc]⟩
theorem z43{m nt:Nat}{call:Nat→List V→St→Option (Out×St)}{o:Oper}{fr:Fr}{p:Tri}(h:zbe cx m nt call o fr σ=some p)(ha:agree p.2.2 σ σ') :
  zbe cx m nt call o fr σ'=some p:=by
 unfold zbe at h ⊢
 obtain ⟨dst,op,type,pos,after,guard⟩:=o
 cases op
 case makeFunc fn first caps=>cases fn <;> exact h
 case makeMap t r=>
  cases r <;> simp only [x6] at h ⊢
  ·obtain ⟨hc,h⟩:=ze h
   cases h
   rw [qz (ha _ List.mem_cons_self),hc]
   rfl
  ·cases h
 case move x | assign x=>
  simp only [x6] at h ⊢
  split at h
  ·split at h <;> first | exact h | skip
   split at h
   ·rename_i hg
    cases hown:cx.own nt (dst.getD 0) <;> rw [hown] at h <;> cases h <;> rw [ha _ List.mem_cons_self,hg] <;> rfl
   ·rename_i hg
    cases h
    rw [ha _ List.mem_cons_self,hg]
  ·obtain ⟨v,hv,h⟩:=zd h
   simp only [hv,zc]
   cases hth:cx.thaw nt (dst.getD 0) <;> rw [hth] at h
   ·exact h
   ·exact z04 h ha
 case alloc e=>
  simp only [x6] at h ⊢
  obtain ⟨z,hz,h⟩:=zd h
  simp only [hz,zc]
  obtain ⟨hc,h⟩:=ze h
  cases h
  rw [zew ha,hc]
  rfl
 case box e x=>
  simp only [x6] at h ⊢
  obtain ⟨z,hz,h⟩:=zd h
  simp only [hz,zc]
  obtain ⟨hc,h⟩:=ze h
  cases h
  rw [qz (ha _ List.mem_cons_self),hc]
  rfl
 case build t ps=>
  simp only [x6] at h ⊢
  cases hty:cx.typed nt (dst.getD 0)
  ·rw [hty] at h; exact h
  ·rw [hty] at h
   simp only [cond_true] at h ⊢
   obtain ⟨z,hz,h⟩:=zd h
   simp only [hz,zc]
   obtain ⟨hc,h⟩:=ze h
   cases h
   rw [zew ha,hc]
   rfl
 case buildSlice t n ps=>
  simp only [x6] at h ⊢
  split at h
  ·obtain ⟨z,hz,h⟩:=zd h
   obtain ⟨l,hl,h⟩:=zd h
   obtain ⟨xs,hx,h⟩:=zd h
   obtain ⟨hc,h⟩:=ze h
   cases hbare:zsn cx nt dst ps.toList <;> rw [hbare] at h <;> cases hown:cx.own nt (dst.getD 0) <;> rw [hown] at h <;>
   ·cases h
    simp only [hz,hl,hx,zc]
    rw [qz (ha _ List.mem_cons_self),hc]
    rfl
  ·cases h
 case makeSlice t n c=>
  simp only [x6] at h ⊢
  obtain ⟨z,hz,h⟩:=zd h
  obtain ⟨y,hy,h⟩:=zd h
  simp only [hz,hy,zc]
  exact zpo h ha
 case lookup t x i ok=>
  simp only [x6] at h ⊢
  obtain ⟨z,hz,h⟩:=zd h
  obtain ⟨y,hy,h⟩:=zd h
  simp only [hz,hy,zc]
  exact zv8 h ha
 case mapUpdate t mm k x | insert t mm k x=>
  simp only [x6] at h ⊢
  obtain ⟨z,hz,h⟩:=zd h
  obtain ⟨y,hy,h⟩:=zd h
  obtain ⟨q,hq,h⟩:=zd h
  simp only [hz,hy,hq,zc]
  exact zv5 h ha
 case load t q=>
  simp only [x6] at h ⊢
  obtain ⟨z,hz,h⟩:=zd h
  simp only [hz,zc]
  exact z12 h ha
 case store t q x=>
  simp only [x6] at h ⊢
  obtain ⟨z,hz,h⟩:=zd h
  obtain ⟨v,hv,h⟩:=zd h
  obtain ⟨hc,h⟩:=ze h
  simp only [hz,hv,hc,zc,zb,cond_true]
  exact zyy h ha
 case convert s t x=>
  simp only [x6] at h ⊢
  obtain ⟨v,hv,h⟩:=zd h
  simp only [hv,zc]
  split at h
  ·split at h
   ·rename_i hu hg
    obtain ⟨hc,h⟩:=ze h
    cases h
    rw [hu,ha _ List.mem_cons_self,hg]
    simp only [hc,zb,cond_true]
   ·cases h
  ·rename_i hno
   cases hun:z2b cx.P s t <;> rw [hun] at h
   ·exact h
   ·simp only [cond_true] at h ⊢
    unfold zor at h ⊢
    split at h
    ·split at h
     ·rename_i hg
      obtain ⟨hc,h⟩:=ze h
      cases h
      rw [ha _ List.mem_cons_self,hg]
      simp only [hc,zb,cond_true]
     ·cases h
    ·cases h
 case slice t x lo hi mx=>
  simp only [x6] at h ⊢
  obtain ⟨v,hv,h⟩:=zd h
  simp only [hv,zc]
  obtain ⟨v1,h,e1⟩:=znk h
  obtain ⟨v2,h,e2⟩:=znk h
  obtain ⟨v3,h,e3⟩:=znk h
  rw [e1,e2,e3]
  exact zy1 h ha
 case call c=>
  obtain ⟨callee,cargs,ctypes⟩:=c
  cases callee with
  | value f=>
   simp only [x6] at h ⊢
   obtain ⟨v,hv,h⟩:=zd h
   simp only [hv,zc]
   split at h
   ·rename_i g first
    obtain ⟨l,hl,h⟩:=zd h
    simp only [hl]
    exact zov h ha
   ·rename_i g cap
    have wrap:∀ {l:List V} {xs:List Nat},yf σ [(m+dst.getD 0,Ob.tok 0)]=true →
      (qo cx call (qg σ (m+dst.getD 0) (.tok 0)) type g l xs fun oc δ fp=>some (oc,(m+dst.getD 0,Ob.tok 0)::δ,(m+dst.getD 0)::fp))=some p →
      (zb (yf σ' [(m+dst.getD 0,Ob.tok 0)]) (qo cx call (qg σ' (m+dst.getD 0) (.tok 0)) type g l xs fun oc δ fp=>some (oc,(m+dst.getD 0,Ob.tok 0)::δ,(m+dst.getD 0)::fp)))=some p:=by
     intro l xs hfr h
     have e:∀ τ:St,(qo cx call (qg τ (m+dst.getD 0) (.tok 0)) type g l xs fun oc δ fp=>some (oc,(m+dst.getD 0,Ob.tok 0)::δ,(m+dst.getD 0)::fp)) =
       zc (qo cx call (qg τ (m+dst.getD 0) (.tok 0)) type g l xs fun oc δ fp=>some (oc,δ,fp)) fun p=>some (p.1,(m+dst.getD 0,Ob.tok 0)::p.2.1,(m+dst.getD 0)::p.2.2):=fun τ=>(zi7 (σ:=qg τ (m+dst.getD 0) (.tok 0)) call type g l xs (fun oc δ fp=>some (oc,δ,fp)) (fun p:Tri=>some (p.1,(m+dst.getD 0,Ob.tok 0)::p.2.1,(m+dst.getD 0)::p.2.2))).symm
     rw [e] at h
     obtain ⟨q,hq,h⟩:=zd h
     cases h
     have hfr':yf σ' [(m+dst.getD 0,Ob.tok 0)]=true:=by
      have:=ha (m+dst.getD 0) List.mem_cons_self
      unfold yf at hfr ⊢
      rw [this]; exact hfr
     rw [hfr',e,zov hq (σ':=qg σ' (m+dst.getD 0) (.tok 0)) fun i hi=>by
      rw [zp,zp,ha i (List.mem_cons_of_mem _ hi)]]
     rfl
    cases hgr:(cx.grow g).isSome <;> rw [hgr] at h <;> simp only [cond_true,cond_false] at h ⊢
    rotate_left
    ·unfold zij at h ⊢
     split at h
     ·rename_i y hargs
      obtain ⟨e,he,h⟩:=zd h
      obtain ⟨v,hv,h⟩:=zd h
      simp only [hargs,he,hv,zc]
      split at h
      ·obtain ⟨hc,h⟩:=ze h
       cases h
       rw [qz (ha _ List.mem_cons_self),hc]
       rfl
      ·cases h
     ·cases h
    cases hsm:(zhe cx.P g&&cap.isEmpty) <;> rw [hsm] at h <;> simp only [cond_true,cond_false] at h ⊢
    rotate_left
    ·obtain ⟨l,hl,h⟩:=zd h
     simp only [hl]
     exact h
    cases hgv:cx.gives g <;> rw [hgv] at h
    ·cases hnil:(cx.keep g&&zi0 cargs.toList) <;> rw [hnil] at h
     ·obtain ⟨l,hl,h⟩:=zd h
      simp only [hl,cond_false]
      exact zov h ha
     ·obtain ⟨l,hl,h⟩:=zd h
      obtain ⟨hfr,h⟩:=ze h
      simp only [hl,cond_true,cond_false]
      exact wrap hfr h
    ·obtain ⟨l,hl,h⟩:=zd h
     obtain ⟨hfr,h⟩:=ze h
     simp only [hl,cond_true]
     exact wrap hfr h
   ·cases h
  | invoke r nm=>exact h
  | builtin b=>
   cases b <;> first | exact h | skip
   ·simp only [x6] at h ⊢
    split at h
    ·obtain ⟨v,hv,h⟩:=zd h
     obtain ⟨u,hu,h⟩:=zd h
     obtain ⟨hc,h⟩:=ze h
     simp only [hv,hu,zc,hc,zb,cond_true]
     exact zxa h ha
    ·cases h
   ·simp only [x6] at h ⊢
    split at h
    ·obtain ⟨v,hv,h⟩:=zd h
     simp only [hv,zc]
     exact z4t h ha
    ·cases h
 all_goals exact h
end
end Go.Vai
end

section
namespace Go.Vai
section
variable {R:Type} {cx:Cx} {w:World} {σ σ':St} {μ:Mu}
def we(σ σ':St):Prop:=∀ i,zi σ' i=zi σ i
theorem we.own(h:we σ σ'):zr σ' μ=zr σ μ:=by
 funext b i
 simp only [zr,Mine,h _]
theorem we.after(h:we σ σ')(hi:Inv cx w σ μ):After cx w σ μ w σ' μ:=by
 have hown:=h.own (μ:=μ)
 have hst:Stays w (zr σ μ) w (zr σ' μ):=by rw [hown]; exact Stays.refl _ _
 have hstill:∀ id o,zi σ id=some o→y4 μ id o μ (zi σ' id):=fun id o ho=>by rw [h id,ho]; exact y4.refl μ id o
 have rv:∀ v x,RV w σ μ v x→RV w σ' μ v x:=fun v x hv=>hv.stays hst fun id _ o ho=>hstill id o ho
 have hm:Mine σ' μ=Mine σ μ:=by funext b i; simp only [Mine,h _]
 refine ⟨⟨fun id o ho=>?_,fun id id' o o' b i ho ho'=>hi.apart id id' o o' b i (h id ▸ ho) (h id' ▸ ho'),by rw [hown]; exact hi.glob,fun id o b i ho=>hi.frame id o b i (h id ▸ ho),hi.frLt,hi.frMap⟩,⟨⟨rfl,rfl,Nat.le_refl _,fun _ _ _=>rfl,fun _ _ _ _ h=>h⟩,fun b i _ ho=>by rw [hm] at ho; exact ho,rfl⟩,hstill,rfl⟩
 have hok:=hi.ob id o (h id ▸ ho)
 cases o with
 | val n v=>
  obtain ⟨b,cs,el,hb,hh,hn,ht,h1,hr,htag⟩:=hok
  exact ⟨b,cs,el,hb,hh,hn,ht,h1,hr.map fun v x _=>rv v x,htag⟩
 | row l=>
  exact qb.stays hst hok fun _ _ _=>rfl
 | tok n=>exact hok
 | map ks vs=>
  obtain ⟨b,es,clock,hb,hh,hk,hv⟩:=hok
  exact ⟨b,es,clock,hb,hh,hk.stays hst,hv.stays hst⟩
inductive Res where
 | dep
 | off
 | val (v:V) (δ:De) (fp:List Nat)
 | pan (v:V) (δ:De) (fp:List Nat)
structure It where
 i:Nat
 o:Oper
 res:Res
def It.wf(t:It):Option (Nat×V):=
 match t.res with
 | .off=>t.o.dst.map fun d=>(d,qp)
 | .val v _ _=>t.o.dst.map fun d=>(d,v)
 | _=>none
def It.ws(t:It):De:=
 match t.res with
 | .val _ δ _ | .pan _ δ _=>δ
 | _=>[]
def It.rf(ops:List Oper)(t:It):List Nat:=
 match t.res with
 | .dep=>[]
 | _=>looks ops t.o
def It.rs(t:It):List Nat:=
 match t.res with
 | .val _ _ fp | .pan _ _ fp=>fp
 | _=>[]
def It.nextF(t:It)(fr:Fr):Fr:=match t.wf with | some p=>p::fr | none=>fr
def It.nextS(t:It)(σ:St):St:=zf σ t.ws
def Good(cx:Cx)(m nt:Nat)(call:Nat→List V→St→Option (Out×St))(ops:List Oper)(fr:Fr)(σ:St)(t:It):Prop:=
 match t.res with
 | .dep=>True
 | .off=>zg4 ops t.o fr=some false
 | .val v δ fp=>zg4 ops t.o fr=some true∧zbe cx m nt call t.o fr σ=some (.val v,δ,fp)
 | .pan v δ fp=>zg4 ops t.o fr=some true∧zbe cx m nt call t.o fr σ=some (.pan v,δ,fp)
structure Comm (ops:List Oper) (a b:It):Prop where
 ab:∀ p,a.wf=some p→p.1 ∉ b.rf ops
 ba:∀ p,b.wf=some p→p.1 ∉ a.rf ops
 ff:∀ p q,a.wf=some p→b.wf=some q→p.1 ≠ q.1
 sab:∀ i∈a.ws.map (·.1),i ∉ b.rs∧i ∉ b.ws.map (·.1)
 sba:∀ i∈b.ws.map (·.1),i ∉ a.rs∧i ∉ a.ws.map (·.1)
variable {m nt:Nat} {call:Nat→List V→St→Option (Out×St)} {ops:List Oper}
theorem ztz{fr fr':Fr}{x:Operand}(h:∀ t,x=.tmp t→zi fr' t=zi fr t):opd fr' x=opd fr x:=by
 cases x <;> first | rfl | exact h _ rfl
theorem z11{o:Oper}{x:Operand}(hx:x∈o.op.operands){t:Nat}(ht:x=.tmp t):t∈looks ops o:=by
 subst ht
 exact List.mem_append_left _ (List.mem_filterMap.2 ⟨.tmp t,by simpa using hx,rfl⟩)
theorem zio{o:Oper}{fr fr':Fr}(h:∀ t∈looks ops o,zi fr' t=zi fr t):zg4 ops o fr'=zg4 ops o fr:=by
 unfold zg4
 split
 ·rfl
 ·rename_i j want hg
  split
  ·rfl
  ·rename_i t ht
   rw [h t (List.mem_append_right _ (by simp [hg,ht]))]
theorem Good.same{fr fr':Fr}{t:It}(h:Good cx m nt call ops fr σ t)(hf:∀ s∈t.rf ops,zi fr' s=zi fr s)(hs:agree t.rs σ σ'):Good cx m nt call ops fr' σ' t:=by
 unfold Good at h ⊢
 obtain ⟨i,o,res⟩:=t
 have key:∀ p:Tri,(∀ s∈looks ops o,zi fr' s=zi fr s)→zbe cx m nt call o fr σ=some p→agree p.2.2 σ σ'→zbe cx m nt call o fr' σ'=some p:=fun p hl h1 h2=>by
  have:zbe cx m nt call o fr' σ'=zbe cx m nt call o fr σ':=zyg fun x hx=>ztz fun t ht=>hl t (z11 hx ht)
  rw [this]
  exact z43 h1 h2
 cases res with
 | dep=>trivial
 | off=>exact (zio hf).trans h
 | val v δ fp=>exact ⟨(zio hf).trans h.1,key _ hf h.2 hs⟩
 | pan v δ fp=>exact ⟨(zio hf).trans h.1,key _ hf h.2 hs⟩
theorem za3(t:It)(fr:Fr)(s:Nat):zi (t.nextF fr) s=match t.wf with | some p=>if p.1=s then some p.2 else zi fr s | none=>zi fr s:=by
 unfold It.nextF
 cases t.wf with
 | none=>rfl
 | some p=>
  obtain ⟨d,v⟩:=p
  simp only [zi]
  by_cases h:d=s
  ·subst h; simp
  ·simp [h,zjb h]
theorem zqk{t:It}{fr:Fr}{s:Nat}(h:∀ p,t.wf=some p→p.1 ≠ s):zi (t.nextF fr) s=zi fr s:=by
 rw [za3]
 cases hw:t.wf with
 | none=>rfl
 | some p=>simp [h p hw]
theorem zco{t:It}{s:Nat}(h:s ∉ t.ws.map (·.1)):zi (t.nextS σ) s=zi σ s:=za4 h
theorem zgu{δ : De} : ∀ {σ σ' : St} {i : Nat}, i ∈ δ.map (·.1) ∨ zi σ' i = zi σ i → zi (zf σ' δ) i = zi (zf σ δ) i := by
  induction δ with
  | nil => intro σ σ' i h; rcases h with h | h; · simp at h
           exact h
  | cons p δ ih =>
    intro σ σ' i h
    obtain ⟨j, o⟩ := p
    simp only [zf]
    refine ih ?_
    by_cases hj : j = i
    · right; subst hj; simp [zp]
    · simp only [List.map_cons, List.mem_cons] at h
      rcases h with (h | h) | h
      · exact absurd h.symm hj
      · exact .inl h
      · right; simp [zp, hj, h]
theorem znn{t:It}(h:we σ σ'):we (t.nextS σ) (t.nextS σ'):=fun i=>zgu (.inr (h i))
theorem zno{t:It}{fr fr':Fr}(h:xj fr fr'):xj (t.nextF fr) (t.nextF fr'):=fun i=>by rw [za3,za3]; split <;> simp [h i]
theorem Comm.swapF{a b:It}(h:Comm ops a b)(fr:Fr):xj (b.nextF (a.nextF fr)) (a.nextF (b.nextF fr)):=fun i=>by
 rw [za3,za3,za3,za3]
 cases ha:a.wf with
 | none=>rfl
 | some p=>
  cases hb:b.wf with
  | none=>rfl
  | some q=>
   have:=h.ff p q ha hb
   by_cases h1:p.1=i
   ·have:q.1 ≠ i:=fun e=>this (h1.trans e.symm)
    simp [h1,this]
   ·simp [h1]
theorem Comm.swapS{a b:It}(h:Comm ops a b)(σ:St):we (b.nextS (a.nextS σ)) (a.nextS (b.nextS σ)):=fun i=>by
 by_cases ha:i∈a.ws.map (·.1)
 ·have hb:=(h.sab i ha).2
  rw [zco (t:=b) hb]
  exact zgu (.inl ha)
 ·rw [zco (t:=a) ha]
  by_cases hb:i∈b.ws.map (·.1)
  ·exact (zgu (.inl hb))
  ·rw [zco (t:=b) hb,zco (t:=b) hb,zco (t:=a) ha]
def Rem(cx:Cx)(m nt:Nat)(call:Nat→List V→St→Option (Out×St))(ops:List Oper):List It→Fr→St→Prop
 | [],_,_=>True
 | t::L,fr,σ=>Good cx m nt call ops fr σ t∧Rem cx m nt call ops L (t.nextF fr) (t.nextS σ)
def zpv:List It→Fr→Fr
 | [],fr=>fr
 | t::L,fr=>zpv L (t.nextF fr)
def zie:List It→St→St
 | [],σ=>σ
 | t::L,σ=>zie L (t.nextS σ)
theorem Rem.same:∀ {L:List It} {fr fr':Fr} {σ σ':St},Rem cx m nt call ops L fr σ→xj fr fr'→we σ σ'→Rem cx m nt call ops L fr' σ'
 | [],_,_,_,_,_,_,_=>trivial
 | _::_,_,_,_,_,h,hf,hs=>⟨h.1.same (fun s _=>hf s) (fun i _=>hs i),Rem.same h.2 (zno hf) (znn hs)⟩
theorem zh6:∀ {L:List It} {fr fr':Fr},xj fr fr'→xj (zpv L fr) (zpv L fr')
 | [],_,_,h=>h
 | t::L,fr,fr',h=>zh6 (L:=L) (fr:=t.nextF fr) (fr':=t.nextF fr') (zno h)
theorem zrd:∀ {L:List It} {σ σ':St},we σ σ'→we (zie L σ) (zie L σ')
 | [],_,_,h=>h
 | t::L,σ,σ',h=>zrd (L:=L) (σ:=t.nextS σ) (σ':=t.nextS σ') (znn h)
theorem xj.trans{a b c:Fr}(h:xj a b)(h':xj b c):xj a c:=fun t=>(h' t).trans (h t)
theorem we.trans{a b c:St}(h:we a b)(h':we b c):we a c:=fun t=>(h' t).trans (h t)
theorem we.refl(a:St):we a a:=fun _=>rfl
theorem Rem.pull{b:It}{B:List It}:∀ {A:List It} {fr:Fr} {σ:St},Rem cx m nt call ops (A++b::B) fr σ→(∀ a∈A,Comm ops a b) →
  Good cx m nt call ops fr σ b∧Rem cx m nt call ops (A++B) (b.nextF fr) (b.nextS σ)∧xj (zpv (A++b::B) fr) (zpv (A++B) (b.nextF fr))∧we (zie (A++b::B) σ) (zie (A++B) (b.nextS σ))
 | [],fr,σ,h,_=>⟨h.1,h.2,xj.refl _,we.refl _⟩
 | a::A,fr,σ,h,hc=>by
  have hab:=hc a List.mem_cons_self
  obtain ⟨h1,h2⟩:=h
  obtain ⟨g1,g2,g3,g4⟩:=Rem.pull h2 fun x hx=>hc x (List.mem_cons_of_mem _ hx)
  have gb:Good cx m nt call ops fr σ b:=g1.same (fun s hs=>(zqk fun p hp e=>hab.ab p hp (e ▸ hs)).symm) (fun i hi=>(zco fun hm=>(hab.sab i hm).1 hi).symm)
  have ga:Good cx m nt call ops (b.nextF fr) (b.nextS σ) a:=h1.same (fun s hs=>zqk fun p hp e=>hab.ba p hp (e ▸ hs)) (fun i hi=>zco fun hm=>(hab.sba i hm).1 hi)
  exact ⟨gb,⟨ga,g2.same (hab.swapF fr) (hab.swapS σ)⟩,g3.trans (zh6 (hab.swapF fr)),g4.trans (zrd (hab.swapS σ))⟩
end
end Go.Vai
end

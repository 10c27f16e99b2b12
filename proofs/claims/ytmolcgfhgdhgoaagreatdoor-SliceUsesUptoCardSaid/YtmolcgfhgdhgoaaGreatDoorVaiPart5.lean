/-
  Regions whose order is open: every order.
  Regions whose order is open: the interpreter's one order stands for all.
  Regions, and all code.
  Regions whose order is open, in two parts.
  A region whose order is open, at the end of which a place is made behind a slice's end and filled, and the slice is stored.
  All code.
  Calls: what leaves them.
  Calls of functions.
  A slice that a call hands out, with the right to append to it.
-/
import Derived.Test.YtmolcgfhgdhgoaaGreatDoorVaiPart4

set_option linter.all false
set_option linter.unusedSimpArgs false
set_option linter.unusedVariables false

section
namespace Go.Vai
section
variable {R:Type} {cx:Cx}
theorem zne:∀ (ops:List Oper) (acc:List Nat) (i:Nat),i<acc.length→(qq ops acc).getD i 0=acc.getD i 0
 | [],_,_,_=>rfl
 | o::r,acc,i,h=>by
  simp only [qq]
  rw [zne r _ i (by simp; omega)]
  simp [List.getD_eq_getElem?_getD,List.getElem?_append_left h]
theorem ztv{acc:List Nat}{k:Nat}:∀ (es:List Edge) (s:Nat),
  (es.foldl (fun s e=>bif Region.binds .any e then s ||| 2 ^ e.on ||| acc.getD e.on 0 else s) s).testBit k=true →
  s.testBit k=true∨∃ e∈es,Region.binds .any e=true∧(k=e.on∨(acc.getD e.on 0).testBit k=true)
 | [],s,h=>.inl h
 | e::es,s,h=>by
  simp only [List.foldl_cons] at h
  rcases ztv es _ h with h | ⟨e',he',h⟩
  ·cases hb:Region.binds .any e <;> rw [hb] at h
   ·exact .inl h
   ·simp only [cond_true,Nat.testBit_or,Bool.or_eq_true] at h
    rcases h with (h | h) | h
    ·exact .inl h
    ·refine .inr ⟨e,List.mem_cons_self,hb,.inl ?_⟩
     rw [Nat.testBit_two_pow] at h
     simpa [eq_comm] using h
    ·exact .inr ⟨e,List.mem_cons_self,hb,.inr h⟩
  ·exact .inr ⟨e',List.mem_cons_of_mem _ he',h⟩
theorem zkw:∀ (ops:List Oper) (acc:List Nat) (i k:Nat),acc.length≤i→xb (qq ops acc) i k=true →
  ∃ o e,ops[i - acc.length]?=some o∧e∈o.after.toList∧Region.binds .any e=true∧(k=e.on∨xb (qq ops acc) e.on k=true)
 | [],acc,i,k,hi,h=>by
  simp only [qq,xb,List.getD_eq_getElem?_getD,List.getElem?_eq_none hi] at h
  simp at h
 | o::r,acc,i,k,hi,h=>by
  simp only [qq] at h ⊢
  by_cases he:i=acc.length
  ·subst he
   have h0:=h
   simp only [xb] at h
   rw [zne r _ _ (by simp)] at h
   simp only [List.getD_eq_getElem?_getD,List.getElem?_concat_length,Option.getD_some] at h
   rcases ztv _ _ h with h | ⟨e,he,hb,h⟩
   ·simp at h
   ·refine ⟨o,e,by simp,he,hb,h.imp id fun h=>?_⟩
    by_cases hlt:e.on<acc.length
    ·simp only [xb]
     rw [zne r _ _ (by simp; omega)]
     simpa [List.getD_eq_getElem?_getD,List.getElem?_append_left hlt] using h
    ·simp [List.getD_eq_getElem?_getD,List.getElem?_eq_none (Nat.le_of_not_lt hlt)] at h
  ·obtain ⟨o',e,h1,h2⟩:=zkw r (acc++[_]) i k (by simp; omega) h
   refine ⟨o',e,?_,h2⟩
   have:i - acc.length=(i - (acc++[o.after.toList.foldl (fun s e=>bif Region.binds .any e then s ||| 2 ^ e.on ||| acc.getD e.on 0 else s) 0]).length)+1:=by simp; omega
   rw [this,List.getElem?_cons_succ]
   exact h1
def zag(t:It):Prop:=match t.res with | .pan ..=>True | _=>False
def zqq(t:It):Log:=⟨t.i,t.ws.map (·.1)++t.rs,t.ws.map (·.1)⟩
variable {m nt:Nat} {call:Nat→List V→St→Option (Out×St)} {ds:List Deferred} {w₀:World} {σ₀:St} {μ₀:Mu}
def lis(listed:Array Bool)(i:Nat):Prop:=listed.getD i false=true
theorem zf6{listed:Array Bool}{i j:Nat}(hi:i<listed.size):lis (listed.setIfInBounds i true) j↔j=i∨lis listed j:=by
 unfold lis
 by_cases h:i=j
 ·subst h; simp [Array.getD_eq_getD_getElem?,hi]
 ·simp [Array.getD_eq_getD_getElem?,Array.getElem?_setIfInBounds_ne h,Ne.symm h]
theorem any_ok(hcall:zad cx call)(hn:xc cx.P){arr:Array Oper}{K:Ex→Fr→St→Option R}{r:R}
  {Q:Exit→Act→World→Prop} {frE:Fr} {σE:St}
  (hQ:∀ e fr σ,K e fr σ=some r→∀ x a w μ,zgy w σ μ e x→Now cx nt ds w₀ σ₀ μ₀ a w σ μ fr→Q x a w)
  (hedge:∀ (j:Nat) o,arr.toList[j]?=some o→zbi j o=true) :
  ∀ (N:Nat) (L:List It) (listed:Array Bool) (fr:Fr) (σ:St) (a:Act) (w:World) (μ:Mu),L.length=N→listed.size=arr.size →
   (∀ t∈L,arr.toList[t.i]?=some t.o)→(∀ i,i<arr.size→(lis listed i↔∀ t∈L,t.i ≠ i)) →
   L.Pairwise (fun a b=>a.i<b.i∧(xb (qq arr.toList []) b.i a.i=true∨Comm arr.toList a b)) →
   (∀ j k,lis listed j→xb (qq arr.toList []) j k=true→lis listed k) →
   (∀ t∈L,t.res=.dep∨zl8 nt t.o.dst=true) →
   (∀ t∈L,t.res=.dep→∃ t'∈L,zag t'∧xb (qq arr.toList []) t.i t'.i=true) →
   (∀ t∈L,∀ v δ fp,t.res=.pan v δ fp→K (.pan v) [] σE=some r∧∀ t'∈L,t'.ws=[]∨t'.i=t.i∨xb (qq arr.toList []) t.i t'.i=true) →
   ((∃ t∈L,zag t)∨K .normal frE σE=some r) →
   Rem cx m nt call arr.toList L fr σ→xj (zpv L fr) frE→we (zie L σ) σE →
   Now cx nt ds w₀ σ₀ μ₀ a w σ μ fr→wpAny cx.P .any arr Q N listed a w:=by
 intro N
 induction N with
 | zero=>
  intro L listed fr σ a w μ hN hsz hops hlis hpair hclosed hdst hdep hpan hend hrem hF hS hnow
  obtain rfl:=List.eq_nil_of_length_eq_zero hN
  have hK:K .normal frE σE=some r:=hend.resolve_left (by simp)
  refine ⟨?_,?_⟩
  ·simp only [Region.ready,List.filter_eq_nil_iff,List.mem_range]
   intro i hi
   have:lis listed i:=(hlis i hi).2 (by simp)
   have hi':i<listed.size:=by omega
   simp [lis,Array.getD_eq_getD_getElem?,hi'] at this ⊢
   simp [this]
  ·have haf:=hS.after hnow.after.inv
   exact hQ _ _ _ hK _ _ _ μ trivial ⟨hnow.after.trans haf,(haf.frs hnow.after.inv hnow.fr).same hF,hnow.size,hnow.defers⟩
 | succ N ih=>
  intro L listed fr σ a w μ hN hsz hops hlis hpair hclosed hdst hdep hpan hend hrem hF hS hnow
  refine ⟨fun hready=>?_,fun i hi=>?_⟩
  ·-- something is always ready
   exfalso
   cases L with
   | nil=>simp at hN
   | cons t L=>
    have ht:=hops t List.mem_cons_self
    have hlt:t.i<arr.size:=by have:=(List.getElem?_eq_some_iff.1 ht).1; simpa using this
    have hnl : ¬ lis listed t.i:=fun h=>((hlis t.i hlt).1 h) t List.mem_cons_self rfl
    have:t.i∈Region.ready .any arr listed:=by
     simp only [Region.ready,List.mem_filter,List.mem_range]
     refine ⟨hlt,?_⟩
     have h1:arr[t.i]?=some t.o:=by simpa using ht
     have h2:listed.getD t.i true=false:=by
      have hi':t.i<listed.size:=by omega
      simp [lis,Array.getD_eq_getD_getElem?,hi'] at hnl ⊢
      exact hnl
     simp only [h1,h2,Bool.not_false,Bool.true_and,Option.map_some,Option.getD_some]
     rw [←Array.all_toList,List.all_eq_true]
     intro e he
     have he2:=List.all_eq_true.1 (hedge t.i t.o ht) e he
     cases hb:Region.binds .any e
     ·rfl
     ·rw [hb] at he2
      have hlt2:e.on<t.i:=by simpa using he2
      have:lis listed e.on:=(hlis e.on (by omega)).2 fun u hu hui=>by
       rcases List.mem_cons.1 hu with rfl | hu
       ·omega
       ·have:=(List.pairwise_cons.1 hpair).1 u hu
        omega
      simpa [lis] using this
    rw [hready] at this
    cases this
  ·-- one that is ready
   simp only [Region.ready,List.mem_filter,List.mem_range,Bool.and_eq_true] at hi
   obtain ⟨hlt,hnl,haft⟩:=hi
   have hnl' : ¬ lis listed i:=by
    have hi':i<listed.size:=by omega
    simp [lis,Array.getD_eq_getD_getElem?,hi'] at hnl ⊢
    exact hnl
   obtain ⟨b,hb,hbi⟩:∃ b∈L,b.i=i:=Classical.byContradiction fun hne=>hnl' ((hlis i hlt).2 fun t ht he=>hne ⟨t,ht,he⟩)
   subst hbi
   obtain ⟨A,B,rfl⟩:=List.append_of_mem hb
   have hbo:=hops b hb
   have hbo':arr[b.i]?=some b.o:=by simpa using hbo
   simp only [hbo',Option.map_some,Option.getD_some] at haft
   have hbefore:∀ k,xb (qq arr.toList []) b.i k=true→lis listed k:=by
    intro k hk
    obtain ⟨o,e,h1,h2,h3,h4⟩:=zkw arr.toList [] b.i k (Nat.zero_le _) hk
    rw [List.length_nil,Nat.sub_zero,hbo] at h1
    cases h1
    rw [←Array.all_toList,List.all_eq_true] at haft
    have he:=haft e h2
    rw [h3] at he
    have hl:lis listed e.on:=by simpa [lis] using he
    rcases h4 with rfl | h4
    ·exact hl
    ·exact hclosed _ _ hl h4
   have hunl:∀ t∈A++b::B,¬ lis listed t.i:=fun t ht h=>by
    have hto:=hops t ht
    have hlt:t.i<arr.size:=by have:=(List.getElem?_eq_some_iff.1 hto).1; simpa using this
    exact (hlis t.i hlt).1 h t ht rfl
   have hpair':=hpair
   rw [List.pairwise_append] at hpair'
   obtain ⟨hpA,hpB,hpAB⟩:=hpair'
   rw [List.pairwise_cons] at hpB
   have hcomm:∀ x∈A,Comm arr.toList x b:=fun x hx=>
    ((hpAB x hx b List.mem_cons_self).2).resolve_left fun h=>hunl x (List.mem_append_left _ hx) (hbefore _ h)
   obtain ⟨hg,hrem',hF',hS'⟩:=hrem.pull hcomm
   have hsub:∀ t∈A++B,t∈A++b::B:=fun t ht=>by
    rcases List.mem_append.1 ht with h | h
    ·exact List.mem_append_left _ h
    ·exact List.mem_append_right _ (List.mem_cons_of_mem _ h)
   have hne:∀ t∈A++B,t.i ≠ b.i:=fun t ht=>by
    rcases List.mem_append.1 ht with h | h
    ·have:=(hpAB t h b List.mem_cons_self).1; omega
    ·have:=(hpB.1 t h).1; omega
   have hsz':b.i<listed.size:=by omega
   -- the rest,once this one is done
   have rest : ¬ zag b→∀ (a':Act) (w':World) (μ':Mu),Now cx nt ds w₀ σ₀ μ₀ a' w' (b.nextS σ) μ' (b.nextF fr)→wpAny cx.P .any arr Q N (listed.setIfInBounds b.i true) a' w':=by
    intro hnp a' w' μ' hnow'
    refine ih (A++B) _ _ _ a' w' μ' ?_ (by simpa using hsz) (fun t ht=>hops t (hsub t ht)) ?_ ?_ ?_ (fun t ht=>hdst t (hsub t ht)) ?_ ?_ ?_ hrem' (fun s=>(hF s).trans (hF' s).symm) (fun s=>(hS s).trans (hS' s).symm) hnow'
    ·simp at hN ⊢; omega
    ·intro j hj
     rw [zf6 hsz',hlis j hj]
     constructor
     ·rintro (rfl | h) t ht
      ·exact hne t ht
      ·exact h t (hsub t ht)
     ·intro h
      by_cases hjb:j=b.i
      ·exact .inl hjb
      ·refine .inr fun t ht=>?_
       rcases List.mem_append.1 ht with h' | h'
       ·exact h t (List.mem_append_left _ h')
       ·rcases List.mem_cons.1 h' with rfl | h'
        ·exact fun e=>hjb e.symm
        ·exact h t (List.mem_append_right _ h')
    ·rw [List.pairwise_append]
     exact ⟨hpA,hpB.2,fun x hx y hy=>hpAB x hx y (List.mem_cons_of_mem _ hy)⟩
    ·intro j k hj hk
     rw [zf6 hsz'] at hj ⊢
     rcases hj with rfl | hj
     ·exact .inr (hbefore k hk)
     ·exact .inr (hclosed j k hj hk)
    ·intro t ht htd
     obtain ⟨t',ht',hp,hpre⟩:=hdep t (hsub t ht) htd
     refine ⟨t',?_,hp,hpre⟩
     rcases List.mem_append.1 ht' with h' | h'
     ·exact List.mem_append_left _ h'
     ·rcases List.mem_cons.1 h' with rfl | h'
      ·exact (hnp hp).elim
      ·exact List.mem_append_right _ h'
    ·intro t ht v δ fp htp
     obtain ⟨h1,h2⟩:=hpan t (hsub t ht) v δ fp htp
     exact ⟨h1,fun t' ht'=>h2 t' (hsub t' ht')⟩
    ·refine hend.imp (fun ⟨t,ht,hp⟩=>⟨t,?_,hp⟩) id
     rcases List.mem_append.1 ht with h' | h'
     ·exact List.mem_append_left _ h'
     ·rcases List.mem_cons.1 h' with rfl | h'
      ·exact (hnp hp).elim
      ·exact List.mem_append_right _ h'
   unfold wpOp
   simp only [hbo']
   have hd:=hdst b hb
   cases hres:b.res with
   | dep=>
    obtain ⟨t',ht',_,hpre⟩:=hdep b hb hres
    exact (hunl t' ht' (hbefore _ hpre)).elim
   | off=>
    have hd:=hd.resolve_left (by rw [hres]; intro h; cases h)
    simp only [Good,hres] at hg
    rw [zc4 rfl hnow.fr hg]
    simp only [Bool.false_eq_true,if_false]
    have e1:b.nextF fr=zek fr b.o.dst qp:=by simp only [It.nextF,It.wf,hres,zek]; cases b.o.dst <;> rfl
    have e2:b.nextS σ=σ:=by simp only [It.nextS,It.ws,hres]; rfl
    refine rest (by simp [zag,hres]) _ _ μ ?_
    rw [e1,e2]
    exact ⟨hnow.after,FR.put hnow.fr hd hnow.size zmz,by rw [qf]; exact hnow.size,by rw [wv]; exact hnow.defers⟩
   | val v δ fp=>
    have hd:=hd.resolve_left (by rw [hres]; intro h; cases h)
    simp only [Good,hres] at hg
    obtain ⟨hw,hev⟩:=hg
    rw [zc4 rfl hnow.fr hw,if_pos rfl]
    left
    obtain ⟨oc,δ',fp',hK,hok⟩:=zj9 hcall hn hnow.after.inv hnow.fr hev
    cases hK
    refine hok _ _ ?_
    intro v' w' μ' haf hv
    have e1:b.nextF fr=zek fr b.o.dst v:=by simp only [It.nextF,It.wf,hres,zek]; cases b.o.dst <;> rfl
    have e2:b.nextS σ=zf σ δ:=by simp only [It.nextS,It.ws,hres]
    refine rest (by simp [zag,hres]) _ _ μ' ?_
    rw [e1,e2]
    exact ⟨hnow.after.trans haf,FR.put (haf.frs hnow.after.inv hnow.fr) hd hnow.size hv,by rw [qf]; exact hnow.size,by rw [wv]; exact hnow.defers⟩
   | pan v δ fp=>
    simp only [Good,hres] at hg
    obtain ⟨hw,hev⟩:=hg
    rw [zc4 rfl hnow.fr hw,if_pos rfl]
    left
    obtain ⟨oc,δ',fp',hK,hok⟩:=zj9 hcall hn hnow.after.inv hnow.fr hev
    cases hK
    refine hok _ _ ?_
    intro x w' μ' haf hv
    obtain ⟨hKp,hws⟩:=hpan b hb v δ fp hres
    have e2:b.nextS σ=zf σ δ:=by simp only [It.nextS,It.ws,hres]
    have hquiet:∀ (L:List It) (σ:St),(∀ t∈L,t.ws=[])→zie L σ=σ:=by
     intro L
     induction L with
     | nil=>intro σ _; rfl
     | cons t L ihL=>
      intro σ h
      simp only [zie]
      rw [ihL _ fun u hu=>h u (List.mem_cons_of_mem _ hu)]
      simp only [It.nextS,h t List.mem_cons_self,zf]
    have hall:∀ t∈A++B,t.ws=[]:=fun t ht=>by
     rcases hws t (hsub t ht) with h | h | h
     ·exact h
     ·exact (hne t ht h).elim
     ·exact (hunl t (hsub t ht) (hbefore _ h)).elim
    have hsame:we (zf σ δ) σE:=by
     intro s
     rw [hS s,←hS' s,hquiet _ _ hall,e2]
    have haf2:=hsame.after haf.inv
    exact hQ _ _ _ hKp _ _ _ μ' ⟨x,rfl,haf2.rv haf.inv hv⟩ ⟨(hnow.after.trans haf).trans haf2,FR.nil,hnow.size,hnow.defers⟩
end
end Go.Vai
end

section
namespace Go.Vai
section
variable {R:Type} {cx:Cx} {m nt:Nat} {call:Nat→List V→St→Option (Out×St)} {ops:List Oper}
def yec(K:Ex→Fr→St→Option R)(r:R)(pre:List Nat)(log:List Log)(L:List It)(fr:Fr)(σ:St):Option (Nat×V)→Prop
 | some (k,v)=>(∀ t∈L,¬ zag t)∧(∀ t∈L,t.res=.dep→xb pre t.i k=true)∧K (.pan v) [] (zie L σ)=some r ∧
   (∀ e∈log,e.w=[]∨e.i=k∨xb pre k e.i=true)∧∀ t∈L,t.ws=[]∨t.i=k∨xb pre k t.i=true
 | none=>((∀ t∈L,¬ zag t)∧(∀ t∈L,t.res ≠ .dep)∧∃ frE,xj (zpv L fr) frE∧K .normal frE (zie L σ)=some r) ∨
   ∃ t₀∈L,∃ v δ fp,t₀.res=.pan v δ fp∧(∀ t∈L,zag t→t=t₀)∧(∀ t∈L,t.res=.dep→xb pre t.i t₀.i=true)∧K (.pan v) [] (zie L σ)=some r ∧
    (∀ e∈log,e.w=[]∨e.i=t₀.i∨xb pre t₀.i e.i=true)∧∀ t∈L,t.ws=[]∨t.i=t₀.i∨xb pre t₀.i t.i=true
theorem zqo{pre:List Nat}{e:Log}{i:Nat}:ze1 pre e ⟨i,[],[]⟩=true:=by simp [ze1,z2v]
theorem znr{pre:List Nat}{e:Log}{i:Nat}:ze1 pre ⟨i,[],[]⟩ e=true:=by simp [ze1,z2v]
theorem zd9{α:Type}{l:List α}(h:l.isEmpty=true):l=[]:=by simpa using h
theorem zkb{K0:Nat}{pre:List Nat}{K:Ex→Fr→St→Option R}{r:R} :
  ∀ (l:List Oper) (i:Nat) (log:List Log) (dead:Option (Nat×V)) (fr:Fr) (σ:St),(ops.take K0).drop i=l→(∀ k v,dead=some (k,v)→k<i) →
   vl cx m nt call ops pre i l log dead fr σ K=some r →
   ∃ L:List It,(∀ t∈L,(i≤t.i∧t.i<(ops.take K0).length)∧ops[t.i]?=some t.o)∧(∀ j,i≤j→j<(ops.take K0).length→∃ t∈L,t.i=j)∧L.Pairwise (fun a b=>a.i<b.i∧ze1 pre (zqq a) (zqq b)=true) ∧
    (∀ e∈log,∀ t∈L,ze1 pre e (zqq t)=true)∧(∀ t∈L,t.res=.dep∨zl8 nt t.o.dst=true)∧Rem cx m nt call ops L fr σ∧yec K r pre log L fr σ dead∧L.length+i=max i (ops.take K0).length:=by
 intro l
 induction l with
 | nil=>
  intro i log dead fr σ hl hk h
  have hlen:(ops.take K0).length≤i:=by have:=congrArg List.length hl; rw [List.length_drop] at this; simp only [List.length_nil,List.length_cons] at this; omega
  refine ⟨[],by simp,fun j h1 h2=>by omega,.nil,by simp,by simp,trivial,?_,by rw [List.length_nil]; omega⟩
  cases dead with
  | none=>exact .inl ⟨by simp,by simp,fr,xj.refl fr,h⟩
  | some p=>
   obtain ⟨k,v⟩:=p
   simp only [vl] at h
   obtain ⟨hc,h⟩:=ze h
   refine ⟨by simp,by simp,h,fun e he=>?_,by simp⟩
   have:=List.all_eq_true.1 hc e he
   simp only [Bool.or_eq_true] at this
   rcases this with (h | h) | h
   ·exact .inl (zd9 h)
   ·exact .inr (.inl (Nat.eq_of_beq_eq_true h))
   ·exact .inr (.inr h)
 | cons o l ih=>
  intro i log dead fr σ hl hk h
  have hlt:i<(ops.take K0).length:=by have:=congrArg List.length hl; rw [List.length_drop] at this; simp only [List.length_nil,List.length_cons] at this; omega
  have ho:ops[i]?=some o:=by
   have:=congrArg (·[0]?) hl
   have h2:(ops.take K0)[i]?=some o:=by simpa using this
   rw [List.getElem?_take_of_lt (by rw [List.length_take] at hlt; omega)] at h2
   exact h2
  have hrest:(ops.take K0).drop (i+1)=l:=by rw [←List.drop_drop,hl]; rfl
  have hcover:∀ {L:List It} {t:It},t.i=i→(∀ j,i+1≤j→j<(ops.take K0).length→∃ t∈L,t.i=j)→∀ j,i≤j→j<(ops.take K0).length→∃ u∈t::L,u.i=j:=by
   intro L t ht h j h1 h2
   by_cases hj:j=i
   ·exact ⟨t,List.mem_cons_self,ht.trans hj.symm⟩
   ·obtain ⟨u,hu,huj⟩:=h j (by omega) h2
    exact ⟨u,List.mem_cons_of_mem _ hu,huj⟩
  simp only [vl] at h
  cases hdep:zkg pre i dead
  ·rw [hdep,cond_false] at h
   obtain ⟨hd,h⟩:=ze h
   obtain ⟨fr',hs,h⟩:=zl4 h
   rcases h with ⟨hw,h⟩ | ⟨hw,h⟩
   ·-- it runs
    obtain ⟨p,hp,h⟩:=zd h
    obtain ⟨hmeet,h⟩:=ze h
    obtain ⟨oc,δ,fp⟩:=p
    have hfr:zbe cx m nt call o fr σ=some (oc,δ,fp):=by
     rw [←hp]
     unfold zbe
     exact (zyg fun x _=>ztz fun t _=>hs t).symm
    cases oc with
    | val v=>
     simp only at h hmeet
     obtain ⟨L,h1,h2,h3,h4,h5,h6,h7,h8⟩:=ih (i+1) _ dead _ _ hrest (fun k v hd=>Nat.lt_succ_of_lt (hk k v hd)) h
     let t:It:=⟨i,o,.val v δ fp⟩
     have hlog:zqq t=⟨i,δ.map (·.1)++fp,δ.map (·.1)⟩:=rfl
     have hsF:xj (t.nextF fr) (zek fr' o.dst v):=fun s=>by
      rw [zld,za3,show t.wf=o.dst.map fun d=>(d,v) from rfl]
      cases o.dst with
      | none=>simp [hs s]
      | some d=>simp [hs s]
     refine ⟨t::L,?_,hcover rfl h2,?_,?_,?_,⟨⟨hw,hfr⟩,h6.same (fun s=>(hsF s).symm) (fun _=>rfl)⟩,?_,by rw [List.length_cons]; omega⟩
     ·intro u hu
      rcases List.mem_cons.1 hu with rfl | hu
      ·exact ⟨⟨Nat.le_refl _,hlt⟩,ho⟩
      ·exact ⟨by have:=(h1 u hu).1; omega,(h1 u hu).2⟩
     ·refine List.pairwise_cons.2 ⟨fun u hu=>⟨by have:=(h1 u hu).1; show i<u.i; omega,?_⟩,h3⟩
      exact h4 _ List.mem_cons_self u hu
     ·intro e he u hu
      rcases List.mem_cons.1 hu with rfl | hu
      ·exact List.all_eq_true.1 hmeet e he
      ·exact h4 e (List.mem_cons_of_mem _ he) u hu
     ·intro u hu
      rcases List.mem_cons.1 hu with rfl | hu
      ·exact .inr hd
      ·exact h5 u hu
     ·have hws:t.ws=[]↔δ.map (·.1)=[]:=by show δ=[]↔_; simp
      cases dead with
      | some q=>
       obtain ⟨k,u⟩:=q
       obtain ⟨g1,g2,g3,g4,g5⟩:=h7
       refine ⟨fun x hx=>?_,fun x hx hd=>?_,g3,fun e he=>g4 e (List.mem_cons_of_mem _ he),fun x hx=>?_⟩
       ·rcases List.mem_cons.1 hx with rfl | hx
        ·exact fun h=>h
        ·exact g1 x hx
       ·rcases List.mem_cons.1 hx with rfl | hx
        ·cases hd
        ·exact g2 x hx hd
       ·rcases List.mem_cons.1 hx with rfl | hx
        ·have:=g4 _ List.mem_cons_self
         rw [hws]; exact this
        ·exact g5 x hx
      | none=>
       rcases h7 with ⟨g1,g2,frE,g3,g4⟩ | ⟨t₀,g1,v₀,δ₀,fp₀,g2,g3,g4,g5,g6,g7⟩
       ·refine .inl ⟨fun x hx=>?_,fun x hx=>?_,frE,(zh6 hsF).trans g3,g4⟩
        ·rcases List.mem_cons.1 hx with rfl | hx
         ·exact fun h=>h
         ·exact g1 x hx
        ·rcases List.mem_cons.1 hx with rfl | hx
         ·intro h; cases h
         ·exact g2 x hx
       ·refine .inr ⟨t₀,List.mem_cons_of_mem _ g1,v₀,δ₀,fp₀,g2,fun x hx hp=>?_,fun x hx hd=>?_,g5,fun e he=>g6 e (List.mem_cons_of_mem _ he),fun x hx=>?_⟩
        ·rcases List.mem_cons.1 hx with rfl | hx
         ·exact hp.elim
         ·exact g3 x hx hp
        ·rcases List.mem_cons.1 hx with rfl | hx
         ·cases hd
         ·exact g4 x hx hd
        ·rcases List.mem_cons.1 hx with rfl | hx
         ·have:=g6 _ List.mem_cons_self
          rw [hws]; exact this
         ·exact g7 x hx
    | pan v=>
     cases dead with
     | some q=>cases h
     | none=>
      simp only at h hmeet
      obtain ⟨L,h1,h2,h3,h4,h5,h6,h7,h8⟩:=ih (i+1) _ (some (i,v)) _ _ hrest (fun k v hd=>by cases hd; omega) h
      let t:It:=⟨i,o,.pan v δ fp⟩
      obtain ⟨g1,g2,g3,g4,g5⟩:=h7
      refine ⟨t::L,?_,hcover rfl h2,?_,?_,?_,⟨⟨hw,hfr⟩,h6.same (fun s=>(hs s).symm) (fun _=>rfl)⟩,?_,by rw [List.length_cons]; omega⟩
      ·intro u hu
       rcases List.mem_cons.1 hu with rfl | hu
       ·exact ⟨⟨Nat.le_refl _,hlt⟩,ho⟩
       ·exact ⟨by have:=(h1 u hu).1; omega,(h1 u hu).2⟩
      ·refine List.pairwise_cons.2 ⟨fun u hu=>⟨by have:=(h1 u hu).1; show i<u.i; omega,?_⟩,h3⟩
       exact h4 _ List.mem_cons_self u hu
      ·intro e he u hu
       rcases List.mem_cons.1 hu with rfl | hu
       ·exact List.all_eq_true.1 hmeet e he
       ·exact h4 e (List.mem_cons_of_mem _ he) u hu
      ·intro u hu
       rcases List.mem_cons.1 hu with rfl | hu
       ·exact .inr hd
       ·exact h5 u hu
      ·refine .inr ⟨t,List.mem_cons_self,v,δ,fp,rfl,fun x hx hp=>?_,fun x hx hd=>?_,g3,fun e he=>g4 e (List.mem_cons_of_mem _ he),fun x hx=>?_⟩
       ·rcases List.mem_cons.1 hx with rfl | hx
        ·rfl
        ·exact (g1 x hx hp).elim
       ·rcases List.mem_cons.1 hx with rfl | hx
        ·cases hd
        ·exact g2 x hx hd
       ·rcases List.mem_cons.1 hx with rfl | hx
        ·exact .inr (.inl rfl)
        ·exact g5 x hx
   ·-- it is not wanted
    obtain ⟨L,h1,h2,h3,h4,h5,h6,h7,h8⟩:=ih (i+1) _ dead _ _ hrest (fun k v hd=>Nat.lt_succ_of_lt (hk k v hd)) h
    let t:It:=⟨i,o,.off⟩
    have hsF:xj (t.nextF fr) (zek fr' o.dst qp):=fun s=>by
     rw [zld,za3,show t.wf=o.dst.map fun d=>(d,qp) from rfl]
     cases o.dst with
     | none=>simp [hs s]
     | some d=>simp [hs s]
    refine ⟨t::L,?_,hcover rfl h2,?_,?_,?_,⟨hw,h6.same (fun s=>(hsF s).symm) (fun _=>rfl)⟩,?_,by rw [List.length_cons]; omega⟩
    ·intro u hu
     rcases List.mem_cons.1 hu with rfl | hu
     ·exact ⟨⟨Nat.le_refl _,hlt⟩,ho⟩
     ·exact ⟨by have:=(h1 u hu).1; omega,(h1 u hu).2⟩
    ·exact List.pairwise_cons.2 ⟨fun u hu=>⟨by have:=(h1 u hu).1; show i<u.i; omega,znr⟩,h3⟩
    ·intro e he u hu
     rcases List.mem_cons.1 hu with rfl | hu
     ·exact zqo
     ·exact h4 e he u hu
    ·intro u hu
     rcases List.mem_cons.1 hu with rfl | hu
     ·exact .inr hd
     ·exact h5 u hu
    ·cases dead with
     | some q=>
      obtain ⟨k,u⟩:=q
      obtain ⟨g1,g2,g3,g4,g5⟩:=h7
      refine ⟨fun x hx=>?_,fun x hx hd=>?_,g3,g4,fun x hx=>?_⟩
      ·rcases List.mem_cons.1 hx with rfl | hx
       ·exact fun h=>h
       ·exact g1 x hx
      ·rcases List.mem_cons.1 hx with rfl | hx
       ·cases hd
       ·exact g2 x hx hd
      ·rcases List.mem_cons.1 hx with rfl | hx
       ·exact .inl rfl
       ·exact g5 x hx
     | none=>
      rcases h7 with ⟨g1,g2,frE,g3,g4⟩ | ⟨t₀,g1,v₀,δ₀,fp₀,g2,g3,g4,g5,g6,g7⟩
      ·refine .inl ⟨fun x hx=>?_,fun x hx=>?_,frE,(zh6 hsF).trans g3,g4⟩
       ·rcases List.mem_cons.1 hx with rfl | hx
        ·exact fun h=>h
        ·exact g1 x hx
       ·rcases List.mem_cons.1 hx with rfl | hx
        ·intro h; cases h
        ·exact g2 x hx
      ·refine .inr ⟨t₀,List.mem_cons_of_mem _ g1,v₀,δ₀,fp₀,g2,fun x hx hp=>?_,fun x hx hd=>?_,g5,g6,fun x hx=>?_⟩
       ·rcases List.mem_cons.1 hx with rfl | hx
        ·exact hp.elim
        ·exact g3 x hx hp
       ·rcases List.mem_cons.1 hx with rfl | hx
        ·cases hd
        ·exact g4 x hx hd
       ·rcases List.mem_cons.1 hx with rfl | hx
        ·exact .inl rfl
        ·exact g7 x hx
  ·-- it waits for the one that panicked
   rw [hdep,cond_true] at h
   obtain ⟨L,h1,h2,h3,h4,h5,h6,h7,h8⟩:=ih (i+1) _ dead _ _ hrest (fun k v hd=>Nat.lt_succ_of_lt (hk k v hd)) h
   let t:It:=⟨i,o,.dep⟩
   refine ⟨t::L,?_,hcover rfl h2,?_,?_,?_,⟨trivial,h6⟩,?_,by rw [List.length_cons]; omega⟩
   ·intro u hu
    rcases List.mem_cons.1 hu with rfl | hu
    ·exact ⟨⟨Nat.le_refl _,hlt⟩,ho⟩
    ·exact ⟨by have:=(h1 u hu).1; omega,(h1 u hu).2⟩
   ·exact List.pairwise_cons.2 ⟨fun u hu=>⟨by have:=(h1 u hu).1; show i<u.i; omega,znr⟩,h3⟩
   ·intro e he u hu
    rcases List.mem_cons.1 hu with rfl | hu
    ·exact zqo
    ·exact h4 e he u hu
   ·intro u hu
    rcases List.mem_cons.1 hu with rfl | hu
    ·exact .inl rfl
    ·exact h5 u hu
   ·cases dead with
    | some q=>
     obtain ⟨k,u⟩:=q
     obtain ⟨g1,g2,g3,g4,g5⟩:=h7
     refine ⟨fun x hx=>?_,fun x hx hd=>?_,g3,g4,fun x hx=>?_⟩
     ·rcases List.mem_cons.1 hx with rfl | hx
      ·exact fun h=>h
      ·exact g1 x hx
     ·rcases List.mem_cons.1 hx with rfl | hx
      ·exact hdep
      ·exact g2 x hx hd
     ·rcases List.mem_cons.1 hx with rfl | hx
      ·exact .inl rfl
      ·exact g5 x hx
    | none=>cases hdep
end
end Go.Vai
end

section
namespace Go.Vai
section
variable {R:Type} {cx:Cx} {m nt:Nat} {call:Nat→List V→St→Option (Out×St)} {ds:List Deferred} {w₀:World} {σ₀:St} {μ₀:Mu}
theorem zcm{ops:List Oper}{pre:List Nat}:∀ {l:List Oper} {j:Nat},zx0 ops pre j l=true→∀ (i:Nat) o,l[i]?=some o →
  zf0 pre (looks ops o) (j+i) 0 ops=true∧zbi (j+i) o=true
 | [],_,_,i,o,h=>by simp at h
 | x::l,j,h,i,o,ho=>by
  simp only [zx0,Bool.and_eq_true] at h
  cases i with
  | zero=>simp at ho; subst ho; exact h.1
  | succ i=>
   have:=zcm h.2 i o (by simpa using ho)
   rwa [show j+1+i=j+(i+1) by omega] at this
theorem zb5{pre ls:List Nat}{j:Nat}:∀ {l:List Oper} {k:Nat},zf0 pre ls j k l=true→∀ (i:Nat) o t,l[i]?=some o→o.dst=some t→t∈ls→(k+i<j∧xb pre j (k+i)=true)∨(j<k+i∧xb pre (k+i) j=true)
 | [],_,_,i,o,t,h,_,_=>by simp at h
 | x::l,k,h,i,o,t,ho,hd,ht=>by
  simp only [zf0,Bool.and_eq_true] at h
  cases i with
  | zero=>
   simp at ho; subst ho
   have:=h.1
   rw [hd] at this
   simp only [Bool.or_eq_true,Bool.not_eq_true',Bool.and_eq_true] at this
   rcases this with (h | ⟨h1,h2⟩) | ⟨h1,h2⟩
   ·simp [ht] at h
   ·exact .inl ⟨Nat.le_of_ble_eq_true h1,h2⟩
   ·exact .inr ⟨Nat.le_of_ble_eq_true h1,h2⟩
  | succ i=>
   have:=zb5 h.2 i o t (by simpa using ho) hd ht
   rwa [show k+1+i=k+(i+1) by omega] at this
theorem zof:∀ {l:List Oper} {i:Nat} {o:Oper} {t:Nat},l[i]?=some o→o.dst=some t→t∈zzv l
 | [],_,_,_,h,_=>by simp at h
 | x::l,i,o,t,h,hd=>by
  cases i with
  | zero=>simp at h; subst h; simp [zzv,hd]
  | succ i=>exact List.mem_append_right _ (zof (by simpa using h) hd)
theorem zi5:∀ {l:List Oper} {i j:Nat} {o o':Oper} {t:Nat},(zzv l).Nodup→l[i]?=some o→l[j]?=some o'→o.dst=some t→o'.dst=some t→i=j
 | [],_,_,_,_,_,_,h,_,_,_=>by simp at h
 | x::l,i,j,o,o',t,hn,h,h',hd,hd'=>by
  simp only [zzv,List.nodup_append] at hn
  cases i with
  | zero=>
   cases j with
   | zero=>rfl
   | succ j=>
    simp at h; subst h
    rw [hd] at hn
    exact (hn.2.2 t (by simp) t (zof (by simpa using h') hd') rfl).elim
  | succ i=>
   cases j with
   | zero=>
    simp at h'; subst h'
    rw [hd'] at hn
    exact (hn.2.2 t (by simp) t (zof (by simpa using h) hd) rfl).elim
   | succ j=>have:i=j:=zi5 hn.2.1 (by simpa using h) (by simpa using h') hd hd'; omega
theorem zh7{a b:List Nat}(h:z2v a b=true):∀ i∈a,i ∉ b:=fun i hi hb=>by
 have:=List.all_eq_true.1 h i hi
 simp [hb] at this
theorem zg3{t:It}{p:Nat×V}(h:t.wf=some p):t.o.dst=some p.1∧t.res ≠ .dep:=by
 cases hr:t.res <;> simp only [It.wf,hr] at h
 ·cases h
 ·obtain ⟨d,h1,rfl⟩:=Option.map_eq_some_iff.1 h
  exact ⟨h1,by intro e; cases e⟩
 ·obtain ⟨d,h1,rfl⟩:=Option.map_eq_some_iff.1 h
  exact ⟨h1,by intro e; cases e⟩
 ·cases h
theorem zjo{ops:List Oper}{t:It}{s:Nat}(h:s∈t.rf ops):s∈looks ops t.o:=by
 unfold It.rf at h
 split at h
 ·cases h
 ·exact h
theorem zzs(hcall:zad cx call)(hn:xc cx.P)(hmix:cx.P.follows .mixedOrders=true){arr:Array Oper}{id:Nat}{K:Ex→Fr→St→Option R}{r:R}{Q:Exit→Act→World→Prop}
  (hQ:∀ e fr σ,K e fr σ=some r→∀ x a w μ,zgy w σ μ e x→Now cx nt ds w₀ σ₀ μ₀ a w σ μ fr→Q x a w)
  (hdraw:∀ w σ μ,Inv cx w σ μ→After cx w σ μ { w with drawn:=w.drawn+1 } σ μ)
  {fr:Fr} {σ:St} (h:zb (zge arr.toList (qq arr.toList [])) (vl cx m nt call arr.toList (qq arr.toList []) 0 arr.toList [] none fr σ K)=some r)
  {a:Act} {w:World} {μ:Mu} (hnow:Now cx nt ds w₀ σ₀ μ₀ a w σ μ fr):(Code.region id arr true).wp cx.P Q a w:=by
 obtain ⟨hok,h⟩:=ze h
 simp only [zge,Bool.and_eq_true] at hok
 obtain ⟨hnd,hops⟩:=hok
 have hnd:=zet hnd
 obtain ⟨L,h1,h2,h3,h4,h5,h6,h7,h8⟩:=zkb (ops:=arr.toList) (K0:=arr.toList.length) arr.toList 0 [] none fr σ (by rw [List.take_length,List.drop_zero]) (by simp) h
 simp only [List.take_length] at h2 h8
 have hlen:L.length=arr.size:=by simpa using h8
 have hspec:∀ t∈L,zf0 (qq arr.toList []) (looks arr.toList t.o) t.i 0 arr.toList=true∧zbi t.i t.o=true:=fun t ht=>by
  have:=zcm hops t.i t.o (h1 t ht).2
  rwa [Nat.zero_add] at this
 have hpair:L.Pairwise (fun a b=>a.i<b.i∧(xb (qq arr.toList []) b.i a.i=true∨Comm arr.toList a b)):=by
  refine (List.Pairwise.and_mem.1 h3).imp fun {x y} ⟨hx,hy,hlt,hm⟩=>⟨hlt,?_⟩
  by_cases hp:xb (qq arr.toList []) y.i x.i=true
  ·exact .inl hp
  right
  have hsd:(∀ i∈x.ws.map (·.1),i ∉ y.rs∧i ∉ y.ws.map (·.1))∧(∀ i∈y.ws.map (·.1),i ∉ x.rs∧i ∉ x.ws.map (·.1)):=by
   simp only [ze1,zqq,Bool.or_eq_true,Bool.and_eq_true] at hm
   rcases hm with (⟨e1,e2⟩ | h) | ⟨d1,d2⟩
   ·rw [zd9 e1,zd9 e2]
    exact ⟨by simp,by simp⟩
   ·exact absurd h hp
   ·refine ⟨fun i hi=>?_,fun i hi=>?_⟩
    ·have:=zh7 d1 i hi
     simp only [List.mem_append,not_or] at this
     exact ⟨this.2,this.1⟩
    ·have:=zh7 d2 i hi
     simp only [List.mem_append,not_or] at this
     exact ⟨this.2,this.1⟩
  refine ⟨fun p hpw hs=>?_,fun p hpw hs=>?_,fun p q hpw hqw e=>?_,hsd.1,hsd.2⟩
  ·have:=zb5 (hspec y hy).1 x.i x.o p.1 (h1 x hx).2 (zg3 hpw).1 (zjo hs)
   rw [Nat.zero_add] at this
   rcases this with h | h
   ·exact hp h.2
   ·omega
  ·have:=zb5 (hspec x hx).1 y.i y.o p.1 (h1 y hy).2 (zg3 hpw).1 (zjo hs)
   rw [Nat.zero_add] at this
   rcases this with h | h
   ·omega
   ·exact hp h.2
  ·have:=zi5 hnd (h1 x hx).2 (h1 y hy).2 (zg3 hpw).1 (e ▸ (zg3 hqw).1)
   omega
 have hedge:∀ (j:Nat) o,arr.toList[j]?=some o→zbi j o=true:=fun j o ho=>by
  have:=(zcm hops j o ho).2
  rwa [Nat.zero_add] at this
 have haf:=hdraw w σ μ hnow.after.inv
 have hnow':Now cx nt ds w₀ σ₀ μ₀ a { w with drawn:=w.drawn+1 } σ μ fr:=⟨hnow.after.trans haf,haf.frs hnow.after.inv hnow.fr,hnow.size,hnow.defers⟩
 have hlis0:∀ i,¬ lis (Array.replicate arr.size false) i:=fun i hi=>by
  unfold lis at hi
  rw [Array.getD_eq_getD_getElem?] at hi
  by_cases hlt:i<arr.size
  ·simp [hlt] at hi
  ·simp [hlt] at hi
 have run:∀ frE σE,xj (zpv L fr) frE→we (zie L σ) σE→(∀ t∈L,t.res=.dep→∃ t'∈L,zag t'∧xb (qq arr.toList []) t.i t'.i=true) →
   (∀ t∈L,∀ v δ fp,t.res=.pan v δ fp→K (.pan v) [] σE=some r∧∀ t'∈L,t'.ws=[]∨t'.i=t.i∨xb (qq arr.toList []) t.i t'.i=true) →
   ((∃ t∈L,zag t)∨K .normal frE σE=some r)→(Code.region id arr true).wp cx.P Q a w:=fun frE σE hF hS hdep hpan hend=>
  wp_region_any hmix (any_ok hcall hn hQ hedge arr.size L _ fr σ a _ μ hlen (by simp) (fun t ht=>(h1 t ht).2)
   (fun i hi=>⟨fun h=>(hlis0 i h).elim,fun h=>by
    obtain ⟨t,ht,hti⟩:=h2 i (Nat.zero_le _) (by simpa using hi)
    exact (h t ht hti).elim⟩) hpair (fun j k hj=>(hlis0 j hj).elim) h5 hdep hpan hend h6 hF hS hnow')
 rcases h7 with ⟨g1,g2,frE,g3,g4⟩ | ⟨t₀,g1,v,δ,fp,g2,g3,g4,g5,g6,g7⟩
 ·exact run frE _ g3 (we.refl _) (fun t ht hd=>(g2 t ht hd).elim) (fun t ht v δ fp hp=>(g1 t ht (by simp [zag,hp])).elim) (.inr g4)
 ·refine run _ _ (xj.refl _) (we.refl _) (fun t ht hd=>⟨t₀,g1,by simp [zag,g2],g4 t ht hd⟩) (fun t ht v' δ' fp' hp=>?_) (.inl ⟨t₀,g1,by simp [zag,g2]⟩)
  have:=g3 t ht (by simp [zag,hp])
  subst this
  rw [g2] at hp; cases hp
  exact ⟨g5,g7⟩
end
end Go.Vai
end

section
namespace Go.Vai
section
variable {R:Type} {cx:Cx} {m nt:Nat} {call:Nat→List V→St→Option (Out×St)} {ds:List Deferred} {w₀:World} {σ₀:St} {μ₀:Mu}
theorem z3j(hcall:zad cx call)(hn:xc cx.P){arr:Array Oper}{K:Ex→Fr→St→Option R}{r:R}
  {Q:Exit→Act→World→Prop} {frE:Fr} {σE:St} {k₀ T:Nat} (hk₀:arr.size=k₀+T)
  (hwait:∀ listed:Array Bool,listed.size=arr.size→(∃ i,i<k₀∧¬ lis listed i)→(∀ j,k₀≤j→¬ lis listed j)→∀ j,k₀≤j→j ∉ Region.ready .any arr listed)
  (hfin:∀ fr σ,K .normal fr σ=some r→∀ listed:Array Bool,listed.size=arr.size→(∀ i,i<k₀→lis listed i)→(∀ j,k₀≤j→¬ lis listed j)→∀ a w μ,Now cx nt ds w₀ σ₀ μ₀ a w σ μ fr→wpAny cx.P .any arr Q T listed a w)
  (hQ:∀ v fr σ,K (.pan v) fr σ=some r→∀ x a w μ,zgy w σ μ (.pan v) x→Now cx nt ds w₀ σ₀ μ₀ a w σ μ fr→Q x a w)
  (hedge:∀ (j:Nat) o,arr.toList[j]?=some o→zbi j o=true) :
  ∀ (N:Nat) (L:List It) (listed:Array Bool) (fr:Fr) (σ:St) (a:Act) (w:World) (μ:Mu),L.length=N→listed.size=arr.size →
   (∀ t∈L,arr.toList[t.i]?=some t.o)→(∀ i,i<k₀→(lis listed i↔∀ t∈L,t.i ≠ i))→(∀ t∈L,t.i<k₀)→(∀ j,k₀≤j→¬ lis listed j) →
   L.Pairwise (fun a b=>a.i<b.i∧(xb (qq arr.toList []) b.i a.i=true∨Comm arr.toList a b)) →
   (∀ j k,lis listed j→xb (qq arr.toList []) j k=true→lis listed k) →
   (∀ t∈L,t.res=.dep∨zl8 nt t.o.dst=true) →
   (∀ t∈L,t.res=.dep→∃ t'∈L,zag t'∧xb (qq arr.toList []) t.i t'.i=true) →
   (∀ t∈L,∀ v δ fp,t.res=.pan v δ fp→K (.pan v) [] σE=some r∧∀ t'∈L,t'.ws=[]∨t'.i=t.i∨xb (qq arr.toList []) t.i t'.i=true) →
   ((∃ t∈L,zag t)∨K .normal frE σE=some r) →
   Rem cx m nt call arr.toList L fr σ→xj (zpv L fr) frE→we (zie L σ) σE →
   Now cx nt ds w₀ σ₀ μ₀ a w σ μ fr→wpAny cx.P .any arr Q (N+T) listed a w:=by
 intro N
 induction N with
 | zero=>
  intro L listed fr σ a w μ hN hsz hops hlis hbnd hun hpair hclosed hdst hdep hpan hend hrem hF hS hnow
  obtain rfl:=List.eq_nil_of_length_eq_zero hN
  have hK:K .normal frE σE=some r:=hend.resolve_left (by simp)
  have haf:=hS.after hnow.after.inv
  rw [Nat.zero_add]
  exact hfin _ _ hK listed hsz (fun i hi=>(hlis i hi).2 (by simp)) hun _ _ _ ⟨hnow.after.trans haf,(haf.frs hnow.after.inv hnow.fr).same hF,hnow.size,hnow.defers⟩
 | succ N ih=>
  intro L listed fr σ a w μ hN hsz hops hlis hbnd hun hpair hclosed hdst hdep hpan hend hrem hF hS hnow
  rw [show N+1+T=(N+T)+1 by omega]
  refine ⟨fun hready=>?_,fun i hi=>?_⟩
  ·-- something is always ready
   exfalso
   cases L with
   | nil=>simp at hN
   | cons t L=>
    have ht:=hops t List.mem_cons_self
    have hlt:t.i<arr.size:=by have:=(List.getElem?_eq_some_iff.1 ht).1; simpa using this
    have hlt0:t.i<k₀:=hbnd t List.mem_cons_self
    have hnl : ¬ lis listed t.i:=fun h=>((hlis t.i hlt0).1 h) t List.mem_cons_self rfl
    have:t.i∈Region.ready .any arr listed:=by
     simp only [Region.ready,List.mem_filter,List.mem_range]
     refine ⟨hlt,?_⟩
     have h1:arr[t.i]?=some t.o:=by simpa using ht
     have h2:listed.getD t.i true=false:=by
      have hi':t.i<listed.size:=by omega
      simp [lis,Array.getD_eq_getD_getElem?,hi'] at hnl ⊢
      exact hnl
     simp only [h1,h2,Bool.not_false,Bool.true_and,Option.map_some,Option.getD_some]
     rw [←Array.all_toList,List.all_eq_true]
     intro e he
     have he2:=List.all_eq_true.1 (hedge t.i t.o ht) e he
     cases hb:Region.binds .any e
     ·rfl
     ·rw [hb] at he2
      have hlt2:e.on<t.i:=by simpa using he2
      have:lis listed e.on:=(hlis e.on (by omega)).2 fun u hu hui=>by
       rcases List.mem_cons.1 hu with rfl | hu
       ·omega
       ·have:=(List.pairwise_cons.1 hpair).1 u hu
        omega
      simpa [lis] using this
    rw [hready] at this
    cases this
  ·-- one that is ready
   have hik:i<k₀:=Nat.lt_of_not_le fun hle=>by
    cases L with
    | nil=>simp at hN
    | cons t L=>
     have ht0:=hbnd t List.mem_cons_self
     exact hwait listed hsz ⟨t.i,ht0,fun h=>((hlis t.i ht0).1 h) t List.mem_cons_self rfl⟩ hun i hle hi
   simp only [Region.ready,List.mem_filter,List.mem_range,Bool.and_eq_true] at hi
   obtain ⟨hlt,hnl,haft⟩:=hi
   have hnl' : ¬ lis listed i:=by
    have hi':i<listed.size:=by omega
    simp [lis,Array.getD_eq_getD_getElem?,hi'] at hnl ⊢
    exact hnl
   obtain ⟨b,hb,hbi⟩:∃ b∈L,b.i=i:=Classical.byContradiction fun hne=>hnl' ((hlis i hik).2 fun t ht he=>hne ⟨t,ht,he⟩)
   subst hbi
   obtain ⟨A,B,rfl⟩:=List.append_of_mem hb
   have hbo:=hops b hb
   have hbo':arr[b.i]?=some b.o:=by simpa using hbo
   simp only [hbo',Option.map_some,Option.getD_some] at haft
   have hbefore:∀ k,xb (qq arr.toList []) b.i k=true→lis listed k:=by
    intro k hk
    obtain ⟨o,e,h1,h2,h3,h4⟩:=zkw arr.toList [] b.i k (Nat.zero_le _) hk
    rw [List.length_nil,Nat.sub_zero,hbo] at h1
    cases h1
    rw [←Array.all_toList,List.all_eq_true] at haft
    have he:=haft e h2
    rw [h3] at he
    have hl:lis listed e.on:=by simpa [lis] using he
    rcases h4 with rfl | h4
    ·exact hl
    ·exact hclosed _ _ hl h4
   have hunl:∀ t∈A++b::B,¬ lis listed t.i:=fun t ht h=>by
    exact (hlis t.i (hbnd t ht)).1 h t ht rfl
   have hpair':=hpair
   rw [List.pairwise_append] at hpair'
   obtain ⟨hpA,hpB,hpAB⟩:=hpair'
   rw [List.pairwise_cons] at hpB
   have hcomm:∀ x∈A,Comm arr.toList x b:=fun x hx=>
    ((hpAB x hx b List.mem_cons_self).2).resolve_left fun h=>hunl x (List.mem_append_left _ hx) (hbefore _ h)
   obtain ⟨hg,hrem',hF',hS'⟩:=hrem.pull hcomm
   have hsub:∀ t∈A++B,t∈A++b::B:=fun t ht=>by
    rcases List.mem_append.1 ht with h | h
    ·exact List.mem_append_left _ h
    ·exact List.mem_append_right _ (List.mem_cons_of_mem _ h)
   have hne:∀ t∈A++B,t.i ≠ b.i:=fun t ht=>by
    rcases List.mem_append.1 ht with h | h
    ·have:=(hpAB t h b List.mem_cons_self).1; omega
    ·have:=(hpB.1 t h).1; omega
   have hsz':b.i<listed.size:=by omega
   -- the rest,once this one is done
   have rest : ¬ zag b→∀ (a':Act) (w':World) (μ':Mu),Now cx nt ds w₀ σ₀ μ₀ a' w' (b.nextS σ) μ' (b.nextF fr)→wpAny cx.P .any arr Q (N+T) (listed.setIfInBounds b.i true) a' w':=by
    intro hnp a' w' μ' hnow'
    refine ih (A++B) _ _ _ a' w' μ' ?_ (by simpa using hsz) (fun t ht=>hops t (hsub t ht)) ?_ (fun t ht=>hbnd t (hsub t ht)) (fun j hj=>by rw [zf6 hsz']; rintro (rfl | h); exact absurd hik (by omega); exact hun j hj h) ?_ ?_ (fun t ht=>hdst t (hsub t ht)) ?_ ?_ ?_ hrem' (fun s=>(hF s).trans (hF' s).symm) (fun s=>(hS s).trans (hS' s).symm) hnow'
    ·simp at hN ⊢; omega
    ·intro j hj
     rw [zf6 hsz',hlis j hj]
     constructor
     ·rintro (rfl | h) t ht
      ·exact hne t ht
      ·exact h t (hsub t ht)
     ·intro h
      by_cases hjb:j=b.i
      ·exact .inl hjb
      ·refine .inr fun t ht=>?_
       rcases List.mem_append.1 ht with h' | h'
       ·exact h t (List.mem_append_left _ h')
       ·rcases List.mem_cons.1 h' with rfl | h'
        ·exact fun e=>hjb e.symm
        ·exact h t (List.mem_append_right _ h')
    ·rw [List.pairwise_append]
     exact ⟨hpA,hpB.2,fun x hx y hy=>hpAB x hx y (List.mem_cons_of_mem _ hy)⟩
    ·intro j k hj hk
     rw [zf6 hsz'] at hj ⊢
     rcases hj with rfl | hj
     ·exact .inr (hbefore k hk)
     ·exact .inr (hclosed j k hj hk)
    ·intro t ht htd
     obtain ⟨t',ht',hp,hpre⟩:=hdep t (hsub t ht) htd
     refine ⟨t',?_,hp,hpre⟩
     rcases List.mem_append.1 ht' with h' | h'
     ·exact List.mem_append_left _ h'
     ·rcases List.mem_cons.1 h' with rfl | h'
      ·exact (hnp hp).elim
      ·exact List.mem_append_right _ h'
    ·intro t ht v δ fp htp
     obtain ⟨h1,h2⟩:=hpan t (hsub t ht) v δ fp htp
     exact ⟨h1,fun t' ht'=>h2 t' (hsub t' ht')⟩
    ·refine hend.imp (fun ⟨t,ht,hp⟩=>⟨t,?_,hp⟩) id
     rcases List.mem_append.1 ht with h' | h'
     ·exact List.mem_append_left _ h'
     ·rcases List.mem_cons.1 h' with rfl | h'
      ·exact (hnp hp).elim
      ·exact List.mem_append_right _ h'
   unfold wpOp
   simp only [hbo']
   have hd:=hdst b hb
   cases hres:b.res with
   | dep=>
    obtain ⟨t',ht',_,hpre⟩:=hdep b hb hres
    exact (hunl t' ht' (hbefore _ hpre)).elim
   | off=>
    have hd:=hd.resolve_left (by rw [hres]; intro h; cases h)
    simp only [Good,hres] at hg
    rw [zc4 rfl hnow.fr hg]
    simp only [Bool.false_eq_true,if_false]
    have e1:b.nextF fr=zek fr b.o.dst qp:=by simp only [It.nextF,It.wf,hres,zek]; cases b.o.dst <;> rfl
    have e2:b.nextS σ=σ:=by simp only [It.nextS,It.ws,hres]; rfl
    refine rest (by simp [zag,hres]) _ _ μ ?_
    rw [e1,e2]
    exact ⟨hnow.after,FR.put hnow.fr hd hnow.size zmz,by rw [qf]; exact hnow.size,by rw [wv]; exact hnow.defers⟩
   | val v δ fp=>
    have hd:=hd.resolve_left (by rw [hres]; intro h; cases h)
    simp only [Good,hres] at hg
    obtain ⟨hw,hev⟩:=hg
    rw [zc4 rfl hnow.fr hw,if_pos rfl]
    left
    obtain ⟨oc,δ',fp',hK,hok⟩:=zj9 hcall hn hnow.after.inv hnow.fr hev
    cases hK
    refine hok _ _ ?_
    intro v' w' μ' haf hv
    have e1:b.nextF fr=zek fr b.o.dst v:=by simp only [It.nextF,It.wf,hres,zek]; cases b.o.dst <;> rfl
    have e2:b.nextS σ=zf σ δ:=by simp only [It.nextS,It.ws,hres]
    refine rest (by simp [zag,hres]) _ _ μ' ?_
    rw [e1,e2]
    exact ⟨hnow.after.trans haf,FR.put (haf.frs hnow.after.inv hnow.fr) hd hnow.size hv,by rw [qf]; exact hnow.size,by rw [wv]; exact hnow.defers⟩
   | pan v δ fp=>
    simp only [Good,hres] at hg
    obtain ⟨hw,hev⟩:=hg
    rw [zc4 rfl hnow.fr hw,if_pos rfl]
    left
    obtain ⟨oc,δ',fp',hK,hok⟩:=zj9 hcall hn hnow.after.inv hnow.fr hev
    cases hK
    refine hok _ _ ?_
    intro x w' μ' haf hv
    obtain ⟨hKp,hws⟩:=hpan b hb v δ fp hres
    have e2:b.nextS σ=zf σ δ:=by simp only [It.nextS,It.ws,hres]
    have hquiet:∀ (L:List It) (σ:St),(∀ t∈L,t.ws=[])→zie L σ=σ:=by
     intro L
     induction L with
     | nil=>intro σ _; rfl
     | cons t L ihL=>
      intro σ h
      simp only [zie]
      rw [ihL _ fun u hu=>h u (List.mem_cons_of_mem _ hu)]
      simp only [It.nextS,h t List.mem_cons_self,zf]
    have hall:∀ t∈A++B,t.ws=[]:=fun t ht=>by
     rcases hws t (hsub t ht) with h | h | h
     ·exact h
     ·exact (hne t ht h).elim
     ·exact (hunl t (hsub t ht) (hbefore _ h)).elim
    have hsame:we (zf σ δ) σE:=by
     intro s
     rw [hS s,←hS' s,hquiet _ _ hall,e2]
    have haf2:=hsame.after haf.inv
    exact hQ _ _ _ hKp _ _ _ μ' ⟨x,rfl,haf2.rv haf.inv hv⟩ ⟨(hnow.after.trans haf).trans haf2,FR.nil,hnow.size,hnow.defers⟩
theorem zzw(hcall:zad cx call)(hn:xc cx.P)(hmix:cx.P.follows .mixedOrders=true){arr:Array Oper}{id:Nat}{K:Ex→Fr→St→Option R}{r:R}{Q:Exit→Act→World→Prop}
  (hQ:∀ v fr σ,K (.pan v) fr σ=some r→∀ x a w μ,zgy w σ μ (.pan v) x→Now cx nt ds w₀ σ₀ μ₀ a w σ μ fr→Q x a w) {k₀ T:Nat} (hk₀:arr.size=k₀+T)
  (hwait:∀ listed:Array Bool,listed.size=arr.size→(∃ i,i<k₀∧¬ lis listed i)→(∀ j,k₀≤j→¬ lis listed j)→∀ j,k₀≤j→j ∉ Region.ready .any arr listed)
  (hfin:∀ fr σ,K .normal fr σ=some r→∀ listed:Array Bool,listed.size=arr.size→(∀ i,i<k₀→lis listed i)→(∀ j,k₀≤j→¬ lis listed j)→∀ a w μ,Now cx nt ds w₀ σ₀ μ₀ a w σ μ fr→wpAny cx.P .any arr Q T listed a w)
  (hdraw:∀ w σ μ,Inv cx w σ μ→After cx w σ μ { w with drawn:=w.drawn+1 } σ μ)
  {fr:Fr} {σ:St} (h:zb (zge arr.toList (qq arr.toList [])) (vl cx m nt call arr.toList (qq arr.toList []) 0 (arr.toList.take k₀) [] none fr σ K)=some r)
  {a:Act} {w:World} {μ:Mu} (hnow:Now cx nt ds w₀ σ₀ μ₀ a w σ μ fr):(Code.region id arr true).wp cx.P Q a w:=by
 obtain ⟨hok,h⟩:=ze h
 simp only [zge,Bool.and_eq_true] at hok
 obtain ⟨hnd,hops⟩:=hok
 have hnd:=zet hnd
 obtain ⟨L,h1,h2,h3,h4,h5,h6,h7,h8⟩:=zkb (ops:=arr.toList) (K0:=k₀) (arr.toList.take k₀) 0 [] none fr σ (by rw [List.drop_zero]) (by simp) h
 have htk:(arr.toList.take k₀).length=k₀:=by rw [List.length_take,Array.length_toList]; omega
 rw [htk] at h2 h8
 have hlen:L.length=k₀:=by omega
 have hspec:∀ t∈L,zf0 (qq arr.toList []) (looks arr.toList t.o) t.i 0 arr.toList=true∧zbi t.i t.o=true:=fun t ht=>by
  have:=zcm hops t.i t.o (h1 t ht).2
  rwa [Nat.zero_add] at this
 have hpair:L.Pairwise (fun a b=>a.i<b.i∧(xb (qq arr.toList []) b.i a.i=true∨Comm arr.toList a b)):=by
  refine (List.Pairwise.and_mem.1 h3).imp fun {x y} ⟨hx,hy,hlt,hm⟩=>⟨hlt,?_⟩
  by_cases hp:xb (qq arr.toList []) y.i x.i=true
  ·exact .inl hp
  right
  have hsd:(∀ i∈x.ws.map (·.1),i ∉ y.rs∧i ∉ y.ws.map (·.1))∧(∀ i∈y.ws.map (·.1),i ∉ x.rs∧i ∉ x.ws.map (·.1)):=by
   simp only [ze1,zqq,Bool.or_eq_true,Bool.and_eq_true] at hm
   rcases hm with (⟨e1,e2⟩ | h) | ⟨d1,d2⟩
   ·rw [zd9 e1,zd9 e2]
    exact ⟨by simp,by simp⟩
   ·exact absurd h hp
   ·refine ⟨fun i hi=>?_,fun i hi=>?_⟩
    ·have:=zh7 d1 i hi
     simp only [List.mem_append,not_or] at this
     exact ⟨this.2,this.1⟩
    ·have:=zh7 d2 i hi
     simp only [List.mem_append,not_or] at this
     exact ⟨this.2,this.1⟩
  refine ⟨fun p hpw hs=>?_,fun p hpw hs=>?_,fun p q hpw hqw e=>?_,hsd.1,hsd.2⟩
  ·have:=zb5 (hspec y hy).1 x.i x.o p.1 (h1 x hx).2 (zg3 hpw).1 (zjo hs)
   rw [Nat.zero_add] at this
   rcases this with h | h
   ·exact hp h.2
   ·omega
  ·have:=zb5 (hspec x hx).1 y.i y.o p.1 (h1 y hy).2 (zg3 hpw).1 (zjo hs)
   rw [Nat.zero_add] at this
   rcases this with h | h
   ·omega
   ·exact hp h.2
  ·have:=zi5 hnd (h1 x hx).2 (h1 y hy).2 (zg3 hpw).1 (e ▸ (zg3 hqw).1)
   omega
 have hedge:∀ (j:Nat) o,arr.toList[j]?=some o→zbi j o=true:=fun j o ho=>by
  have:=(zcm hops j o ho).2
  rwa [Nat.zero_add] at this
 have haf:=hdraw w σ μ hnow.after.inv
 have hnow':Now cx nt ds w₀ σ₀ μ₀ a { w with drawn:=w.drawn+1 } σ μ fr:=⟨hnow.after.trans haf,haf.frs hnow.after.inv hnow.fr,hnow.size,hnow.defers⟩
 have hlis0:∀ i,¬ lis (Array.replicate arr.size false) i:=fun i hi=>by
  unfold lis at hi
  rw [Array.getD_eq_getD_getElem?] at hi
  by_cases hlt:i<arr.size
  ·simp [hlt] at hi
  ·simp [hlt] at hi
 have run:∀ frE σE,xj (zpv L fr) frE→we (zie L σ) σE→(∀ t∈L,t.res=.dep→∃ t'∈L,zag t'∧xb (qq arr.toList []) t.i t'.i=true) →
   (∀ t∈L,∀ v δ fp,t.res=.pan v δ fp→K (.pan v) [] σE=some r∧∀ t'∈L,t'.ws=[]∨t'.i=t.i∨xb (qq arr.toList []) t.i t'.i=true) →
   ((∃ t∈L,zag t)∨K .normal frE σE=some r)→(Code.region id arr true).wp cx.P Q a w:=fun frE σE hF hS hdep hpan hend=>
  wp_region_any hmix (by
   have key:=z3j hcall hn hk₀ hwait hfin hQ hedge k₀ L (Array.replicate arr.size false) fr σ a { w with drawn:=w.drawn+1 } μ hlen (by simp) (fun t ht=>(h1 t ht).2)
    (fun i hi=>⟨fun h=>(hlis0 i h).elim,fun h=>by
     obtain ⟨t,ht,hti⟩:=h2 i (Nat.zero_le _) hi
     exact (h t ht hti).elim⟩) (fun t ht=>by have:=(h1 t ht).1.2; rw [htk] at this; exact this) (fun j _=>hlis0 j) hpair (fun j k hj=>(hlis0 j hj).elim) h5 hdep hpan hend h6 hF hS hnow'
   rw [←hk₀] at key
   exact key)
 rcases h7 with ⟨g1,g2,frE,g3,g4⟩ | ⟨t₀,g1,v,δ,fp,g2,g3,g4,g5,g6,g7⟩
 ·exact run frE _ g3 (we.refl _) (fun t ht hd=>(g2 t ht hd).elim) (fun t ht v δ fp hp=>(g1 t ht (by simp [zag,hp])).elim) (.inr g4)
 ·refine run _ _ (xj.refl _) (we.refl _) (fun t ht hd=>⟨t₀,g1,by simp [zag,g2],g4 t ht hd⟩) (fun t ht v' δ' fp' hp=>?_) (.inl ⟨t₀,g1,by simp [zag,g2]⟩)
  have:=g3 t ht (by simp [zag,hp])
  subst this
  rw [g2] at hp; cases hp
  exact ⟨g5,g7⟩
end
end Go.Vai
end

section
namespace Go.Vai
section
variable {R:Type} {cx:Cx} {m nt:Nat} {call:Nat→List V→St→Option (Out×St)} {ds:List Deferred} {w₀:World} {σ₀:St} {μ₀:Mu}
theorem zkv{arr:Array Oper}{listed:Array Bool}(hsz:listed.size=arr.size){i:Nat}(h:i∈Region.ready .any arr listed) :
  i<arr.size∧¬ lis listed i∧∀ o,arr[i]?=some o→∀ e∈o.after.toList,Region.binds .any e=true→lis listed e.on:=by
 simp only [Region.ready,List.mem_filter,List.mem_range,Bool.and_eq_true] at h
 obtain ⟨hlt,hnl,haft⟩:=h
 refine ⟨hlt,?_,fun o ho e he hb=>?_⟩
 ·have hi':i<listed.size:=by omega
  simp [lis,Array.getD_eq_getD_getElem?,hi'] at hnl ⊢
  exact hnl
 ·simp only [ho,Option.map_some,Option.getD_some] at haft
  rw [←Array.all_toList,List.all_eq_true] at haft
  have:=haft e he
  rw [hb] at this
  simpa [lis] using this
theorem zar{arr:Array Oper}{listed:Array Bool}(hsz:listed.size=arr.size)(hedge:∀ (j:Nat) o,arr.toList[j]?=some o→zbi j o=true){j:Nat}(hj:j<arr.size)(hn : ¬ lis listed j)(hall:∀ i,i<j→lis listed i) :
  j∈Region.ready .any arr listed:=by
 obtain ⟨o,ho⟩:∃ o,arr[j]?=some o:=⟨_,Array.getElem?_eq_getElem hj⟩
 simp only [Region.ready,List.mem_filter,List.mem_range]
 refine ⟨hj,?_⟩
 have h2:listed.getD j true=false:=by
  have hi':j<listed.size:=by omega
  simp [lis,Array.getD_eq_getD_getElem?,hi'] at hn ⊢
  exact hn
 simp only [ho,h2,Bool.not_false,Bool.true_and,Option.map_some,Option.getD_some]
 rw [←Array.all_toList,List.all_eq_true]
 intro e he
 have he2:=List.all_eq_true.1 (hedge j o (by simpa using ho)) e he
 cases hb:Region.binds .any e
 ·rfl
 ·rw [hb] at he2
  have hlt2:e.on<j:=by simpa using he2
  simpa [lis] using hall _ hlt2
theorem zee{P:Program}{arr:Array Oper}{Q:Exit→Act→World→Prop}{n:Nat}{listed:Array Bool}{a:Act}{w:World}(hne:∃ i,i∈Region.ready .any arr listed)
  (h:∀ i∈Region.ready .any arr listed,wpOp P arr Q i (wpAny P .any arr Q n (listed.setIfInBounds i true)) a w):wpAny P .any arr Q (n+1) listed a w:=
 ⟨fun e=>(by obtain ⟨i,hi⟩:=hne; rw [e] at hi; cases hi),h⟩
theorem zpd{P:Program}{arr:Array Oper}{Q:Exit→Act→World→Prop}{listed:Array Bool}(hsz:listed.size=arr.size){a:Act}{w:World}(hall:∀ i,i<arr.size→lis listed i)(h:Q .normal a w):wpAny P .any arr Q 0 listed a w:=by
 refine ⟨?_,h⟩
 rw [List.eq_nil_iff_forall_not_mem]
 intro i hi
 obtain ⟨h1,h2,_⟩:=zkv hsz hi
 exact h2 (hall i h1)
theorem zin{P:Program}{arr:Array Oper}{Q:Exit→Act→World→Prop}{i:Nat}{o:Oper}{K:Act→World→Prop}{a:Act}{w w':World}{v:Value}(ho:arr[i]?=some o)(hg:o.guard=none)
  (hr:(execOp a.eval o).run P w=.ok (.value v) w') (h:K (a.put o.dst v) w'):wpOp P arr Q i K a w:=by
 unfold wpOp
 simp only [ho]
 rw [if_pos (by simp [Region.wanted,hg])]
 left
 unfold Oper.wp
 rw [hr,Oper.upon_value]
 exact h
theorem zdt{P:Program}{arr:Array Oper}{Q:Exit→Act→World→Prop}{i:Nat}{o:Oper}{K:Act→World→Prop}{a:Act}{w w':World}(ho:arr[i]?=some o)(hg:o.guard=none)
  (hr:(execOp a.eval o).run P w=.ok .skip w') (h:K (a.put o.dst undef) w'):wpOp P arr Q i K a w:=by
 unfold wpOp
 simp only [ho]
 rw [if_pos (by simp [Region.wanted,hg])]
 left
 unfold Oper.wp
 rw [hr,Oper.upon_skip]
 exact h
theorem zti{P:Program}{arr:Array Oper}{Q:Exit→Act→World→Prop}{k:Nat}{o i s t:Oper}(hsize:arr.size=k+4)(hdrop:arr.toList.drop k=[o,i,s,t])
  (hedge:∀ (j:Nat) o,arr.toList[j]?=some o→zbi j o=true)
  (hi:∃ e∈i.after.toList,Region.binds .any e=true∧e.on=k) (hs:∃ e∈s.after.toList,Region.binds .any e=true∧e.on=k+1) (ht:∃ e∈t.after.toList,Region.binds .any e=true∧e.on=k)
  (hg:o.guard=none∧i.guard=none∧s.guard=none∧t.guard=none) (hsd:s.dst=none) (htd:t.dst=none)
  {listed:Array Bool} (hsz:listed.size=arr.size) (hl1:∀ j,j<k→lis listed j) (hl2:∀ j,k≤j→¬ lis listed j) {a:Act} {w w1 w' w2 w'':World} {v1 v2:Value}
  (h1:(execOp a.eval o).run P w=.ok (.value v1) w1) (hidx:∀ w2,(execOp (a.put o.dst v1).eval i).run P w2=.ok (.value v2) w2)
  (h3:(execOp ((a.put o.dst v1).put i.dst v2).eval s).run P w1=.ok .skip w') (h4:(execOp ((a.put o.dst v1).put i.dst v2).eval t).run P w'=.ok .skip w'')
  (h5:∀ c:Act,c=a.put o.dst v1∨c=(a.put o.dst v1).put i.dst v2→(execOp c.eval t).run P w1=.ok .skip w2) (h6:(execOp ((a.put o.dst v1).put i.dst v2).eval s).run P w2=.ok .skip w'')
  (hQ:Q .normal ((a.put o.dst v1).put i.dst v2) w''):wpAny P .any arr Q 4 listed a w:=by
 have g0:arr[k]?=some o:=by have:=congrArg (·[0]?) hdrop; simpa using this
 have g1:arr[k+1]?=some i:=by have:=congrArg (·[1]?) hdrop; simpa using this
 have g2:arr[k+2]?=some s:=by have:=congrArg (·[2]?) hdrop; simpa using this
 have g3:arr[k+3]?=some t:=by have:=congrArg (·[3]?) hdrop; simpa using this
 have put0:∀ (c:Act) (x:Oper),x.dst=none→c.put x.dst undef=c:=fun c x hx=>by rw [hx]; rfl
 -- who is ready
 have rd:∀ {listed:Array Bool},listed.size=arr.size→∀ {j},j∈Region.ready .any arr listed→j<k+4∧¬ lis listed j∧(j=k+1→lis listed k)∧(j=k+2→lis listed (k+1))∧(j=k+3→lis listed k):=by
  intro listed hsz j hj
  obtain ⟨q1,q2,q3⟩:=zkv hsz hj
  refine ⟨by omega,q2,?_,?_,?_⟩
  ·rintro rfl
   obtain ⟨e,he,hb,hon⟩:=hi
   exact hon ▸ q3 i g1 e he hb
  ·rintro rfl
   obtain ⟨e,he,hb,hon⟩:=hs
   exact hon ▸ q3 s g2 e he hb
  ·rintro rfl
   obtain ⟨e,he,hb,hon⟩:=ht
   exact hon ▸ q3 t g3 e he hb
 have hk:k<listed.size:=by omega
 refine zee ⟨k,zar hsz hedge (by omega) (hl2 k (Nat.le_refl _)) hl1⟩ fun j hj=>?_
 obtain ⟨q1,q2,q3,q4,q5⟩:=rd hsz hj
 obtain rfl:j=k:=by
  have:k≤j:=Nat.le_of_not_lt fun h=>q2 (hl1 j h)
  have a1:j ≠ k+1:=fun e=>hl2 k (Nat.le_refl _) (q3 e)
  have a2:j ≠ k+2:=fun e=>hl2 (k+1) (by omega) (q4 e)
  have a3:j ≠ k+3:=fun e=>hl2 k (Nat.le_refl _) (q5 e)
  omega
 refine zin g0 hg.1 h1 ?_
 clear q1 q2 q3 q4 q5 hj
 -- behind the append
 have m1:∀ x,lis (listed.setIfInBounds j true) x↔x=j∨lis listed x:=fun x=>zf6 hk
 have z1:(listed.setIfInBounds j true).size=arr.size:=by simpa using hsz
 have n1:∀ x,j<x→¬ lis (listed.setIfInBounds j true) x:=fun x hx h=>by
  rcases (m1 x).1 h with h | h
  ·omega
  ·exact hl2 x (by omega) h
 have y1:∀ x,x≤j→lis (listed.setIfInBounds j true) x:=fun x hx=>(m1 x).2 (by
  rcases Nat.lt_or_eq_of_le hx with h | h
  ·exact .inr (hl1 x h)
  ·exact .inl h)
 generalize listed.setIfInBounds j true=l1 at m1 z1 n1 y1 ⊢
 refine zee ⟨j+1,zar z1 hedge (by omega) (n1 _ (by omega)) fun x hx=>y1 x (by omega)⟩ fun x hx=>?_
 obtain ⟨q1,q2,q3,q4,q5⟩:=rd z1 hx
 have hx13:x=j+1∨x=j+3:=by
  have:j<x:=Nat.lt_of_not_le fun h=>q2 (y1 x h)
  have a2:x ≠ j+2:=fun e=>n1 (j+1) (by omega) (q4 e)
  omega
 clear q1 q2 q3 q4 q5 hx
 have hsl:∀ {l:Array Bool} {x:Nat},l.size=arr.size→x<arr.size→(l.setIfInBounds x true).size=arr.size∧∀ y,lis (l.setIfInBounds x true) y↔y=x∨lis l y:=fun hz hx=>⟨by simpa using hz,fun y=>zf6 (by omega)⟩
 rcases hx13 with rfl | rfl
 ·-- the place is looked for next
  refine zin g1 hg.2.1 (hidx w1) ?_
  obtain ⟨z2,m2⟩:=hsl (x:=j+1) z1 (by omega)
  generalize l1.setIfInBounds (j+1) true=l2 at z2 m2 ⊢
  have y2:∀ x,x≤j+1→lis l2 x:=fun x hx=>(m2 x).2 (by rcases Nat.lt_or_eq_of_le hx with h | h; exact .inr (y1 x (by omega)); exact .inl h)
  have n2:∀ x,j+1<x→¬ lis l2 x:=fun x hx h=>by rcases (m2 x).1 h with h | h; omega; exact n1 x (by omega) h
  refine zee ⟨j+2,zar z2 hedge (by omega) (n2 _ (by omega)) fun x hx=>y2 x (by omega)⟩ fun x hx=>?_
  obtain ⟨q1,q2,_⟩:=rd z2 hx
  have hx23:x=j+2∨x=j+3:=by
   have:j+1<x:=Nat.lt_of_not_le fun h=>q2 (y2 x h)
   omega
  obtain ⟨z3,m3⟩:=hsl (x:=x) z2 (by omega)
  generalize l2.setIfInBounds x true=l3 at z3 m3 ⊢
  clear q1 q2 hx
  rcases hx23 with rfl | rfl
  ·refine zdt g2 hg.2.2.1 h3 ?_
   rw [put0 _ s hsd]
   have y3:∀ x,x≤j+2→lis l3 x:=fun x hx=>(m3 x).2 (by rcases Nat.lt_or_eq_of_le hx with h | h; exact .inr (y2 x (by omega)); exact .inl h)
   refine zee ⟨j+3,zar z3 hedge (by omega) (fun h=>by rcases (m3 _).1 h with h | h; omega; exact n2 _ (by omega) h) fun x hx=>y3 x (by omega)⟩ fun x hx=>?_
   obtain ⟨q1,q2,_⟩:=rd z3 hx
   obtain rfl:x=j+3:=by
    have:j+2<x:=Nat.lt_of_not_le fun h=>q2 (y3 x h)
    omega
   refine zdt g3 hg.2.2.2 h4 ?_
   rw [put0 _ t htd]
   obtain ⟨z4,m4⟩:=hsl (x:=j+3) z3 (by omega)
   exact zpd z4 (fun x hx=>(m4 x).2 (by by_cases h:x=j+3; exact .inl h; exact .inr (y3 x (by omega)))) hQ
  ·refine zdt g3 hg.2.2.2 (h5 _ (.inr rfl)) ?_
   rw [put0 _ t htd]
   refine zee ⟨j+2,zar z3 hedge (by omega) (fun h=>by rcases (m3 _).1 h with h | h; omega; exact n2 _ (by omega) h) fun x hx=>(m3 x).2 (.inr (y2 x (by omega)))⟩ fun x hx=>?_
   obtain ⟨q1,q2,_⟩:=rd z3 hx
   obtain rfl:x=j+2:=by
    have b1:j+1<x:=Nat.lt_of_not_le fun h=>q2 ((m3 x).2 (.inr (y2 x h)))
    have b2:x ≠ j+3:=fun h=>q2 ((m3 x).2 (.inl h))
    omega
   refine zdt g2 hg.2.2.1 h6 ?_
   rw [put0 _ s hsd]
   obtain ⟨z4,m4⟩:=hsl (x:=j+2) z3 (by omega)
   exact zpd z4 (fun x hx=>(m4 x).2 (by by_cases h:x=j+2; exact .inl h; exact .inr ((m3 x).2 (by by_cases h':x=j+3; exact .inl h'; exact .inr (y2 x (by omega)))))) hQ
 ·-- the slice is stored next
  refine zdt g3 hg.2.2.2 (h5 _ (.inl rfl)) ?_
  rw [put0 _ t htd]
  obtain ⟨z2,m2⟩:=hsl (x:=j+3) z1 (by omega)
  generalize l1.setIfInBounds (j+3) true=l2 at z2 m2 ⊢
  refine zee ⟨j+1,zar z2 hedge (by omega) (fun h=>by rcases (m2 _).1 h with h | h; omega; exact n1 _ (by omega) h) fun x hx=>(m2 x).2 (.inr (y1 x (by omega)))⟩ fun x hx=>?_
  obtain ⟨q1,q2,_,q4,_⟩:=rd z2 hx
  obtain rfl:x=j+1:=by
   have b1:j<x:=Nat.lt_of_not_le fun h=>q2 ((m2 x).2 (.inr (y1 x h)))
   have b2:x ≠ j+3:=fun h=>q2 ((m2 x).2 (.inl h))
   have b3:x ≠ j+2:=fun e=>by rcases (m2 _).1 (q4 e) with h | h; omega; exact n1 (j+1) (by omega) h
   omega
  refine zin g1 hg.2.1 (hidx w2) ?_
  obtain ⟨z3,m3⟩:=hsl (x:=j+1) z2 (by omega)
  generalize l2.setIfInBounds (j+1) true=l3 at z3 m3 ⊢
  refine zee ⟨j+2,zar z3 hedge (by omega) (fun h=>by rcases (m3 _).1 h with h | h; omega; rcases (m2 _).1 h with h | h; omega; exact n1 _ (by omega) h) fun x hx=>(m3 x).2 (by by_cases h:x=j+1; exact .inl h; exact .inr ((m2 x).2 (.inr (y1 x (by omega)))))⟩ fun x hx=>?_
  obtain ⟨q1,q2,_⟩:=rd z3 hx
  obtain rfl:x=j+2:=by
   have b1 : ¬ x≤j:=fun h=>q2 ((m3 x).2 (.inr ((m2 x).2 (.inr (y1 x h)))))
   have b2:x ≠ j+3:=fun h=>q2 ((m3 x).2 (.inr ((m2 x).2 (.inl h))))
   have b3:x ≠ j+1:=fun h=>q2 ((m3 x).2 (.inl h))
   omega
  refine zdt g2 hg.2.2.1 h6 ?_
  rw [put0 _ s hsd]
  obtain ⟨z4,m4⟩:=hsl (x:=j+2) z3 (by omega)
  exact zpd z4 (fun x hx=>(m4 x).2 (by
   by_cases e2:x=j+2
   ·exact .inl e2
   ·refine .inr ((m3 x).2 ?_)
    by_cases e1:x=j+1
    ·exact .inl e1
    ·refine .inr ((m2 x).2 ?_)
     by_cases e3:x=j+3
     ·exact .inl e3
     ·exact .inr (y1 x (by omega)))) hQ
theorem zts(w:World){b c:Nat}(h:b ≠ c)(x y:Array Value):(w.setRow b x).setRow c y=(w.setRow c y).setRow b x:=by
 unfold World.setRow
 congr 1
 apply Array.ext_getElem?
 intro k
 simp only [Array.getElem?_modify]
 by_cases hb:b=k
 ·subst hb
  have : ¬ c=b:=fun e=>h e.symm
  simp [this]
 ·simp [hb]
theorem z4c{arr:Array Oper}{Q:Exit→Act→World→Prop}{k:Nat}{fr:Fr}{σ:St}{K:Fr→St→Option R}{r:R}(htail:zg5 arr.toList k=true)
  (hedge:∀ (j:Nat) o,arr.toList[j]?=some o→zbi j o=true) (h:ze6 cx nt arr.toList k fr σ K=some r)
  {listed:Array Bool} (hsz:listed.size=arr.size) (hl1:∀ j,j<k→lis listed j) (hl2:∀ j,k≤j→¬ lis listed j) {a:Act} {w:World} {μ:Mu} (hnow:Now cx nt ds w₀ σ₀ μ₀ a w σ μ fr)
  (hQ:∀ fr' σ',K fr' σ'=some r→∀ a w μ,Now cx nt ds w₀ σ₀ μ₀ a w σ' μ fr'→Q .normal a w):wpAny cx.P .any arr Q 4 listed a w:=by
 unfold ze6 at h
 unfold zg5 at htail
 split at h
 case h_2=>cases h
 rename_i o i s t hdrop
 rw [hdrop] at htail
 simp only [Bool.and_eq_true,Option.isNone_iff_eq_none] at htail
 obtain ⟨⟨⟨⟨⟨_,hti⟩,hts⟩,htt⟩,htg⟩,htd⟩:=htail
 have one:∀ {k:Nat} {x:Oper},znl k x=true→∃ e∈x.after.toList,Region.binds .any e=true∧e.on=k:=by
  intro k x hx
  unfold znl at hx
  rw [List.any_eq_true] at hx
  obtain ⟨e,he,h2⟩:=hx
  rw [Bool.and_eq_true] at h2
  exact ⟨e,he,h2.1,Nat.eq_of_beq_eq_true h2.2⟩
 have hsize:arr.size=k+4:=by have:=congrArg List.length hdrop; simp at this; omega
 obtain ⟨q,hq,h⟩:=zd h
 obtain ⟨fr',σ',hK,v1,v2,w1,w',μ',g1,g2,g3,haf,hf,hidx,b,ncs,idt,nn,hidt,hblk,hw',hput⟩:=ztw hnow.after.inv hnow.fr hnow.size hq h
 clear h
 obtain ⟨ty1,p1,f1,ty2,p2,f2,ty3,p3,f3,rfl,rfl,rfl,_,_,_,hap⟩:=zg9 hq
 obtain ⟨td,top,tty,tp,taf,tgd⟩:=t
 simp only at htg htd hK
 subst htg htd
 split at hK
 case h_2=>cases hK
 rename_i ty pt bb
 obtain ⟨hc,hK1⟩:=ze hK
 clear hK
 simp only [Bool.and_eq_true,Bool.not_eq_true'] at hc
 obtain ⟨⟨⟨⟨hb,hpa⟩,hpp⟩,hty⟩,hc1⟩:=hc
 have hb:=Nat.eq_of_beq_eq_true hb
 subst hb
 have hc1:=Nat.eq_of_beq_eq_true hc1
 have hpa:pt ≠ q.a:=fun e=>by rw [e] at hpa; simp at hpa
 have hpp:pt ≠ q.p:=fun e=>by rw [e] at hpp; simp at hpp
 obtain ⟨pv,hpv,hK2⟩:=zd hK1
 clear hK1
 obtain ⟨v,hv,hK3⟩:=zd hK2
 clear hK2
 split at hK3
 case h_2=>cases hK3
 rename_i ido off sz l id
 split at hK3
 case h_2=>cases hK3
 rename_i n u hido
 obtain ⟨hc,hK⟩:=ze hK3
 clear hK3
 rw [Bool.and_eq_true] at hc
 have hoff:=Nat.eq_of_beq_eq_true hc.1
 have hn1:=Nat.eq_of_beq_eq_true hc.2
 subst hoff hn1
 have hinv:=haf.inv
 have rp:=hf pt _ hpv
 have rv:=hf q.a _ hv
 -- the acts
 have e0:(((a.put (some q.a) v1).put (some q.p) v2).put none undef)=(a.put (some q.a) v1).put (some q.p) v2:=rfl
 rw [e0] at rp rv hf
 generalize ha2:(a.put (some q.a) v1).put (some q.p) v2=a2 at *
 have hn2:nt≤a2.tmps.size:=by rw [←ha2,qf,qf]; exact hnow.size
 have hd2:a2.defers=ds:=by rw [←ha2,wv,wv]; exact hnow.defers
 have hva:a2.eval (.tmp q.a)=a2.tmps.getD q.a undef:=rfl
 have hpt:a2.eval (.tmp pt)=a2.tmps.getD pt undef:=rfl
 have ev1:∀ y:Operand,zdg y q.p=true→(a.put (some q.a) v1).eval y=a2.eval y:=fun y hy=>by rw [←ha2]; exact (zf3 hy _ _).symm
 have nb:∀ {x y:Nat},x ≠ y→Nat.beq x y=false:=fun {x y} h=>by
  cases e:Nat.beq x y
  ·rfl
  ·exact absurd (Nat.eq_of_beq_eq_true e) h
 have k1:zdg (.tmp pt) q.p=true:=by simp [zdg,nb hpp]
 have k2:zdg (.tmp q.a) q.p=true:=by simp [zdg,nb hap]
 generalize a2.tmps.getD pt undef=pval at rp hpt
 generalize a2.tmps.getD q.a undef=vval at rv hva
 have rp0:=rp
 cases rp with | ptr _ _ bo hcell hbo=>?_
 obtain ⟨bo',cs,el,hbo',hheap,hcs,_,_,_⟩:=hinv.ob ido _ hido
 obtain rfl:bo=bo':=by rw [hbo] at hbo'; exact Option.some.inj hbo'
 have hne:bo ≠ b:=by
  rintro rfl
  have:=hinv.blockApart (i:=0) (i':=(μ' idt).f) hido hidt hbo ⟨hblk,Nat.le_refl _⟩
  rw [this,hidt] at hido
  cases hido
 obtain ⟨base,cap,hvv⟩:=rv.slD.slice_inv
 subst hvv
 obtain ⟨dd,hdd⟩:=zav hty
 have store:∀ wX:World,wX.heap[bo]?=some (.cells cs el (0,0))→(Instr.storeAt ty (.pointer (some ⟨bo,0,none⟩)) (.slice base l.length cap)).run cx.P wX =
   .ok () (wX.setRow bo (cs.toList.take 0++(Value.slice base l.length cap).cells.toList++cs.toList.drop (0+(Value.slice base l.length cap).cells.size)).toArray):=fun wX hX=>
  zer hdd (by rw [hc1]; rfl) hX (by rw [hcs]; exact Nat.le_refl _) (fun x hx=>by simp [Value.cells] at hx; subst hx; rfl)
 generalize (cs.toList.take 0++(Value.slice base l.length cap).cells.toList++cs.toList.drop (0+(Value.slice base l.length cap).cells.size)).toArray=X at store
 have exec:∀ (c:Act) (wX:World),(c=a.put (some q.a) v1∨c=a2)→wX.heap[bo]?=some (.cells cs el (0,0)) →
   (execOp c.eval ⟨none,.store ty (.tmp pt) (.tmp q.a),tty,tp,taf,none⟩).run cx.P wX=.ok .skip (wX.setRow bo X):=by
  intro c wX hcc hX
  have e1:c.eval (.tmp pt)=.pointer (some ⟨bo,0,none⟩):=by
   rcases hcc with rfl | rfl
   ·rw [ev1 _ k1,hpt]
   ·exact hpt
  have e2:c.eval (.tmp q.a)=.slice base l.length cap:=by
   rcases hcc with rfl | rfl
   ·rw [ev1 _ k2,hva]
   ·exact hva
  simp only [execOp,e1,e2]
  exact zxu (store wX hX)
 have hh1:w1.heap[bo]?=some (.cells cs el (0,0)):=by
  rw [hw'] at hheap
  rw [←hheap]
  exact (setRow_other b bo ncs hne).symm
 have hlast:(w1.setRow bo X).setRow b ncs=w'.setRow bo X:=by rw [hw',zts _ hne]
 -- the state behind
 have hsv:zb3 cx σ' ty (.ptr ido 0) (.sl sz l id) (fun δ _=>some δ)=some [(ido,.val 1 (.sl sz l id))]:=by
  simp only [zb3,hido,hc1]
  rfl
 obtain ⟨δ,fp,hδ,w3,idd,hrun,hupd,hob⟩:=zp4 hinv rp0 rv hsv hty
 cases hδ
 have hw3:w3=w'.setRow bo X:=by
  have:=store w' hheap
  rw [hrun] at this
  cases this
  rfl
 subst hw3
 have haf3:=hupd.after hinv hob
 refine zti hsize hdrop hedge (one hti) (one hts) (one htt) ⟨rfl,rfl,rfl,rfl⟩ rfl rfl hsz hl1 hl2 g1 hidx (v2:=v2) (w2:=w1.setRow bo X) (w':=w') (w'':=w'.setRow bo X) ?_ ?_ ?_ ?_ ?_
 ·rw [ha2]; exact g3
 ·rw [ha2]; exact exec a2 w' (.inr rfl) hheap
 ·intro c hcc
  refine exec c w1 ?_ hh1
  rw [←ha2]; exact hcc
 ·rw [ha2]
  have:=hput (w1.setRow bo X) (setRow_other bo b X (Ne.symm hne))
  rw [hlast] at this
  exact this
 ·rw [ha2]
  exact hQ _ _ hK _ _ _ ⟨hnow.after.trans (haf.trans haf3),haf3.frs hinv hf,hn2,hd2⟩
theorem tail_size{arr:Array Oper}{k:Nat}(h:zg5 arr.toList k=true):arr.size=k+4:=by
 unfold zg5 at h
 split at h
 case h_2=>cases h
 rename_i o i s t hd
 have:=congrArg List.length hd
 simp at this
 omega
theorem zf4{k:Nat}{x:Oper}(h:znl k x=true):∃ e∈x.after.toList,Region.binds .any e=true∧e.on=k:=by
 unfold znl at h
 rw [List.any_eq_true] at h
 obtain ⟨e,he,h2⟩:=h
 rw [Bool.and_eq_true] at h2
 exact ⟨e,he,h2.1,Nat.eq_of_beq_eq_true h2.2⟩
theorem zyv{arr:Array Oper}{k:Nat}(h:zg5 arr.toList k=true){listed:Array Bool}(hsz:listed.size=arr.size)(h1:∃ i,i<k∧¬ lis listed i)
  (h2:∀ j,k≤j→¬ lis listed j) (j:Nat) (hj:k≤j):j ∉ Region.ready .any arr listed:=by
 have hsize:=tail_size h
 unfold zg5 at h
 split at h
 case h_2=>cases h
 rename_i o i s t hd
 simp only [Bool.and_eq_true] at h
 obtain ⟨⟨⟨⟨⟨ho,hi⟩,hs⟩,ht⟩,_⟩,_⟩:=h
 have at':∀ n x,[o,i,s,t][n]?=some x→arr[k+n]?=some x:=fun n x hx=>by
  rw [←hd,List.getElem?_drop] at hx
  simpa using hx
 intro hr
 obtain ⟨q1,q2,q3⟩:=zkv hsz hr
 have hcase:j=k+0∨j=k+1∨j=k+2∨j=k+3:=by omega
 rcases hcase with rfl | rfl | rfl | rfl
 ·obtain ⟨n,hn,hl⟩:=h1
  unfold z5z at ho
  rw [List.all_eq_true] at ho
  have:=ho n (List.mem_range.2 hn)
  obtain ⟨e,he,hb,hon⟩:=zf4 (k:=n) (x:=o) this
  exact hl (hon ▸ q3 o (at' 0 o rfl) e he hb)
 ·obtain ⟨e,he,hb,hon⟩:=zf4 hi
  exact h2 k (Nat.le_refl _) (hon ▸ q3 i (at' 1 i rfl) e he hb)
 ·obtain ⟨e,he,hb,hon⟩:=zf4 hs
  exact h2 (k+1) (by omega) (hon ▸ q3 s (at' 2 s rfl) e he hb)
 ·obtain ⟨e,he,hb,hon⟩:=zf4 ht
  exact h2 k (Nat.le_refl _) (hon ▸ q3 t (at' 3 t rfl) e he hb)
end
end Go.Vai
end

section
namespace Go.Vai
section
variable {R:Type} {cx:Cx} {m nt:Nat} {call:Nat→List V→St→Option (Out×St)} {ds:List Deferred} {w w₀:World} {σ σ₀:St} {μ μ₀:Mu}
theorem z2u:Upd cx w σ μ { w with drawn:=w.drawn+1 } σ μ [] where
 os:=rfl
 output:=rfl
 size:=Nat.le_refl _
 blk:=fun _ _ _=>rfl
 cell:=fun _ _ _ _ h=>h
 fr:=rfl
 same:=fun _ _=>⟨rfl,rfl⟩
 own:=fun _ h=>by simp at h
 still:=fun _ h=>by simp at h
 apart:=fun _ h=>by simp at h
theorem zog(hi:Inv cx w σ μ):After cx w σ μ { w with drawn:=w.drawn+1 } σ μ:=Upd.after z2u hi (fun _ h=>by simp at h)
theorem zev:∀ (S:List Nat) (i:Nat),zi (zcp σ S) i=if i∈S then zi σ i else none
 | [],i=>by simp [zcp,zi]
 | j::S,i=>by
  simp only [zcp]
  cases hj:zi σ j with
  | none=>
   simp only [zev S i,List.mem_cons]
   by_cases h:i=j
   ·subst h; simp [hj]
   ·simp [h]
  | some o=>
   simp only [zi,zev S i,List.mem_cons]
   by_cases h:j=i
   ·subst h; simp [hj]
   ·simp [zjb h,Ne.symm h]
theorem zsz{is ren:List Nat}(h:zs0 σ is ren=true):(∀ i∈is,i∈ren)∧∀ i∈ren,∃ o,zi σ i=some o∧∀ j∈o.ids,j∈ren:=by
 unfold zs0 at h
 simp only [Bool.and_eq_true,List.all_eq_true] at h
 obtain ⟨h2,h3⟩:=h
 refine ⟨fun i hi=>by simpa using h2 i hi,fun i hi=>?_⟩
 have:=h3 i hi
 split at this
 ·rename_i o ho
  exact ⟨o,ho,fun j hj=>by simpa using List.all_eq_true.1 this j hj⟩
 ·cases this
theorem ze4{fr:Fr}:∀ (l:List Nat) (t:Nat) (v:V),zi (zg7 fr l) t=some v→zi fr t=some v∧t∈l
 | [],t,v,h=>by cases h
 | s::l,t,v,h=>by
  simp only [zg7] at h
  split at h
  ·rename_i u hu
   simp only [zi] at h
   cases hb:Nat.beq s t <;> rw [hb] at h
   ·have:=ze4 l t v h
    exact ⟨this.1,List.mem_cons_of_mem _ this.2⟩
   ·obtain rfl:=Nat.eq_of_beq_eq_true hb
    cases h
    exact ⟨hu,List.mem_cons_self⟩
  ·have:=ze4 l t v h
   exact ⟨this.1,List.mem_cons_of_mem _ this.2⟩
theorem zq5:∀ {fr:Fr} {t:Nat} {v:V} {i:Nat},zi fr t=some v→i∈v.ids→i∈zun fr
 | [],_,_,_,h,_=>by cases h
 | (s,u)::fr,t,v,i,h,hi=>by
  simp only [zi] at h
  simp only [zun,List.mem_append]
  cases hb:Nat.beq s t <;> rw [hb] at h
  ·exact .inr (zq5 h hi)
  ·cases h; exact .inl hi
theorem z2a{a:Act}{fr fr':Fr}{S:List Nat}(hσ₀:∀ id o,zi σ₀ id=some o→id<m)(hnow:Now cx nt ds w₀ σ₀ μ₀ a w σ μ fr)(hfr:∀ t v,zi fr' t=some v→zi fr t=some v)
  (hm:∀ i,i<m→i∈S) (hids:∀ t v,zi fr' t=some v→∀ i∈v.ids,i∈S) (hcl:∀ i∈S,∃ o,zi σ i=some o∧∀ j∈o.ids,j∈S):Now cx nt ds w₀ σ₀ μ₀ a w (zcp σ S) μ fr':=by
 have hi:=hnow.after.inv
 have hget:∀ {i o},zi (zcp σ S) i=some o→i∈S∧zi σ i=some o:=fun {i o} h=>by
  rw [zev] at h
  by_cases hS:i∈S
  ·rw [if_pos hS] at h; exact ⟨hS,h⟩
  ·rw [if_neg hS] at h; cases h
 have hin:∀ {i},i∈S→zi (zcp σ S) i=zi σ i:=fun {i} h=>by rw [zev,if_pos h]
 have hmine:∀ {b i},Mine (zcp σ S) μ b i→Mine σ μ b i:=fun ⟨id,o,ho,h⟩=>⟨id,o,(hget ho).2,h⟩
 have hown:∀ {b i},zr (zcp σ S) μ b i→zr σ μ b i:=fun h=>h.imp id hmine
 have hst:Stays w (zr σ μ) w (zr (zcp σ S) μ):=⟨fun b i x hn hc=>⟨hc,fun h=>hn (hown h)⟩,fun r es clock hn hm=>⟨hm,fun h=>hn (hown h)⟩⟩
 have rv:∀ v x,(∀ i∈x.ids,i∈S)→RV w σ μ v x→RV w (zcp σ S) μ v x:=fun v x hx hv=>hv.stays hst fun id hid o ho=>by
  rw [hin (hx id hid),ho]; exact y4.refl μ id o
 refine ⟨⟨⟨fun id o ho=>?_,fun id id' o o' b i ho ho'=>hi.apart id id' o o' b i (hget ho).2 (hget ho').2,fun g x hg=>?_,fun id o b i ho=>hi.frame id o b i (hget ho).2,hi.frLt,hi.frMap⟩,
  ⟨hnow.after.goes.kept,fun b i hb h=>hnow.after.goes.own b i hb (hmine h),hnow.after.goes.fr⟩,fun id o ho=>?_,hnow.after.fr⟩,fun t v ht=>rv _ _ (hids t v ht) (hnow.fr t v (hfr t v ht)),hnow.size,hnow.defers⟩
 ·obtain ⟨hS,ho⟩:=hget ho
  have hok:=hi.ob id o ho
  obtain ⟨o',ho',hoids⟩:=hcl id hS
  rw [ho] at ho'; cases ho'
  cases o with
  | val n v=>
   obtain ⟨b,cs,el,hb,hh,hn,ht,h1,hr,htag⟩:=hok
   exact ⟨b,cs,el,hb,hh,hn,ht,h1,hr.map fun y x hx=>rv y x fun i hi=>hoids i (V.cells_ids hx hi),htag⟩
  | row l=>
   exact qb.stays hst hok fun _ _ _=>rfl
  | tok n=>exact hok
  | map ks vs=>
   obtain ⟨b,es,clock,hb,hh,hk,hv⟩:=hok
   exact ⟨b,es,clock,hb,hh,hk.stays hst,hv.stays hst⟩
 ·obtain ⟨xs,hc,hr⟩:=hi.glob g x hg
  exact ⟨xs,fun j hj=>⟨(hc j hj).1,fun h=>(hc j hj).2.1 (hown h),(hc j hj).2.2⟩,fun j c hj=>(hr j c hj).stays hst⟩
 ·rw [hin (hm id (hσ₀ id o ho))]
  exact hnow.after.still id o ho
theorem zip:∀ {l:List V} {ds:List D},zd3 (l.map V.handed)=some ds→l.map V.handed=ds.map .d
 | [],ds,h=>by cases h; rfl
 | x::l,ds,h=>by
  simp only [List.map_cons] at h ⊢
  generalize hq:V.handed x=q at h ⊢
  cases q <;> first | (simp [zd3] at h; done) | skip
  rename_i d
  simp only [zd3] at h
  split at h
  ·rename_i l' hl
   cases h
   rw [zip hl]; rfl
  ·cases h
theorem z2l{i n:Nat}{l:List V}{ds':List D}{a:Act}{fr:Fr}(hg:zi σ i=some (.val n (.agg l)))(hu:zd3 (l.map V.handed)=some ds')(hnow:Now cx nt ds w₀ σ₀ μ₀ a w σ μ fr) :
  Now cx nt ds w₀ σ₀ μ₀ a w (qg σ i (.val n (.d (.agg ds')))) μ fr:=by
 have hi:=hnow.after.inv
 have hup:Upd cx w σ μ w (qg σ i (.val n (.d (.agg ds')))) μ [i]:={
  os:=rfl
  output:=rfl
  size:=Nat.le_refl _
  blk:=fun _ _ _=>rfl
  cell:=fun _ _ _ _ h=>h
  fr:=rfl
  same:=fun j hj=>⟨by rw [zp,if_neg (by simpa using Ne.symm (by simpa using hj))],rfl⟩
  own:=fun j hj o' ho' b k hb _=>by
   simp only [List.mem_singleton] at hj
   subst hj
   rw [zp,if_pos rfl] at ho'
   cases ho'
   exact ⟨_,hg,hb⟩
  still:=fun j hj o ho=>by
   simp only [List.mem_singleton] at hj
   subst hj
   rw [hg] at ho
   cases ho
   rw [zp,if_pos rfl]
   exact ⟨rfl,rfl⟩
  apart:=fun j hj j' hj' _ _ _ _ _ _ _ _ _=>by simp only [List.mem_singleton] at hj hj'; rw [hj,hj'] }
 have haf:After cx w σ μ w (qg σ i (.val n (.d (.agg ds')))) μ:=hup.after hi fun j hj o' ho'=>by
  simp only [List.mem_singleton] at hj
  subst hj
  rw [zp,if_pos rfl] at ho'
  cases ho'
  obtain ⟨b,cs,el,h1,h2,h3,_,h5,h6,htag⟩:=hi.ob j _ hg
  replace h6:RVs w σ μ cs.toList l:=h6
  refine ⟨b,cs,el,h1,h2,h3,rfl,h5,?_,htag⟩
  have hs:=hup.goes.stays' hi
  have hst:=hup.stillAll
  have hlen:l.length=ds'.length:=by have:=congrArg List.length (zip hu); simpa using this
  show RVs w _ μ cs.toList (ds'.map .d)
  rw [←zip hu]
  refine ⟨by simpa using h6.1,fun k x y hx hy=>?_⟩
  simp only [List.getElem?_map,Option.map_eq_some_iff] at hy
  obtain ⟨z,hz,rfl⟩:=hy
  exact (zq2 (h6.2 k x z hx hz)).stays hs fun id _ o ho=>hst id o ho
 exact ⟨hnow.after.trans haf,haf.frs hi hnow.fr,hnow.size,hnow.defers⟩
theorem zuo{a:Act}{fr:Fr}:∀ (l:List Nat) {σ:St},Now cx nt ds w₀ σ₀ μ₀ a w σ μ fr→Now cx nt ds w₀ σ₀ μ₀ a w (zsq l σ) μ fr
 | [],_,h=>h
 | i::r,σ,h=>by
  unfold zsq
  refine zuo r ?_
  split
  ·rename_i n l hg
   split
   ·rename_i ds' hu
    exact z2l hg hu h
   ·exact h
  ·exact h
theorem zrx{f key:Nat}{fr:Fr}{K:Fr→St→Option R}{r:R}(h:tidy cx m f key fr σ K=some r)(hσ₀:∀ id o,zi σ₀ id=some o→id<m) :
  ∃ fr' σ',K fr' σ'=some r∧∀ {a w μ},Now cx nt ds w₀ σ₀ μ₀ a w σ μ fr→Now cx nt ds w₀ σ₀ μ₀ a w σ' μ fr':=by
 unfold tidy at h
 simp only at h
 obtain ⟨hc,h⟩:=ze h
 obtain ⟨h1,h2⟩:=zsz hc
 exact ⟨_,_,h,fun hnow=>z2a hσ₀ (zuo _ hnow) (fun t v ht=>(ze4 _ t v ht).1) (fun i hi=>h1 i (List.mem_append_left _ (List.mem_range.2 hi)))
  (fun t v ht i hi=>h1 i (List.mem_append_right _ (zq5 ht hi))) h2⟩
theorem zoc(hcall:zad cx call)(hn:xc cx.P)(hmix:cx.P.follows .mixedOrders=true){f n:Nat} :
  ∀ (c:Code),(zbh c=true→∀ id o,zi σ₀ id=some o→id<m)→∀ {K:Ex→Fr→St→Option R} {r:R} {fr:Fr} {σ:St},yt cx f m nt call n c fr σ K=some r→∀ {Q:Exit→Act→World→Prop},
   (∀ e fr σ,K e fr σ=some r→∀ x a w μ,zgy w σ μ e x→Now cx nt ds w₀ σ₀ μ₀ a w σ μ fr→Q x a w)→∀ {a w μ},Now cx nt ds w₀ σ₀ μ₀ a w σ μ fr→c.wp cx.P Q a w:=by
 intro c
 induction c with
 | skip=>intro hσ₀ K r fr σ h Q hQ a w μ hnow; exact wp_skip (hQ _ _ _ h _ _ _ _ trivial hnow)
 | label l=>intro hσ₀ K r fr σ h Q hQ a w μ hnow; exact wp_label (hQ _ _ _ h _ _ _ _ trivial hnow)
 | exit id=>intro hσ₀ K r fr σ h Q hQ a w μ hnow; exact wp_exit (hQ _ _ _ h _ _ _ _ rfl hnow)
 | goto l=>intro hσ₀ K r fr σ h Q hQ a w μ hnow; exact wp_goto (hQ _ _ _ h _ _ _ _ rfl hnow)
 | ret=>intro hσ₀ K r fr σ h Q hQ a w μ hnow; exact wp_ret (hQ _ _ _ h _ _ _ _ trivial hnow)
 | refuse why=>intro hσ₀ K r fr σ h; cases h
 | rangeFunc f params assign body _ _=>intro hσ₀ K r fr σ h; cases h
 | region id ops draw=>
  intro hσ₀ K r fr σ h Q hQ a w μ hnow
  cases draw
  ·simp only [yt] at h
   split at h
   ·exact wp_region (by simpa using zux hcall hn hQ ops.toList 0 rfl fr σ h a w μ hnow)
   ·rename_i k hk
    refine wp_region ?_
    have key:=zga (cx:=cx) (nt:=nt) (ds:=ds) (w₀:=w₀) (σ₀:=σ₀) (μ₀:=μ₀) hcall hn (arr:=ops) (tl:=ops.toList.drop k) (Q:=Q) (fun fr σ h a w μ hnow i hi=>?_) (fun v fr σ h x a w μ hx hnow=>?_) (ops.toList.take k) 0 (by simp) fr σ h a w μ hnow
    ·simpa using key
    ·simp only at h
     have hik:(List.range ops.size).drop i=(List.range ops.size).drop k:=by
      by_cases hlt:k<ops.size
      ·have:=congrArg List.length hi
       simp at this
       have:i=k:=by omega
       rw [this]
      ·rw [List.drop_eq_nil_of_le (by simp; have:=congrArg List.length hi; simp at this; omega),List.drop_eq_nil_of_le (by simp; omega)]
     rw [hik]
     exact zzq h hnow fun l fr' σ' hK hl a w μ hnow=>zux hcall hn hQ l (k+3) hl fr' σ' hK a w μ hnow
    ·cases x <;> first | exact hx.elim | exact hQ _ _ _ h _ _ _ μ hx hnow
  ·simp only [yt] at h
   split at h
   ·exact zzs hcall hn hmix hQ (fun w σ μ hi=>zog hi) h hnow
   ·rename_i k hk
    obtain ⟨ht,h⟩:=ze h
    have hedge:∀ (j:Nat) o,ops.toList[j]?=some o→zbi j o=true:=fun j o ho=>by
     have hok:=(ze h).1
     simp only [zge,Bool.and_eq_true] at hok
     have:=(zcm hok.2 j o ho).2
     rwa [Nat.zero_add] at this
    have hsize:ops.size=k+4:=tail_size ht
    refine zzw hcall hn hmix ?_ (k₀:=k) (T:=4) hsize (fun listed hsz hl1 hl2=>zyv ht hsz hl1 hl2) ?_ (fun w σ μ hi=>zog hi) h hnow
    ·intro v fr σ h x a w μ hx hnow
     cases x <;> first | exact hx.elim | exact hQ _ _ _ h _ _ _ μ hx hnow
    ·intro fr σ h listed hsz hl1 hl2 a w μ hnow
     exact z4c ht hedge h hsz hl1 hl2 hnow fun fr' σ' hK a w μ hnow=>hQ _ _ _ hK _ _ _ μ trivial hnow
 | seq x y ihx ihy=>
  intro hσ₀ K r fr σ h Q hQ a w μ hnow
  refine wp_seq (ihx (fun h=>hσ₀ (by simp [zbh,h])) h (fun e fr σ hK x a w μ hx hnow=>?_) hnow)
  cases e with
  | normal=>cases x <;> first | exact ihy (fun h=>hσ₀ (by simp [zbh,h])) hK hQ hnow | exact hx.elim
  | exit i=>cases x <;> first | exact hQ _ _ _ hK _ _ _ μ hx hnow | exact hx.elim
  | goto l=>cases x <;> first | exact hQ _ _ _ hK _ _ _ μ hx hnow | exact hx.elim
  | ret=>cases x <;> first | exact hQ _ _ _ hK _ _ _ μ hx hnow | exact hx.elim
  | pan v=>cases x <;> first | exact hQ _ _ _ hK _ _ _ μ hx hnow | exact hx.elim
 | cond c x y ihx ihy=>
  intro hσ₀ K r fr σ h Q hQ a w μ hnow
  simp only [yt] at h
  obtain ⟨v,hv,h⟩:=zd h
  obtain ⟨b,rfl,h⟩:=zkj h
  have hcb:a.eval c=.bool b:=by
   have hr:=xv hnow.fr hv
   generalize a.eval c=q at hr
   cases hr with | d _ _ hd=>cases hd; rfl
  refine wp_cond hcb ?_
  cases b
  ·exact ihy (fun h=>hσ₀ (by simp [zbh,h])) h hQ hnow
  ·exact ihx (fun h=>hσ₀ (by simp [zbh,h])) h hQ hnow
 | block id c ih=>
  intro hσ₀ K r fr σ h Q hQ a w μ hnow
  replace hσ₀:=hσ₀ rfl
  refine wp_block (ih (fun _=>hσ₀) h (fun e fr σ hK x a w μ hx hnow=>?_) hnow)
  have tid:∀ {fr σ},tidy cx m f (2 * id) fr σ (K .normal)=some r→Now cx nt ds w₀ σ₀ μ₀ a w σ μ fr→Q .normal a w:=fun h hnow=>by
   obtain ⟨fr',σ',hK,hN⟩:=zrx (nt:=nt) (w₀:=w₀) (μ₀:=μ₀) h hσ₀
   exact hQ _ _ _ hK _ _ _ μ trivial (hN hnow)
  cases e with
  | normal=>cases x <;> first | exact tid hK hnow | exact hx.elim
  | exit i=>
   cases x <;> first | exact hx.elim | skip
   rename_i j
   obtain rfl:i=j:=hx
   show if i=id then _ else _
   simp only at hK
   by_cases hid:i=id
   ·subst hid
    rw [ydr,cond_true] at hK
    rw [if_pos rfl]
    exact tid hK hnow
   ·rw [zjb hid,cond_false] at hK
    rw [if_neg hid]
    exact hQ _ _ _ hK _ _ _ μ rfl hnow
  | goto l=>cases x <;> first | exact hQ _ _ _ hK _ _ _ μ hx hnow | exact hx.elim
  | ret=>cases x <;> first | exact hQ _ _ _ hK _ _ _ μ hx hnow | exact hx.elim
  | pan v=>cases x <;> first | exact hQ _ _ _ hK _ _ _ μ hx hnow | exact hx.elim
 | loop c ih=>
  intro hσ₀ K r fr σ h Q hQ a w μ hnow
  replace hσ₀:=hσ₀ rfl
  simp only [yt] at h
  obtain ⟨fr',σ',h,hN⟩:=zrx (nt:=nt) (w₀:=w₀) (μ₀:=μ₀) h hσ₀
  refine wp_loop_rounds n ?_
  have key:∀ (k:Nat) (fr:Fr) (σ:St) (a:Act) (w:World) (μ:Mu),iter (yt cx f m nt call n c) (tidy cx m f (2 * yl c+1)) k fr σ K=some r→Now cx nt ds w₀ σ₀ μ₀ a w σ μ fr →
    Code.rounds cx.P c Q k a w:=by
   intro k
   induction k with
   | zero=>intro fr σ a w μ h; cases h
   | succ k ihk=>
    intro fr σ a w μ h hnow
    rw [rounds_succ]
    refine ih (fun _=>hσ₀) h (fun e fr σ hK x a w μ hx hnow=>?_) hnow
    cases e with
    | normal=>
     cases x <;> first | exact hx.elim | skip
     simp only at hK
     obtain ⟨fr',σ',h,hN⟩:=zrx (nt:=nt) (w₀:=w₀) (μ₀:=μ₀) hK hσ₀
     exact ihk _ _ _ _ μ h (hN hnow)
    | exit i=>cases x <;> first | exact hQ _ _ _ hK _ _ _ μ hx hnow | exact hx.elim
    | goto l=>cases x <;> first | exact hQ _ _ _ hK _ _ _ μ hx hnow | exact hx.elim
    | ret=>cases x <;> first | exact hQ _ _ _ hK _ _ _ μ hx hnow | exact hx.elim
    | pan v=>cases x <;> first | exact hQ _ _ _ hK _ _ _ μ hx hnow | exact hx.elim
  exact key n fr' σ' a w μ h (hN hnow)
 | scope c ih=>
  intro hσ₀ K r fr σ h Q hQ a w μ hnow
  refine wp_scope_straight (ih hσ₀ h (fun e fr σ hK x a w μ hx hnow=>?_) hnow)
  cases e with
  | normal=>cases x <;> first | exact hQ _ _ _ hK _ _ _ μ hx hnow | exact hx.elim
  | exit i=>cases x <;> first | exact hQ _ _ _ hK _ _ _ μ hx hnow | exact hx.elim
  | goto l=>cases hK
  | ret=>cases x <;> first | exact hQ _ _ _ hK _ _ _ μ hx hnow | exact hx.elim
  | pan v=>cases x <;> first | exact hQ _ _ _ hK _ _ _ μ hx hnow | exact hx.elim
theorem zlf(hcall:zad cx call)(hn:xc cx.P)(hmix:cx.P.follows .mixedOrders=true)(hσ₀:∀ id o,zi σ₀ id=some o→id<m){f n:Nat}
  (c:Code) {K:Ex→Fr→St→Option R} {r:R} {fr:Fr} {σ:St} (h:yt cx f m nt call n c fr σ K=some r) {Q:Exit→Act→World→Prop}
  (hQ:∀ e fr σ,K e fr σ=some r→∀ x a w μ,zgy w σ μ e x→Now cx nt ds w₀ σ₀ μ₀ a w σ μ fr→Q x a w) {a w μ} (hnow:Now cx nt ds w₀ σ₀ μ₀ a w σ μ fr):c.wp cx.P Q a w:=
 zoc hcall hn hmix c (fun _=>hσ₀) h hQ hnow
end
end Go.Vai
end

section
namespace Go.Vai
section
variable {R:Type} {cx:Cx} {m nt:Nat} {w w₀:World} {σ σ' σ₀:St} {μ μ₀:Mu}
theorem zbt:∀ {l r:List V},V.leaveL m σ l=some r→r.length=l.length∧∀ (i:Nat) x y,l[i]?=some x→r[i]?=some y→x.leave m σ=some y
 | [],r,h=>by simp only [V.leaveL] at h; cases h; simp
 | v::l,r,h=>by
  simp only [V.leaveL] at h
  split at h
  ·rename_i u r' hu hr
   cases h
   obtain ⟨h1,h2⟩:=zbt hr
   refine ⟨by simp [h1],fun i x y hx hy=>?_⟩
   cases i with
   | zero=>simp at hx hy; subst hx; subst hy; exact hu
   | succ i=>exact h2 i x y (by simpa using hx) (by simpa using hy)
  ·cases h
def zdo(m:Nat)(σ:St):Ob→Option Ob
 | .val n v=>(v.leave m σ).map (.val n)
 | o=>some o
theorem zj4:∀ {is:List Nat} {τ:St},zao m σ is=some τ→(∀ i∈is,∃ o o',zi σ i=some o∧zi τ i=some o'∧zdo m σ o=some o')∧∀ i o',zi τ i=some o'→i∈is
 | [],τ,h=>by simp only [zao] at h; cases h; exact ⟨by simp,fun i o h=>by cases h⟩
 | i::is,τ,h=>by
  simp only [zao] at h
  have fin:∀ {o o':Ob} {l:St},zi σ i=some o→zdo m σ o=some o'→zao m σ is=some l→τ=(i,o')::l →
    (∀ j∈i::is,∃ o o',zi σ j=some o∧zi τ j=some o'∧zdo m σ o=some o')∧∀ j o',zi τ j=some o'→j∈i::is:=by
   intro o o' l ho hl hls rfl
   obtain ⟨h1,h2⟩:=zj4 hls
   refine ⟨fun j hj=>?_,fun j q hq=>?_⟩
   ·by_cases hij:i=j
    ·subst hij
     exact ⟨o,o',ho,by simp [zi],hl⟩
    ·obtain ⟨p,q,h3,h4,h5⟩:=h1 j ((List.mem_cons.1 hj).resolve_left fun e=>hij e.symm)
     exact ⟨p,q,h3,by simpa [zi,zjb hij] using h4,h5⟩
   ·by_cases hij:i=j
    ·subst hij; exact List.mem_cons_self
    ·simp only [zi,zjb hij,cond_false] at hq
     exact List.mem_cons_of_mem _ (h2 j q hq)
  split at h
  ·rename_i n v l ho hls
   split at h
   ·rename_i u hu
    cases h
    exact fin ho (by simp [zdo,hu]) hls rfl
   ·cases h
  ·rename_i o l hno ho hls
   cases h
   refine fin ho ?_ hls rfl
   cases o with
   | val n v=>exact (hno n v rfl).elim
   | _=>rfl
  ·cases h
mutual
theorem V.leave_ids(m:Nat)(σ:St):∀ (v u:V),v.leave m σ=some u→∀ i∈u.ids,i<m
 | .d x,u,h,i,hi=>by simp only [V.leave] at h; cases h; simp [V.ids] at hi
 | .sl sz l id,u,h,i,hi=>by
  simp only [V.leave] at h
  cases hb:Nat.blt id m <;> rw [hb] at h <;> cases h
  ·simp [V.ids] at hi
  ·simp [V.ids] at hi; subst hi; exact Nat.le_of_ble_eq_true hb
 | .slo id sz k,u,h,i,hi=>by
  simp only [V.leave] at h
  split at h
  ·cases hb:Nat.blt id m <;> rw [hb] at h
   ·simp only [cond_false] at h
    cases hq:Nat.beq k _ <;> rw [hq] at h <;> cases h
    simp [V.ids] at hi
   ·cases h; simp [V.ids] at hi; subst hi; exact Nat.le_of_ble_eq_true hb
  ·cases h
 | .wptr id sz k j off,u,h,i,hi=>by
  simp only [V.leave] at h
  cases hb:Nat.blt id m <;> rw [hb] at h <;> cases h
  simp [V.ids] at hi; subst hi; exact Nat.le_of_ble_eq_true hb
 | .map id,u,h,i,hi=>by
  simp only [V.leave] at h
  split at h
  ·cases hb:Nat.blt id m <;> rw [hb] at h <;> cases h
   ·simp [V.ids] at hi
   ·simp [V.ids] at hi; subst hi; exact Nat.le_of_ble_eq_true hb
  ·cases h
 | .ptr id off,u,h,i,hi=>by
  simp only [V.leave] at h
  cases hb:Nat.blt id m <;> rw [hb] at h <;> cases h
  simp [V.ids] at hi; subst hi; exact Nat.le_of_ble_eq_true hb
 | .eptr x off,u,h,i,hi=>by simp only [V.leave] at h; cases h; simp [V.ids] at hi
 | .gptr x off,u,h,i,hi=>by simp only [V.leave] at h; cases h; simp [V.ids] at hi
 | .mfunc x off,u,h,i,hi=>by simp only [V.leave] at h; cases h; simp [V.ids] at hi
 | .agg l,u,h,i,hi=>by
  simp only [V.leave] at h
  split at h
  ·rename_i r hr
   cases h
   have:=V.leaveL_ids m σ l r hr i
   unfold zb8 at hi
   split at hi
   ·simp [V.ids] at hi
   ·exact this hi
  ·cases h
 | .tup l,u,h,i,hi=>by
  simp only [V.leave] at h
  split at h
  ·rename_i r hr
   cases h
   exact V.leaveL_ids m σ l r hr i hi
  ·cases h
 | .func g l,u,h,i,hi=>by
  simp only [V.leave] at h
  split at h
  ·rename_i r hr
   cases h
   exact V.leaveL_ids m σ l r hr i hi
  ·cases h
 | .iface t v,u,h,i,hi=>by
  simp only [V.leave] at h
  split at h
  ·rename_i r hr
   cases h
   exact V.leave_ids m σ v r hr i hi
  ·cases h
theorem V.leaveL_ids(m:Nat)(σ:St):∀ (l r:List V),V.leaveL m σ l=some r→∀ i∈V.idsL r,i<m
 | [],r,h,i,hi=>by simp only [V.leaveL] at h; cases h; cases hi
 | v::l,r,h,i,hi=>by
  simp only [V.leaveL] at h
  split at h
  ·rename_i u r' hu hr
   cases h
   simp only [V.idsL,List.mem_append] at hi
   rcases hi with hi | hi
   ·exact V.leave_ids m σ v u hu i hi
   ·exact V.leaveL_ids m σ l r' hr i hi
  ·cases h
end
theorem zl0{o o':Ob}(h:zdo m σ o=some o'):∀ i∈o'.ids,i<m:=by
 intro i hi
 cases o with
 | val n v=>
  obtain ⟨u,hu,rfl⟩:=Option.map_eq_some_iff.1 h
  exact V.leave_ids m σ v u hu i hi
 | _=>cases h; simp [Ob.ids] at hi
theorem zb9{o o':Ob}(h:zdo m σ o=some o'){id b i:Nat}:owns μ id o' b i↔owns μ id o b i:=by
 cases o with
 | val n v=>obtain ⟨u,hu,rfl⟩:=Option.map_eq_some_iff.1 h; exact Iff.rfl
 | _=>cases h; exact Iff.rfl
structure Left (m:Nat) (σ σ':St):Prop where
 get:∀ i,i<m→∃ o o',zi σ i=some o∧zi σ' i=some o'∧zdo m σ o=some o'
 lt:∀ i o',zi σ' i=some o'→i<m
theorem Left.of{τ:St}(h:zao m σ (List.range m)=some τ):Left m σ τ:=
 let ⟨h1,h2⟩:=zj4 h
 ⟨fun i hi=>h1 i (List.mem_range.2 hi),fun i o ho=>List.mem_range.1 (h2 i o ho)⟩
theorem Left.back(h:Left m σ σ'){i:Nat}{o':Ob}(ho:zi σ' i=some o'):∃ o,zi σ i=some o∧zdo m σ o=some o'∧i<m:=by
 have hlt:=h.lt i o' ho
 obtain ⟨o,q,h1,h2,h3⟩:=h.get i hlt
 rw [ho] at h2; cases h2
 exact ⟨o,h1,h3,hlt⟩
theorem Left.mine(h:Left m σ σ'){b i:Nat}(hm:Mine σ' μ b i):∃ id o,id<m∧zi σ id=some o∧owns μ id o b i:=by
 obtain ⟨id,o',ho',hown⟩:=hm
 obtain ⟨o,h1,h2,h3⟩:=h.back ho'
 exact ⟨id,o,h3,h1,(zb9 h2).1 hown⟩
theorem Left.own(h:Left m σ σ'){b i:Nat}(ho:zr σ' μ b i):zr σ μ b i:=ho.imp id fun hm=>let ⟨id,o,_,h1,h2⟩:=h.mine hm; ⟨id,o,h1,h2⟩
theorem Left.stays(h:Left m σ σ'):Stays w (zr σ μ) w (zr σ' μ):=⟨fun b i x hn hc=>⟨hc,fun ho=>hn (h.own ho)⟩,fun r es clock hn hm=>⟨hm,fun ho=>hn (h.own ho)⟩⟩
theorem Left.free(h:Left m σ σ')(hi:Inv cx w σ μ){id:Nat}{o:Ob}(hm : ¬ id<m)(ho:zi σ id=some o){b i:Nat}(hown:owns μ id o b i):∀ j,¬ zr σ' μ b j:=by
 intro j hq
 rcases hq with hf | hq
 ·exact hi.frame id o b i ho hown j hf
 ·obtain ⟨id',o',h1,h2,h3⟩:=h.mine hq
  have:=hi.blockApart ho h2 hown h3
  exact hm (this ▸ h1)
theorem z5e{a b:Nat}(h:Nat.blt a b=false) : ¬ a<b:=fun hlt=>by
 have:Nat.blt a b=true:=by simpa using hlt
 rw [h] at this; cases this
theorem zny(h:Left m σ σ')(hi:Inv cx w σ μ){v:Value}{x:V}(hv:RV w σ μ v x):∀ {u:V},x.leave m σ=some u→RV w σ' μ v u:=by
 have hst:=h.stays (w:=w) (μ:=μ)
 have list:∀ {cs:Array Value} {l r:List V},cs.size=l.length→(∀ (i:Nat) x y,cs[i]?=some x→l[i]?=some y→∀ {u:V},y.leave m σ=some u→RV w σ' μ x u)→V.leaveL m σ l=some r →
   cs.size=r.length∧∀ (i:Nat) x y,cs[i]?=some x→r[i]?=some y→RV w σ' μ x y:=by
  intro cs l r hl ih hr
  obtain ⟨h1,h2⟩:=zbt hr
  refine ⟨by rw [h1]; exact hl,fun i x y hx hy=>?_⟩
  obtain ⟨z,hz⟩:=yv (l:=l) (i:=i) (by rw [←h1]; exact (List.getElem?_eq_some_iff.1 hy).1)
  exact ih i x z hx hz (h2 i z y hz hy)
 induction hv with
 | d v x hd=>intro u hu; simp only [V.leave] at hu; cases hu; exact .d _ _ (hd.stays hst)
 | ptr id off b hc hb=>
  intro u hu
  simp only [V.leave] at hu
  cases hlt:Nat.blt id m <;> rw [hlt] at hu <;> cases hu
  obtain ⟨o,o',h1,h2,h3⟩:=h.get id (Nat.le_of_ble_eq_true hlt)
  refine .ptr id off b ?_ hb
  rw [h2]
  rw [h1] at hc
  cases o with
  | val n v=>obtain ⟨u,hu,rfl⟩:=Option.map_eq_some_iff.1 h3; trivial
  | _=>exact hc.elim
 | eptr x b o off xs hc hh=>
  intro u hu
  simp only [V.leave] at hu; cases hu
  exact .eptr x b o off xs (fun j hj=>⟨(hc j hj).1,fun ho=>(hc j hj).2.1 (h.own ho),(hc j hj).2.2⟩) (fun j c hj=>(hh j c hj).stays hst)
 | gptr g off=>intro u hu; simp only [V.leave] at hu; cases hu; exact .gptr g off
 | agg cs l hl ho _ ih=>
  intro u hu
  simp only [V.leave] at hu
  split at hu
  ·rename_i r hr
   cases hu
   obtain ⟨h1,h2⟩:=list hl ih hr
   exact zff ho ⟨by simpa using h1,fun i x y hx hy=>h2 i x y (by simpa using hx) hy⟩
  ·cases hu
 | sl v sz l id n hd ht hn he=>
  intro u hu
  simp only [V.leave] at hu
  cases hlt:Nat.blt id m <;> rw [hlt] at hu <;> cases hu
  ·exact .d _ _ (hd.stays hst)
  ·obtain ⟨o,o',h1,h2,h3⟩:=h.get id (Nat.le_of_ble_eq_true hlt)
   rw [ht] at h1; cases h1
   cases h3
   exact .sl v sz l id n (hd.stays hst) h2 hn he
 | slo id sz k cap base l ho hk hcap hn he=>
  intro u hu
  simp only [V.leave,ho] at hu
  cases hlt:Nat.blt id m <;> rw [hlt] at hu
  ·rw [cond_false] at hu
   cases hkl:Nat.beq k l.length <;> rw [hkl] at hu
   ·cases hu
   ·rw [cond_true] at hu
    cases hu
    obtain rfl:=Nat.eq_of_beq_eq_true hkl
    exact .d _ _ (zks (hi.ob id _ ho) (he rfl) hcap hst fun b hb=>h.free hi (z5e hlt) ho (show owns μ id (.row l) b 0 from hb))
  ·cases hu
   obtain ⟨o,o',h1,h2,h3⟩:=h.get id (Nat.le_of_ble_eq_true hlt)
   rw [ho] at h1; cases h1
   cases h3
   exact .slo id sz k cap base l h2 hk hcap hn he
 | wptr id sz k i off a l ho hk he=>
  intro u hu
  simp only [V.leave] at hu
  cases hlt:Nat.blt id m <;> rw [hlt] at hu <;> cases hu
  obtain ⟨o,o',h1,h2,h3⟩:=h.get id (Nat.le_of_ble_eq_true hlt)
  rw [ho] at h1; cases h1
  cases h3
  exact .wptr id sz k i off a l h2 hk he
 | func f cs l hl _ ih=>
  intro u hu
  simp only [V.leave] at hu
  split at hu
  ·rename_i r hr
   cases hu
   obtain ⟨h1,h2⟩:=list hl ih hr
   exact .func f cs r h1 h2
  ·cases hu
 | mfunc f cs l h=>
  intro u hu
  simp only [V.leave] at hu; cases hu
  exact .mfunc f cs l ⟨h.1,fun i x y hx hy=>(h.2 i x y hx hy).stays hst⟩
 | map id b ks vs ho hb=>
  intro u hu
  simp only [V.leave,ho] at hu
  cases hlt:Nat.blt id m <;> rw [hlt] at hu <;> cases hu
  ·obtain ⟨b',es,clock,hb',hh,hk,hv⟩:=hi.ob id _ ho
   obtain rfl:b=b':=by rw [hb] at hb'; exact Option.some.inj hb'
   have hfree:=h.free hi (z5e hlt) ho (show owns μ id (.map ks vs) b 0 from hb)
   refine .d _ _ (.map b es clock ks vs hh (hfree 0) (by simpa using hk.1) (by simpa using hv.1) (fun i e k he hk'=>?_) (fun i e v he hv'=>?_))
   ·exact (hk.2 i e.key k (by simp [he]) hk').stays hst
   ·exact (hv.2 i e.val v (by simp [he]) hv').stays hst
  ·obtain ⟨o,o',h1,h2,h3⟩:=h.get id (Nat.le_of_ble_eq_true hlt)
   rw [ho] at h1; cases h1
   cases h3
   exact .map id b ks vs h2 hb
 | iface t v u' _ ih=>
  intro u hu
  simp only [V.leave] at hu
  split at hu
  ·rename_i r hr
   cases hu
   exact .iface t v r (ih hr)
  ·cases hu
 | tup cs l hl _ ih=>
  intro u hu
  simp only [V.leave] at hu
  split at hu
  ·rename_i r hr
   cases hu
   obtain ⟨h1,h2⟩:=list hl ih hr
   exact .tup cs r h1 h2
  ·cases hu
end
end Go.Vai
end

section
namespace Go.Vai
section
variable {R:Type} {cx:Cx} {m nt:Nat} {w w₀:World} {σ σ' σ₀:St} {μ μ₀:Mu}
theorem zk8{v u:V}(h:v.leave m σ=some u):(v.tupV=false→u.tupV=false)∧(v.cells=[v]→u.cells=[u]):=by
 cases v with
 | d x=>simp only [V.leave] at h; cases h; exact ⟨id,id⟩
 | eptr x off=>simp only [V.leave] at h; cases h; exact ⟨id,id⟩
 | gptr x off=>simp only [V.leave] at h; cases h; exact ⟨id,id⟩
 | mfunc x off=>simp only [V.leave] at h; cases h; exact ⟨id,id⟩
 | ptr id off=>simp only [V.leave] at h; cases hb:Nat.blt id m <;> rw [hb] at h <;> cases h; exact ⟨fun _=>rfl,fun _=>rfl⟩
 | sl sz l id=>simp only [V.leave] at h; cases hb:Nat.blt id m <;> rw [hb] at h <;> cases h <;> exact ⟨fun _=>rfl,fun _=>rfl⟩
 | slo id sz k=>
  simp only [V.leave] at h
  split at h
  ·cases hb:Nat.blt id m <;> rw [hb] at h
   ·simp only [cond_false] at h
    cases hq:Nat.beq k _ <;> rw [hq] at h <;> cases h
    exact ⟨fun _=>rfl,fun _=>rfl⟩
   ·cases h; exact ⟨fun _=>rfl,fun _=>rfl⟩
  ·cases h
 | wptr id sz k i off=>simp only [V.leave] at h; cases hb:Nat.blt id m <;> rw [hb] at h <;> cases h; exact ⟨fun _=>rfl,fun _=>rfl⟩
 | map id=>
  simp only [V.leave] at h
  split at h
  ·cases hb:Nat.blt id m <;> rw [hb] at h <;> cases h <;> exact ⟨fun _=>rfl,fun _=>rfl⟩
  ·cases h
 | func g l=>simp only [V.leave] at h; split at h <;> cases h; exact ⟨fun _=>rfl,fun _=>rfl⟩
 | iface t x=>simp only [V.leave] at h; split at h <;> cases h; exact ⟨fun _=>rfl,fun _=>rfl⟩
 | tup l=>simp only [V.leave] at h; split at h <;> cases h; exact ⟨fun h=>by simp [V.tupV] at h,fun _=>rfl⟩
 | agg l=>
  simp only [V.leave] at h
  split at h
  ·cases h
   refine ⟨fun _=>by unfold zb8; split <;> rfl,fun hc=>?_⟩
   exfalso
   simp only [V.cells] at hc
   have:=congrArg (fun x:List V=>SizeOf.sizeOf x) hc
   simp at this
   omega
  ·cases h
theorem zqv{v u:V}(h:v.leave m σ=some u)(ht:v.tupV=false):u.tupV=false:=(zk8 h).1 ht
theorem zua(h:Left m σ σ')(hi:Inv cx w σ μ){v u:V}{vs:List Value}(hr:RVs w σ μ vs v.cells)(hu:v.leave m σ=some u):RVs w σ' μ vs u.cells:=by
 by_cases hc:v.cells=[v]
 ·rw [(zk8 hu).2 hc]
  rw [hc] at hr
  refine ⟨hr.1,fun i x y hx hy=>?_⟩
  cases i with
  | zero=>
   simp at hy; subst hy
   exact zny h hi (hr.2 0 x v hx rfl) hu
  | succ i=>simp at hy
 ·cases v with
  | agg l=>
   simp only [V.leave] at hu
   split at hu
   ·rename_i r hl
    cases hu
    rw [zeu]
    obtain ⟨h1,h2⟩:=zbt hl
    refine ⟨by rw [h1]; exact hr.1,fun i x y hx hy=>?_⟩
    obtain ⟨z,hz⟩:=yv (l:=l) (i:=i) (by rw [←h1]; exact (List.getElem?_eq_some_iff.1 hy).1)
    exact zny h hi (hr.2 i x z hx hz) (h2 i z y hz hy)
   ·cases hu
  | d x=>
   simp only [V.leave] at hu
   cases hu
   refine hr.map fun v y hy hv=>?_
   cases x with
   | agg l=>
    simp only [V.cells,List.mem_map] at hy
    obtain ⟨d,_,rfl⟩:=hy
    cases hv with | d _ _ hd=>exact .d _ _ (hd.stays h.stays)
   | _=>exact (hc rfl).elim
  | _=>exact (hc rfl).elim
theorem Left.after(h:Left m σ σ')(hσ₀:∀ id o,zi σ₀ id=some o→id<m)(ha:After cx w₀ σ₀ μ₀ w σ μ):After cx w₀ σ₀ μ₀ w σ' μ:=by
 have hi:=ha.inv
 have hst:=h.stays (w:=w) (μ:=μ)
 refine ⟨⟨fun id o' ho'=>?_,fun id id' o o' b i ho ho' h1 h2=>?_,fun g x hg=>?_,fun id o b i ho h1=>?_,hi.frLt,hi.frMap⟩,
  ⟨ha.goes.kept,fun b i hb hm=>ha.goes.own b i hb (let ⟨id,o,_,h1,h2⟩:=h.mine hm; ⟨id,o,h1,h2⟩),ha.goes.fr⟩,fun id o ho=>?_,ha.fr⟩
 ·obtain ⟨o,ho,hl,hlt⟩:=h.back ho'
  have hok:=hi.ob id o ho
  cases o with
  | val n v=>
   obtain ⟨u,hu,rfl⟩:=Option.map_eq_some_iff.1 hl
   obtain ⟨b,cs,el,hb,hh,hn,ht,h1,hr,htag⟩:=hok
   exact ⟨b,cs,el,hb,hh,hn,zqv hu ht,h1,zua h hi hr hu,htag⟩
  | row l=>
   cases hl
   exact qb.stays hst hok fun _ _ _=>rfl
  | tok n=>cases hl; exact hok
  | map ks vs=>
   cases hl
   obtain ⟨b,es,clock,hb,hh,hk,hv⟩:=hok
   exact ⟨b,es,clock,hb,hh,hk.stays hst,hv.stays hst⟩
 ·obtain ⟨p,hp,hl,_⟩:=h.back ho
  obtain ⟨p',hp',hl',_⟩:=h.back ho'
  exact hi.apart id id' p p' b i hp hp' ((zb9 hl).1 h1) ((zb9 hl').1 h2)
 ·obtain ⟨xs,hc,hr⟩:=hi.glob g x hg
  exact ⟨xs,fun j hj=>⟨(hc j hj).1,fun ho=>(hc j hj).2.1 (h.own ho),(hc j hj).2.2⟩,fun j c hj=>(hr j c hj).stays hst⟩
 ·obtain ⟨p,hp,hl,_⟩:=h.back ho
  exact hi.frame id p b i hp ((zb9 hl).1 h1)
 ·obtain ⟨p,q,h1,h2,h3⟩:=h.get id (hσ₀ id o ho)
  have:=ha.still id o ho
  rw [h1] at this
  rw [h2]
  cases p with
  | val n v=>obtain ⟨u,hu,rfl⟩:=Option.map_eq_some_iff.1 h3; cases o <;> exact this
  | _=>cases h3; exact this
end
end Go.Vai
end

section
namespace Go.Vai
section
variable {R:Type} {cx:Cx} {m nt q g n₀:Nat} {w w₀:World} {σ σ' σ₀:St} {μ μ' μ₀:Mu}
structure Left2 (m q g n:Nat) (σ σ':St) (μ μ':Mu):Prop where
 get:∀ i,i<m→i ≠ q→∃ o o',zi σ i=some o∧zi σ' i=some o'∧zdo m σ o=some o'∧μ' i=μ i
 lt:∀ i o',zi σ' i=some o'→i<m
 gm : ¬ g<m
 n0:0<n
 q0:zi σ q=some (.tok 0)
 q1:zi σ' q=some (.tok n)
 gt:zi σ g=some (.tok n)
 mu:μ' q=μ g
 fr:μ'.fr=μ.fr
theorem Left2.of{τ:St}{μ:Mu}(h:Left m σ τ)(hq:q<m)(hg : ¬ g<m)(h0:zi σ q=some (.tok 0))(ht:zi σ g=some (.tok n₀))(hn:0<n₀) :
  Left2 m q g n₀ σ (qg τ q (.tok n₀)) μ (setMu μ q (μ g)):=by
 refine ⟨fun i hi hne=>?_,fun i o' ho=>?_,hg,hn,h0,by rw [zp,if_pos rfl],ht,by simp [setMu],rfl⟩
 ·obtain ⟨o,o',h1,h2,h3⟩:=h.get i hi
  exact ⟨o,o',h1,by rw [zp,if_neg (fun e=>hne e.symm)]; exact h2,h3,by simp [setMu,hne]⟩
 ·rw [zp] at ho
  by_cases e:q=i
  ·exact e ▸ hq
  ·rw [if_neg e] at ho; exact h.lt i o' ho
theorem Left2.back(h:Left2 m q g n₀ σ σ' μ μ'){id:Nat}{o':Ob}{b i:Nat}(ho:zi σ' id=some o')(hown:owns μ' id o' b i) :
  ∃ s p,((s=id∧id<m∧id ≠ q)∨(s=g∧id=q))∧zi σ s=some p∧owns μ s p b i:=by
 by_cases hq:id=q
 ·subst hq
  rw [h.q1] at ho; cases ho
  refine ⟨g,.tok n₀,.inr ⟨rfl,rfl⟩,h.gt,?_⟩
  have h1:(μ' id).blk=some b∧(μ' id).f≤i:=hown
  rw [h.mu] at h1
  exact h1
 ·have hlt:=h.lt id o' ho
  obtain ⟨o,o'',h1,h2,h3,h4⟩:=h.get id hlt hq
  rw [ho] at h2; cases h2
  refine ⟨id,o,.inl ⟨rfl,hlt,hq⟩,h1,(zb9 h3).1 ?_⟩
  exact (wh h4 o' b i).1 hown
theorem Left2.mine(h:Left2 m q g n₀ σ σ' μ μ'){b i:Nat}(hm:Mine σ' μ' b i):∃ id o,((id<m∧id ≠ q)∨id=g)∧zi σ id=some o∧owns μ id o b i:=by
 obtain ⟨id,o',ho',hown⟩:=hm
 obtain ⟨s,p,hs,hp,hown'⟩:=h.back ho' hown
 refine ⟨s,p,?_,hp,hown'⟩
 rcases hs with ⟨rfl,h1,h2⟩ | ⟨rfl,_⟩
 ·exact .inl ⟨h1,h2⟩
 ·exact .inr rfl
theorem Left2.own(h:Left2 m q g n₀ σ σ' μ μ'){b i:Nat}(ho:zr σ' μ' b i):zr σ μ b i:=by
 rcases ho with hf | hm
 ·exact .inl (h.fr ▸ hf)
 ·obtain ⟨id,o,_,h1,h2⟩:=h.mine hm; exact .inr ⟨id,o,h1,h2⟩
theorem Left2.stays(h:Left2 m q g n₀ σ σ' μ μ'):Stays w (zr σ μ) w (zr σ' μ'):=⟨fun b i x hn hc=>⟨hc,fun ho=>hn (h.own ho)⟩,fun r es clock hn hm=>⟨hm,fun ho=>hn (h.own ho)⟩⟩
theorem Left2.free(h:Left2 m q g n₀ σ σ' μ μ')(hi:Inv cx w σ μ){id:Nat}{o:Ob}(hm : ¬ id<m)(ho:zi σ id=some o)(hnt:∀ k,o ≠ .tok k){b i:Nat}(hown:owns μ id o b i):∀ j,¬ zr σ' μ' b j:=by
 intro j hq
 rcases hq with hf | hq
 ·exact hi.frame id o b i ho hown j (h.fr ▸ hf)
 ·obtain ⟨id',o',h1,h2,h3⟩:=h.mine hq
  have:=hi.blockApart ho h2 hown h3
  subst this
  rcases h1 with ⟨h1,_⟩ | rfl
  ·exact hm h1
  ·rw [h.gt] at ho; cases ho; exact hnt _ rfl
theorem zk7(h:Left2 m q g n₀ σ σ' μ μ')(hi:Inv cx w σ μ){v:Value}{x:V}(hv:RV w σ μ v x):∀ {u:V},x.leave m σ=some u→RV w σ' μ' v u:=by
 have hst:=h.stays (w:=w)
 have list:∀ {cs:Array Value} {l r:List V},cs.size=l.length→(∀ (i:Nat) x y,cs[i]?=some x→l[i]?=some y→∀ {u:V},y.leave m σ=some u→RV w σ' μ' x u)→V.leaveL m σ l=some r →
   cs.size=r.length∧∀ (i:Nat) x y,cs[i]?=some x→r[i]?=some y→RV w σ' μ' x y:=by
  intro cs l r hl ih hr
  obtain ⟨h1,h2⟩:=zbt hr
  refine ⟨by rw [h1]; exact hl,fun i x y hx hy=>?_⟩
  obtain ⟨z,hz⟩:=yv (l:=l) (i:=i) (by rw [←h1]; exact (List.getElem?_eq_some_iff.1 hy).1)
  exact ih i x z hx hz (h2 i z y hz hy)
 induction hv with
 | d v x hd=>intro u hu; simp only [V.leave] at hu; cases hu; exact .d _ _ (hd.stays hst)
 | ptr id off b hc hb=>
  intro u hu
  simp only [V.leave] at hu
  cases hlt:Nat.blt id m <;> rw [hlt] at hu <;> cases hu
  by_cases hq:id=q
  ·subst hq; rw [h.q0] at hc; exact hc.elim
  obtain ⟨o,o',h1,h2,h3,h4⟩:=h.get id (Nat.le_of_ble_eq_true hlt) hq
  refine .ptr id off b ?_ (h4 ▸ hb)
  rw [h2]
  rw [h1] at hc
  cases o with
  | val n v=>obtain ⟨u,hu,rfl⟩:=Option.map_eq_some_iff.1 h3; trivial
  | _=>exact hc.elim
 | eptr x b o off xs hc hh=>
  intro u hu
  simp only [V.leave] at hu; cases hu
  exact .eptr x b o off xs (fun j hj=>⟨(hc j hj).1,fun ho=>(hc j hj).2.1 (h.own ho),(hc j hj).2.2⟩) (fun j c hj=>(hh j c hj).stays hst)
 | gptr g off=>intro u hu; simp only [V.leave] at hu; cases hu; exact .gptr g off
 | agg cs l hl ho _ ih=>
  intro u hu
  simp only [V.leave] at hu
  split at hu
  ·rename_i r hr
   cases hu
   obtain ⟨h1,h2⟩:=list hl ih hr
   exact zff ho ⟨by simpa using h1,fun i x y hx hy=>h2 i x y (by simpa using hx) hy⟩
  ·cases hu
 | sl v sz l id n hd ht hn he=>
  intro u hu
  simp only [V.leave] at hu
  cases hlt:Nat.blt id m <;> rw [hlt] at hu <;> cases hu
  ·exact .d _ _ (hd.stays hst)
  ·by_cases hq:id=q
   ·subst hq
    rw [h.q0] at ht; cases ht
    exact .sl v sz l id n₀ (hd.stays hst) h.q1 (by omega) fun e=>by have:=h.n0; omega
   obtain ⟨o,o',h1,h2,h3,h4⟩:=h.get id (Nat.le_of_ble_eq_true hlt) hq
   rw [ht] at h1; cases h1
   cases h3
   exact .sl v sz l id n (hd.stays hst) h2 hn fun e=>by have:=he e; unfold tail at this ⊢; rw [h4]; exact this
 | slo id sz k cap base l ho hk hcap hn he=>
  intro u hu
  simp only [V.leave,ho] at hu
  cases hlt:Nat.blt id m <;> rw [hlt] at hu
  ·rw [cond_false] at hu
   cases hkl:Nat.beq k l.length <;> rw [hkl] at hu
   ·cases hu
   ·rw [cond_true] at hu
    cases hu
    obtain rfl:=Nat.eq_of_beq_eq_true hkl
    exact .d _ _ (zks (hi.ob id _ ho) (he rfl) hcap hst fun b hb=>h.free hi (z5e hlt) ho (fun _=>by simp) (show owns μ id (.row l) b 0 from hb))
  ·cases hu
   by_cases hq:id=q
   ·subst hq; rw [h.q0] at ho; cases ho
   obtain ⟨o,o',h1,h2,h3,h4⟩:=h.get id (Nat.le_of_ble_eq_true hlt) hq
   rw [ho] at h1; cases h1
   cases h3
   exact .slo id sz k cap base l h2 hk hcap hn fun e=>by have:=he e; unfold rowAt at this ⊢; rw [h4]; exact this
 | wptr id sz k i off a l ho hk he=>
  intro u hu
  simp only [V.leave] at hu
  cases hlt:Nat.blt id m <;> rw [hlt] at hu <;> cases hu
  by_cases hq:id=q
  ·subst hq; rw [h.q0] at ho; cases ho
  obtain ⟨o,o',h1,h2,h3,h4⟩:=h.get id (Nat.le_of_ble_eq_true hlt) hq
  rw [ho] at h1; cases h1
  cases h3
  exact .wptr id sz k i off a l h2 hk fun e=>by have:=he e; unfold zxx at this ⊢; rw [h4]; exact this
 | func f cs l hl _ ih=>
  intro u hu
  simp only [V.leave] at hu
  split at hu
  ·rename_i r hr
   cases hu
   obtain ⟨h1,h2⟩:=list hl ih hr
   exact .func f cs r h1 h2
  ·cases hu
 | mfunc f cs l h=>
  intro u hu
  simp only [V.leave] at hu; cases hu
  exact .mfunc f cs l ⟨h.1,fun i x y hx hy=>(h.2 i x y hx hy).stays hst⟩
 | map id b ks vs ho hb=>
  intro u hu
  simp only [V.leave,ho] at hu
  cases hlt:Nat.blt id m <;> rw [hlt] at hu <;> cases hu
  ·obtain ⟨b',es,clock,hb',hh,hk,hv⟩:=hi.ob id _ ho
   obtain rfl:b=b':=by rw [hb] at hb'; exact Option.some.inj hb'
   have hfree:=h.free hi (z5e hlt) ho (fun _=>by simp) (show owns μ id (.map ks vs) b 0 from hb)
   refine .d _ _ (.map b es clock ks vs hh (hfree 0) (by simpa using hk.1) (by simpa using hv.1) (fun i e k he hk'=>?_) (fun i e v he hv'=>?_))
   ·exact (hk.2 i e.key k (by simp [he]) hk').stays hst
   ·exact (hv.2 i e.val v (by simp [he]) hv').stays hst
  ·by_cases hq:id=q
   ·subst hq; rw [h.q0] at ho; cases ho
   obtain ⟨o,o',h1,h2,h3,h4⟩:=h.get id (Nat.le_of_ble_eq_true hlt) hq
   rw [ho] at h1; cases h1
   cases h3
   exact .map id b ks vs h2 (h4 ▸ hb)
 | iface t v u' _ ih=>
  intro u hu
  simp only [V.leave] at hu
  split at hu
  ·rename_i r hr
   cases hu
   exact .iface t v r (ih hr)
  ·cases hu
 | tup cs l hl _ ih=>
  intro u hu
  simp only [V.leave] at hu
  split at hu
  ·rename_i r hr
   cases hu
   obtain ⟨h1,h2⟩:=list hl ih hr
   exact .tup cs r h1 h2
  ·cases hu
theorem zsj(h:Left2 m q g n₀ σ σ' μ μ')(hi:Inv cx w σ μ){v u:V}{vs:List Value}(hr:RVs w σ μ vs v.cells)(hu:v.leave m σ=some u):RVs w σ' μ' vs u.cells:=by
 by_cases hc:v.cells=[v]
 ·rw [(zk8 hu).2 hc]
  rw [hc] at hr
  refine ⟨hr.1,fun i x y hx hy=>?_⟩
  cases i with
  | zero=>
   simp at hy; subst hy
   exact zk7 h hi (hr.2 0 x v hx rfl) hu
  | succ i=>simp at hy
 ·cases v with
  | agg l=>
   simp only [V.leave] at hu
   split at hu
   ·rename_i r hl
    cases hu
    rw [zeu]
    obtain ⟨h1,h2⟩:=zbt hl
    refine ⟨by rw [h1]; exact hr.1,fun i x y hx hy=>?_⟩
    obtain ⟨z,hz⟩:=yv (l:=l) (i:=i) (by rw [←h1]; exact (List.getElem?_eq_some_iff.1 hy).1)
    exact zk7 h hi (hr.2 i x z hx hz) (h2 i z y hz hy)
   ·cases hu
  | d x=>
   simp only [V.leave] at hu
   cases hu
   refine hr.map fun v y hy hv=>?_
   cases x with
   | agg l=>
    simp only [V.cells,List.mem_map] at hy
    obtain ⟨d,_,rfl⟩:=hy
    cases hv with | d _ _ hd=>exact .d _ _ (hd.stays h.stays)
   | _=>exact (hc rfl).elim
  | _=>exact (hc rfl).elim
theorem Left2.after(h:Left2 m q g n₀ σ σ' μ μ')(hσ₀:∀ id o,zi σ₀ id=some o→id<m)(ha:After cx w₀ σ₀ μ₀ w σ μ):After cx w₀ σ₀ μ₀ w σ' μ':=by
 have hi:=ha.inv
 have hst:=h.stays (w:=w)
 have hfr:=h.fr
 refine ⟨⟨fun id o' ho'=>?_,fun id id' o o' b i ho ho' h1 h2=>?_,fun g' x hg=>?_,fun id o b i ho h1=>?_,fun b i hf=>hi.frLt b i (hfr ▸ hf),fun r es clock i hm hf=>by rw [hfr] at hf ⊢; exact hi.frMap r es clock i hm hf⟩,
  ⟨ha.goes.kept,fun b i hb hm=>ha.goes.own b i hb (let ⟨id,o,_,h1,h2⟩:=h.mine hm; ⟨id,o,h1,h2⟩),hfr.trans ha.goes.fr⟩,fun id o ho=>?_,hfr.trans ha.fr⟩
 ·by_cases hq:id=q
  ·subst hq
   rw [h.q1] at ho'; cases ho'
   intro b hb
   rw [h.mu] at hb ⊢
   exact hi.ob g _ h.gt b hb
  obtain ⟨o,q',ho,h2,hl,hmu⟩:=h.get id (h.lt id o' ho') hq
  rw [ho'] at h2; cases h2
  have hok:=hi.ob id o ho
  cases o with
  | val n v=>
   obtain ⟨u,hu,rfl⟩:=Option.map_eq_some_iff.1 hl
   obtain ⟨b,cs,el,hb,hh,hn,ht,h1,hr,htag⟩:=hok
   exact ⟨b,cs,el,hmu ▸ hb,hh,hn,zqv hu ht,h1,zsj h hi hr hu,htag⟩
  | row l=>
   cases hl
   show qb w _ (μ' id) l
   rw [hmu]
   exact qb.stays hst hok fun _ _ _=>rfl
  | tok n=>
   cases hl
   intro b hb
   rw [hmu] at hb ⊢
   exact hok b hb
  | map ks vs=>
   cases hl
   obtain ⟨b,es,clock,hb,hh,hk,hv⟩:=hok
   exact ⟨b,es,clock,hmu ▸ hb,hh,hk.stays hst,hv.stays hst⟩
 ·obtain ⟨s,p,hs,hp,hown⟩:=h.back ho h1
  obtain ⟨s',p',hs',hp',hown'⟩:=h.back ho' h2
  have:=hi.apart s s' p p' b i hp hp' hown hown'
  subst this
  have hgm:=h.gm
  rcases hs with ⟨e1,hlt,_⟩ | ⟨e1,hq⟩ <;> rcases hs' with ⟨e2,hlt',_⟩ | ⟨e2,hq'⟩
  ·exact e1.symm.trans e2
  ·exact (hgm (by rw [←e2,e1]; exact hlt)).elim
  ·exact (hgm (by rw [←e1,e2]; exact hlt')).elim
  ·rw [hq,hq']
 ·obtain ⟨xs,hc,hr⟩:=hi.glob g' x hg
  exact ⟨xs,fun j hj=>⟨(hc j hj).1,fun ho=>(hc j hj).2.1 (h.own ho),(hc j hj).2.2⟩,fun j c hj=>(hr j c hj).stays hst⟩
 ·obtain ⟨s,p,hs,hp,hown⟩:=h.back ho h1
  intro j hf
  exact hi.frame s p b i hp hown j (hfr ▸ hf)
 ·by_cases hq:id=q
  ·subst hq
   have:=ha.still id o ho
   rw [h.q0] at this
   rw [h.q1]
   have hn0:=h.n0
   cases o with
   | tok k=>
    have hk:k≤0∧_:=this
    exact ⟨by omega,fun e=>by omega⟩
   | _=>exact this
  obtain ⟨p,q',h1,h2,h3,hmu⟩:=h.get id (hσ₀ id o ho) hq
  have:=ha.still id o ho
  rw [h1] at this
  rw [h2]
  cases p with
  | val n v=>
   obtain ⟨u,hu,rfl⟩:=Option.map_eq_some_iff.1 h3
   cases o <;> simp only [y4] at this ⊢ <;> rw [hmu] <;> exact this
  | _=>cases h3; cases o <;> simp only [y4] at this ⊢ <;> first | exact this | (rw [hmu]; exact this)
end
end Go.Vai
end

/-
  Calls of functions: the whole.
  Calls of functions: the whole.
  The rows' readings are plain data.
  A law's call, from outside.
  More fuel, and what is known of calls.
  What a call answers with fuel enough.
  What comes behind an operation may be drawn into it.
  Code, with all that comes behind drawn in; and how a call is shown.
  Loops by name, and what comes behind them.
  Places in the code by name: behind some of a region's operations.
-/
import Derived.Test.YtmolcgfhgdhgoaaGreatDoorVaiPart5
import Derived.ProofKit
import Derived.OpenShut
import Derived.Deep.DeepHandedRow
import Derived.MakeChecks

set_option linter.all false
set_option linter.unusedSimpArgs false
set_option linter.unusedVariables false

section
namespace Go.Vai
section
variable {R:Type} {cx:Cx} {m nt:Nat} {w w₀:World} {σ σ' σ₀:St} {μ μ₀:Mu}
def zku(tmps:Array Value):ResultVar→Sem Value
 | .tmp t=>pure (tmps.getD t undef)
 | .cell a t=>do loadVar t (←asAddr (tmps.getD a undef))
theorem RV.isPtr{v:Value}{x:V}{t:Nat}{K:V→List Nat→Option R}{r:R}(hv:RV w σ μ v x)(h:zd8 cx σ t x K=some r):∃ a,v=.pointer (some a):=by
 unfold zd8 at h
 replace h:=(ze h).2
 cases hv with
 | ptr id off b hc hb=>exact ⟨_,rfl⟩
 | eptr x b o off xs hc hh=>exact ⟨_,rfl⟩
 | gptr g off=>exact ⟨_,rfl⟩
 | wptr=>exact ⟨_,rfl⟩
 | _=>cases h
theorem zr2(hi:Inv cx w σ μ){fr:Fr}{tmps:Array Value}(hf:FR w σ μ tmps fr):∀ (l:List ResultVar) {K:List V→Option R} {r:R},resV cx fr σ l K=some r →
  ∃ vs,K vs=some r∧∃ us,(l.mapM (zku tmps)).run cx.P w=.ok us w∧RVs w σ μ us vs
 | [],K,r,h=>⟨[],h,[],by simp,rfl,by simp⟩
 | .tmp t::l,K,r,h=>by
  simp only [resV] at h
  obtain ⟨v,hv,h⟩:=zd h
  obtain ⟨vs,hK,us,hr,h1,h2⟩:=zr2 hi hf l h
  refine ⟨v::vs,hK,tmps.getD t undef::us,?_,by simp [h1],fun i x y hx hy=>?_⟩
  ·rw [List.mapM_cons,Sem.run_bind]
   simp only [zku,Sem.run_pure,Result.andThen_ok,Sem.run_bind,hr]
  ·cases i with
   | zero=>simp only [List.getElem?_cons_zero,Option.some.injEq] at hx hy; subst hx; subst hy; exact hf t v hv
   | succ i=>exact h2 i x y (by simpa using hx) (by simpa using hy)
 | .cell a t::l,K,r,h=>by
  simp only [resV] at h
  obtain ⟨p,hp,h⟩:=zd h
  have hpr:=hf a p hp
  obtain ⟨ad,had⟩:=hpr.isPtr h
  obtain ⟨v,fp,h,v',hrun,hv⟩:=zt5 hi hpr h
  obtain ⟨vs,hK,us,hr,h1,h2⟩:=zr2 hi hf l h
  have hrun':(loadVar t ad).run cx.P w=.ok v' w:=by
   rw [had] at hrun
   simpa [Instr.loadAt,Instr.sureAddr] using hrun
  refine ⟨v::vs,hK,v'::us,?_,by simp [h1],fun i x y hx hy=>?_⟩
  ·rw [List.mapM_cons,Sem.run_bind]
   simp only [zku,Sem.run_bind,had,asAddr,Sem.run_pure,Result.andThen_ok,hrun',hr]
  ·cases i with
   | zero=>simp at hx hy; subst hx; subst hy; exact hv
   | succ i=>exact h2 i x y (by simpa using hx) (by simpa using hy)
def zit:List Value→Value
 | [v]=>v
 | us=>.tuple us.toArray
theorem zlw{fn:Func}{tmps:Array Value}{P:Program}{us:List Value}(h:(fn.results.toList.mapM (zku tmps)).run P w=.ok us w) :
  (results fn tmps).run P w=.ok (zit us) w:=by
 have e:results fn tmps=(fn.results.mapM (zku tmps) >>= fun vs=>pure (if h:vs.size=1 then vs[0] else .tuple vs)):=by
  unfold results
  congr 1
 have h':(fn.results.mapM (zku tmps)).run P w=.ok us.toArray w:=by
  rw [Array.mapM_eq_mapM_toList,Sem.run_map,h]; rfl
 rw [e,Sem.run_bind,h',Result.andThen_ok]
 match us with
 | []=>simp [zit]
 | [v]=>simp [zit]
 | v::u::us=>simp [zit]
theorem zly{us:List Value}{vs:List V}(h:RVs w σ μ us vs):RV w σ μ (zit us) (zha vs):=by
 have tup:RV w σ μ (.tuple us.toArray) (.tup vs):=.tup _ _ (by simpa using h.1) fun i x y hx hy=>h.2 i x y (by simpa using hx) hy
 match us,vs,h.1 with
 | [],[],_=>exact tup
 | [u],[v],_=>exact h.2 0 u v rfl rfl
 | _::_::_,_::_::_,_=>exact tup
theorem ze5:∀ (k:Nat) (l:List V) (t:Nat) (v:V),zi (zat k l) t=some v→∃ i,t=k+i∧l[i]?=some v
 | _,[],_,_,h=>by cases h
 | k,u::l,t,v,h=>by
  simp only [zat,zi] at h
  cases hb:Nat.beq k t <;> rw [hb] at h
  ·obtain ⟨i,h1,h2⟩:=ze5 (k+1) l t v h
   exact ⟨i+1,by omega,by simpa using h2⟩
  ·obtain rfl:=Nat.eq_of_beq_eq_true hb
   cases h
   exact ⟨0,rfl,rfl⟩
def Fin(cx:Cx)(w:World)(σ:St)(μ:Mu)(out:Out)(σ':St):Ending→World→Prop:=fun e w'=>
 ((∀ k o,zi σ' k=some o→k<σ.length∧∀ i∈o.ids,i<σ.length)∧(∀ i∈(match out with | .ret v=>v.ids | .pan v=>v.ids),i<σ.length)) ∧
 ∃ μ',After cx w σ μ w' σ' μ' ∧
  match out,e with
  | .ret v,.returned x=>RV w' σ' μ' x v
  | .pan v,.panicked chain=>∃ x,chain=[{ v:=x,recovered:=false }]∧RV w' σ' μ' x v
  | _,_=>False
theorem znx(hσ₀:∀ id o,zi σ id=some o→id<σ.length){w₁:World}{τ:St}{μ₁:Mu}(haf:After cx w σ μ w₁ τ μ₁){v u:V}{τ':St}(hu:v.leave σ.length τ=some u)(hτ:zao σ.length τ (List.range σ.length)=some τ') :
  (∀ k o,zi τ' k=some o→k<σ.length∧∀ i∈o.ids,i<σ.length)∧(∀ i∈u.ids,i<σ.length)∧After cx w σ μ w₁ τ' μ₁∧∀ x,RV w₁ τ μ₁ x v→RV w₁ τ' μ₁ x u:=by
 have hl:=Left.of hτ
 refine ⟨fun k o ho=>?_,V.leave_ids _ _ _ _ hu,hl.after hσ₀ haf,fun x hx=>zny hl haf.inv hx hu⟩
 obtain ⟨p,_,hp,hlt⟩:=hl.back ho
 exact ⟨hlt,zl0 hp⟩
theorem zhy(hσ₀:∀ id o,zi σ id=some o→id<σ.length){w₁:World}{τ:St}{μ₁:Mu}{out:Out}{us:List Value}{vs:List V}(haf:After cx w σ μ w₁ τ μ₁)(hrvs:RVs w₁ τ μ₁ us vs)
  (h:zfd σ.length τ vs=some (out,σ')):Fin cx w σ μ out σ' (.returned (zit us)) w₁:=by
 unfold zfd at h
 split at h
 ·rename_i u τ' hu hτ
  cases h
  obtain ⟨g1,g2,g3,g4⟩:=znx hσ₀ haf hu hτ
  exact ⟨⟨g1,g2⟩,μ₁,g3,g4 _ (zly hrvs)⟩
 ·cases h
theorem zr9{l:List V}:∀ i∈(zha l).ids,i∈V.idsL l:=by
 intro i hi
 match l with
 | []=>exact hi
 | [v]=>simp only [zha] at hi; simpa [V.idsL] using hi
 | v::u::l=>exact hi
theorem z2g(hσ₀:∀ id o,zi σ id=some o→id<σ.length){w₁:World}{τ:St}{μ₁:Mu}{out:Out}{us:List Value}{vs:List V}(haf:After cx w σ μ w₁ τ μ₁)(hrvs:RVs w₁ τ μ₁ us vs)
  (h:zso σ.length τ vs=some (out,σ')):Fin cx w σ μ out σ' (.returned (zit us)) w₁:=by
 unfold zso at h
 split at h
 ·rename_i sz l g rest
  split at h
  ·rename_i n hg hq
   cases hc:(Nat.ble σ.length g&&Nat.blt 0 σ.length&&decide (n=l.length)&&Nat.blt 0 n) <;> rw [hc] at h
   ·exact zhy hσ₀ haf hrvs h
   rw [cond_true] at h
   simp only [Bool.and_eq_true,decide_eq_true_eq] at hc
   obtain ⟨⟨⟨h1,h2⟩,h3⟩,h4⟩:=hc
   have hgm : ¬ g<σ.length:=by have:σ.length≤g:=Nat.le_of_ble_eq_true h1; omega
   have hm:0<σ.length:=by simpa using h2
   have hn:0<n:=by simpa using h4
   split at h
   ·rename_i r s hr hs
    cases h
    have hl:=Left.of hs
    have hl2:=Left2.of hl (show σ.length - 1<σ.length by omega) hgm hq hg hn (μ:=μ₁)
    obtain ⟨k1,k2⟩:=zbt hr
    refine ⟨⟨fun k o ho=>?_,fun i hi=>?_⟩,_,hl2.after hσ₀ haf,?_⟩
    ·rw [zp] at ho
     by_cases e:σ.length - 1=k
     ·rw [if_pos e] at ho; cases ho
      exact ⟨by omega,by simp [Ob.ids]⟩
     ·rw [if_neg e] at ho
      obtain ⟨p,_,hp,hlt⟩:=hl.back ho
      exact ⟨hlt,zl0 hp⟩
    ·have:=zr9 i hi
     simp only [V.idsL,V.ids,List.mem_append,List.mem_singleton] at this
     rcases this with rfl | h
     ·omega
     ·exact V.leaveL_ids _ _ _ _ hr i h
    ·refine zly ⟨?_,fun i x y hx hy=>?_⟩
     ·have:=hrvs.1
      simp only [List.length_cons] at this ⊢
      rw [k1]; exact this
     ·cases i with
      | zero=>
       have h0:=hrvs.2 0 x _ hx rfl
       simp only [List.getElem?_cons_zero,Option.some.injEq] at hy
       subst hy
       cases h0 with
       | sl _ _ _ _ n' hd ht hn' he=>
        rw [hg] at ht; cases ht
        refine .sl _ _ _ _ n (hd.stays hl2.stays) hl2.q1 hn' fun e=>?_
        have:=he e
        unfold tail at this ⊢
        rw [hl2.mu]
        exact this
      | succ i=>
       simp only [List.getElem?_cons_succ] at hy
       obtain ⟨z,hz⟩:=yv (l:=rest) (i:=i) (by rw [←k1]; exact (List.getElem?_eq_some_iff.1 hy).1)
       exact zk7 hl2 haf.inv (hrvs.2 (i+1) x z hx (by simpa using hz)) (k2 i z y hz hy)
   ·cases h
  ·exact zhy hσ₀ haf hrvs h
 ·exact zhy hσ₀ haf hrvs h
theorem zst(hσ₀:∀ id o,zi σ id=some o→id<σ.length){w₁:World}{τ:St}{μ₁:Mu}{fn:Func}{f:Nat}{tmps:Array Value}{fr:Fr}{out:Out}(haf:After cx w σ μ w₁ τ μ₁)(hf:FR w₁ τ μ₁ tmps fr)
  (h:zkf cx f σ.length fn.results.toList .ret fr τ=some (out,σ')):∃ v,(results fn tmps).run cx.P w₁=.ok v w₁∧Fin cx w σ μ out σ' (.returned v) w₁:=by
 simp only [zkf] at h
 obtain ⟨vs,h,us,hr,hrvs⟩:=zr2 haf.inv hf _ h
 refine ⟨_,zlw hr,?_⟩
 cases hg:cx.gives f <;> rw [hg] at h
 ·exact zhy hσ₀ haf hrvs h
 ·exact z2g hσ₀ haf hrvs h
theorem zsu(hσ₀:∀ id o,zi σ id=some o→id<σ.length){w₁:World}{τ:St}{μ₁:Mu}{fn:Func}{f:Nat}{a:Act}{fr:Fr}{out:Out}{e:Ex}{x:Exit}(hx:zgy w₁ τ μ₁ e x)(hnow:Now cx nt [] w σ μ a w₁ τ μ₁ fr)
  (h:zkf cx f σ.length fn.results.toList e fr τ=some (out,σ')):bodyPostD cx.P fn (Fin cx w σ μ out σ') x a w₁:=by
 cases e with
 | normal=>
  cases x <;> first | exact hx.elim | skip
  show Leaves _ _ _ _ a.defers _ _
  rw [hnow.defers]
  exact zst (f:=f) hσ₀ hnow.after hnow.fr h
 | ret=>
  cases x <;> first | exact hx.elim | skip
  show Leaves _ _ _ _ a.defers _ _
  rw [hnow.defers]
  exact zst (f:=f) hσ₀ hnow.after hnow.fr h
 | pan v=>
  cases x <;> first | exact hx.elim | skip
  show Leaves _ _ _ _ a.defers _ _
  rw [hnow.defers]
  simp only [zkf] at h
  split at h
  ·rename_i u τ' hu hτ
   cases h
   obtain ⟨g1,g2,g3,g4⟩:=znx hσ₀ hnow.after hu hτ
   obtain ⟨y,hy,hr⟩:=hx
   exact ⟨⟨g1,g2⟩,μ₁,g3,y,hy,g4 y hr⟩
  ·cases h
 | _=>cases h
theorem zyr{P:Program}{o:Oper}{a:Act}{next next':Act→World→Prop}{Q:Exit→Act→World→Prop}(h:∀ a w,next a w→next' a w){r:Result Next}(hr:o.upon P a next Q r):o.upon P a next' Q r:=by
 unfold Oper.upon at hr ⊢
 split at hr
 ·exact h _ _ hr
 ·exact h _ _ hr
 ·exact h _ _ hr
 ·refine Calls.mono hr fun e w he=>?_
  cases e with
  | returned v=>exact h _ _ he
  | panicked ch=>exact he
  | outgrown=>exact he
 ·exact Rows.mono hr fun v w he=>h _ _ he
 ·exact hr
 ·exact hr.elim
theorem zhs{P:Program}{ops:Array Oper}{Q:Exit→Act→List Frame→World→Prop}{cs:List Frame}(hout : ¬ LetsOut fun e a w=>Q e a cs w) :
  ∀ (l:List Nat) (a:Act) (w:World),wpOps P ops (fun e a w=>Q e a cs w) l a w→wpOpsS P ops Q l a cs w
 | [],a,w,h=>h
 | i::l,a,w,h=>by
  simp only [wpOps] at h
  simp only [wpOpsS]
  cases ho:ops[i]? with
  | none=>
   simp only [ho] at h ⊢
   exact zhs hout l a w h
  | some o=>
   simp only [ho] at h ⊢
   by_cases hw:Region.wanted o (yielded ops a.tmps)=true
   ·rw [if_pos hw] at h ⊢
    rcases h with h | ⟨_,h⟩
    ·unfold Oper.wp at h
     split
     ·rename_i w' hr
      rw [hr] at h
      exact h.elim
     ·exact zyr (fun a w h=>zhs hout l a w h) h
    ·exact (hout h).elim
   ·rw [if_neg hw] at h ⊢
    exact zhs hout l _ w h
theorem zpl{o:Oper}{t:Nat}(h:zjq o=some t):∃ ty pos aft,o=⟨some t,.call ⟨.builtin .recover,#[],#[]⟩,ty,pos,aft,none⟩:=by
 obtain ⟨dst,op,ty,pos,aft,guard⟩:=o
 unfold zjq at h
 cases op <;> first | (cases h; done) | skip
 rename_i c
 obtain ⟨callee,args,tys⟩:=c
 cases callee <;> first | (cases h; done) | skip
 rename_i b
 cases b <;> first | (cases h; done) | skip
 simp only at h
 cases hc:(args.isEmpty&&tys.isEmpty&&guard.isNone) <;> rw [hc] at h
 ·cases h
 ·simp only [Bool.and_eq_true,Option.isNone_iff_eq_none] at hc
  obtain ⟨⟨h1,h2⟩,h3⟩:=hc
  have h1':args = #[]:=by simpa using h1
  have h2':tys = #[]:=by simpa using h2
  subst h1' h2' h3
  have h':dst=some t:=h
  subst h'
  exact ⟨_,_,_,rfl⟩
theorem zr3{o:Oper}{t:Nat}(h:zhx o=some t):∃ ty pos aft,o=⟨none,.defer ⟨.value (.tmp t),#[],#[]⟩,ty,pos,aft,none⟩:=by
 obtain ⟨dst,op,ty,pos,aft,guard⟩:=o
 unfold zhx at h
 cases op <;> first | (cases h; done) | skip
 rename_i c
 obtain ⟨callee,args,tys⟩:=c
 cases callee <;> first | (cases h; done) | skip
 rename_i x
 cases x <;> first | (cases h; done) | skip
 rename_i t'
 simp only at h
 cases hc:(args.isEmpty&&tys.isEmpty&&guard.isNone&&dst.isNone) <;> rw [hc] at h
 ·cases h
 ·simp only [Bool.and_eq_true,Option.isNone_iff_eq_none] at hc
  obtain ⟨⟨⟨h1,h2⟩,h3⟩,h4⟩:=hc
  have h1':args = #[]:=by simpa using h1
  have h2':tys = #[]:=by simpa using h2
  subst h1' h2' h3 h4
  cases h
  exact ⟨_,_,_,rfl⟩
def zmy(w:World)(own:Own)(u:Option D)(m:FrameMode):Prop:=
 match u with
 | none=>m=.returning
 | some x=>∃ v,m=.panicking [{ v:=v,recovered:=false }]∧RD w own v x
theorem z2n{call:Nat→List V→St→Option (Out×St)}(hcall:zad cx call)(hn:xc cx.P)(hmix:cx.P.follows .mixedOrders=true){n g:Nat}{args:List V}{u:Option D}{m:FrameMode}{vs:List Value}
  (h:zca cx call n g args σ u=some σ') (hi:Inv cx w σ μ) (hcan:Canon σ) (hall:RVs w σ μ vs args) (hm:zmy w (zr σ μ) u m) :
  (∃ fn,cx.P.funcs[g]?=some fn∧fn.body.isNone=false)∧(∀ k o,zi σ' k=some o→k<σ.length∧∀ i∈o.ids,i<σ.length) ∧
  CallsD cx.P g vs.toArray m w fun e m' w'=>(∃ v,e=.returned v)∧settle m'=.returning∧∃ μ',After cx w σ μ w' σ' μ':=by
 have hσ₀:∀ id o,zi σ id=some o→id<σ.length:=fun id o ho=>(hcan id o ho).1
 unfold zca at h
 split at h
 ·cases h
 rename_i fn hfn
 split at h
 case h_2=>cases h
 rename_i id ops c hb
 split at h
 case h_2=>cases h
 rename_i o r hops
 obtain ⟨t,hrc,h1⟩:=zd h
 clear h
 obtain ⟨hc,hev⟩:=ze h1
 clear h1
 obtain ⟨ty,pos,aft,rfl⟩:=zpl hrc
 rw [Bool.and_eq_true] at hc
 have ht:t<fn.ntmps:=Nat.le_of_ble_eq_true hc.1
 have hres:fn.results = #[]:=by simpa using hc.2
 let facts:Prop:=∀ k o,zi σ' k=some o→k<σ.length∧∀ i∈o.ids,i<σ.length
 have hrun:CallsD cx.P g vs.toArray m w fun e m' w'=>facts∧(∃ v,e=.returned v)∧settle m'=.returning∧∃ μ',After cx w σ μ w' σ' μ':=by
  refine callsD_of_wpS hfn hb fun c₀ cs hmode=>?_
  have hsize:ops.size=r.length+1:=by rw [←Array.length_toList,hops]; rfl
  have ho:ops[0]?=some ⟨some t,.call ⟨.builtin .recover,#[],#[]⟩,ty,pos,aft,none⟩:=by
   rw [←Array.getElem?_toList,hops]; rfl
  refine wpS_seq (wpS_region ?_)
  rw [show List.range ops.size=0::(List.range ops.size).drop 1 by rw [hsize,List.range_succ_eq_map]; rfl]
  simp only [wpOpsS,ho]
  rw [if_pos (by simp [Region.wanted])]
  have hrec:(execOp ({ tmps:=vs.toArray++Array.replicate (fn.ntmps - vs.toArray.size) undef,defers:=[] }:Act).eval ⟨some t,.call ⟨.builtin .recover,#[],#[]⟩,ty,pos,aft,none⟩).run cx.P w=.ok .recover w:=by
   simp [execOp,resolve,invoke,builtin,Sem.run_bind]
  rw [hrec]
  -- behind the recovery
  have behind:∀ (m':FrameMode) (v:Value),settle m'=.returning→RV w σ μ v (.d (z6s u)) →
    wpOpsS cx.P ops (Exit.thenS (c.wpS cx.P (bodyPostS cx.P fn c₀ cs fun e m' w'=>facts∧(∃ v,e=.returned v)∧settle m'=.returning∧∃ μ',After cx w σ μ w' σ' μ'))
     (bodyPostS cx.P fn c₀ cs fun e m' w'=>facts∧(∃ v,e=.returned v)∧settle m'=.returning∧∃ μ',After cx w σ μ w' σ' μ')) ((List.range ops.size).drop 1)
     (({ tmps:=vs.toArray++Array.replicate (fn.ntmps - vs.toArray.size) undef,defers:=[] }:Act).put (some t) v) ({ c₀ with mode:=m' }::cs) w:=by
   intro m' v hset hv
   -- the end
   have fin:∀ (e:Ex) (fr:Fr) (τ:St),(match e with | .normal | .ret=>zao σ.length τ (List.range σ.length) | _=>none)=some σ'→∀ (x:Exit) (a:Act) (w₁:World) (μ₁:Mu),zgy w₁ τ μ₁ e x →
     Now cx fn.ntmps [] w σ μ a w₁ τ μ₁ fr→bodyPostS cx.P fn c₀ cs (fun e m' w'=>facts∧(∃ v,e=.returned v)∧settle m'=.returning∧∃ μ',After cx w σ μ w' σ' μ') x a ({ c₀ with mode:=m' }::cs) w₁:=by
    intro e fr τ h x a w₁ μ₁ hx hnow
    have ret:zao σ.length τ (List.range σ.length)=some σ'→a.defers=[]∧∃ u',({ c₀ with mode:=m' }:Frame)::cs = { c₀ with mode:=u' }::cs∧∃ v,(results fn a.tmps).run cx.P w₁=.ok v w₁ ∧
      (facts∧(∃ q,Ending.returned v=.returned q)∧settle u'=.returning∧∃ μ',After cx w σ μ w₁ σ' μ'):=by
     intro h
     obtain ⟨g1,_,g3,_⟩:=znx hσ₀ hnow.after (v:=.tup []) (u:=.tup []) (by rfl) h
     exact ⟨hnow.defers,m',rfl,_,zlw (us:=[]) (by rw [hres]; simp),g1,⟨_,rfl⟩,hset,μ₁,g3⟩
    cases e with
    | normal=>cases x <;> first | exact hx.elim | exact ret h
    | ret=>cases x <;> first | exact hx.elim | exact ret h
    | _=>cases h
   refine zhs ?_ _ _ _ ?_
   ·rintro ⟨a',w',u',_,⟨q,hq⟩,_⟩
    cases hq
   ·have key:=zga (cx:=cx) (nt:=fn.ntmps) (ds:=[]) (w₀:=w) (σ₀:=σ) (μ₀:=μ) (m:=σ.length) hcall hn (arr:=ops) (tl:=[]) (r:=σ')
     (Q:=fun e a wq=>Exit.thenS (c.wpS cx.P (bodyPostS cx.P fn c₀ cs fun e m' w'=>facts∧(∃ v,e=.returned v)∧settle m'=.returning∧∃ μ',After cx w σ μ w' σ' μ'))
      (bodyPostS cx.P fn c₀ cs fun e m' w'=>facts∧(∃ v,e=.returned v)∧settle m'=.returning∧∃ μ',After cx w σ μ w' σ' μ') e a ({ c₀ with mode:=m' }::cs) wq)
     ?_ ?_ r 1 (by rw [hops]; simp) _ _ hev (({ tmps:=vs.toArray++Array.replicate (fn.ntmps - vs.toArray.size) undef,defers:=[] }:Act).put (some t) v) w μ ?_
    ·exact key
    ·intro fr τ h a w₁ μ₁ hnow i hi
     have:ops.size≤i:=by have:=congrArg List.length hi; simp at this; omega
     rw [List.drop_eq_nil_of_le (by simpa using this)]
     show c.wpS _ _ _ _ _
     exact wpS_of_wp (zlf (w₀:=w) (μ₀:=μ) hcall hn hmix hσ₀ c h (fun e fr τ hK x a w₂ μ₂ hx hnow=>fin e fr τ hK x a w₂ μ₂ hx hnow) hnow)
    ·intro v fr τ h; cases h
    ·refine ⟨After.refl hi,?_,?_,rfl⟩
     ·have base:FR w σ μ (vs.toArray++Array.replicate (fn.ntmps - vs.toArray.size) undef) (zat 0 args):=by
       intro s q hs
       obtain ⟨i,rfl,hq⟩:=ze5 0 args s q hs
       rw [Nat.zero_add]
       have hlt:i<vs.length:=by rw [hall.1]; exact (List.getElem?_eq_some_iff.1 hq).1
       have:(vs.toArray++Array.replicate (fn.ntmps - vs.toArray.size) undef).getD i undef=vs[i]:=by
        simp [Array.getD_eq_getD_getElem?,Array.getElem?_append,hlt]
       rw [this]
       exact hall.2 i _ q (by simp) hq
      exact FR.put (dst:=some t) (nt:=fn.ntmps) (a:={ tmps:=vs.toArray++Array.replicate (fn.ntmps - vs.toArray.size) undef,defers:=[] }) base hc.1 (by simp; omega) hv
     ·rw [qf]; simp; omega
  cases u with
  | none=>
   have hmr:c₀.mode=.returning:=hmode.trans hm
   simp only [recoverD,hmr]
   have:=behind .returning .nilIface rfl (.d _ _ .nilIface)
   rw [show ({ c₀ with mode:=.returning }:Frame)=c₀ by cases c₀; simp only at hmr; rw [hmr]] at this
   exact this
  | some x=>
   obtain ⟨v,hmv,hv⟩:=hm
   have hmr:c₀.mode=.panicking [{ v:=v,recovered:=false }]:=hmode.trans hmv
   simp only [recoverD,hmr]
   exact behind _ v (by simp [settle]) (.d _ _ hv)
 obtain ⟨e,u',w',fr,⟨hfacts,_⟩,_⟩:=hrun { (default:Frame) with mode:=m } [] rfl
 exact ⟨⟨fn,hfn,by rw [hb]; rfl⟩,hfacts,hrun.mono fun e u' w' h=>h.2⟩
end
end Go.Vai
end

section
namespace Go.Vai
section
variable {R:Type} {cx:Cx} {m nt:Nat} {w w₀:World} {σ σ' σ₀:St} {μ μ₀:Mu}
theorem z3d{call:Nat→List V→St→Option (Out×St)}(hcall:zad cx call)(hn:xc cx.P)(hmix:cx.P.follows .mixedOrders=true){n g:Nat}{cap:List V}{u:Option D}{um:FrameMode}{vs:List Value}
  {K:De→Option R} {r:R} (h:zhk cx (zca cx call n) σ g cap u K=some r) (hi:Inv cx w σ μ) (hv:RVs w σ μ vs cap) (hm:zmy w (zr σ μ) u um) :
  ∃ δ,K δ=some r∧(∃ fn,cx.P.funcs[g]?=some fn∧fn.body.isNone=false) ∧
   CallsD cx.P g vs.toArray um w fun e m' w'=>(∃ v,e=.returned v)∧settle m'=.returning∧∃ μ',After cx w σ μ w' (zf σ δ) μ':=by
 unfold zhk at h
 simp only at h
 generalize hren:qa σ 1000 (V.idsL cap) []=ren at h
 obtain ⟨hc,h⟩:=ze h
 obtain ⟨hnd,hargs,hcl⟩:=ze9 hc
 obtain ⟨hlen,hinv,hcanon,hvs,hargs',hfull,hown⟩:=zyk hi hv hnd hargs hcl
 split at h
 case h_2=>cases h
 rename_i σ' hrec
 obtain ⟨hfn,hσ',hrun⟩:=z2n hcall hn hmix hrec hinv hcanon hvs (by rw [hown]; exact hm)
 rw [hlen] at hσ'
 obtain ⟨δ,h1,h2,h3⟩:=zd2 ren 0 h
 refine ⟨δ,h1,hfn,hrun.mono fun e m' w' ⟨he,hs,μ1,haf⟩=>⟨he,hs,_,(zvd hi hnd hcl h2 h3 hσ' haf).1⟩⟩
theorem z47{call:Nat→List V→St→Option (Out×St)}(hcall:zad cx call)(hn:xc cx.P)(hmix:cx.P.follows .mixedOrders=true)(hσ₀:∀ id o,zi σ id=some o→id<σ.length)
  {n g f:Nat} {cap:List V} {cs:Array Value} {fn:Func} {a:Act} {fr:Fr} {τ:St} {w₁:World} {μ₁:Mu} {out:Out} {e:Ex} {x:Exit} (hx:zgy w₁ τ μ₁ e x)
  (haf:After cx w σ μ w₁ τ μ₁) (hf:FR w₁ τ μ₁ a.tmps fr) (hd:a.defers=[{ target:=.fn (.func g) cs,args:=#[] }]) (hcap:RVs w₁ τ μ₁ cs.toList cap)
  (h:zpw cx (zca cx call n) f σ.length fn.results.toList g cap e fr τ=some (out,σ')):bodyPostD cx.P fn (Fin cx w σ μ out σ') x a w₁:=by
 have go:∀ (u:Option D) (um:FrameMode),um ≠ .run→zmy w₁ (zr τ μ₁) u um→zhk cx (zca cx call n) τ g cap u (fun δ=>zkf cx f σ.length fn.results.toList .ret fr (zf τ δ))=some (out,σ') →
   Leaves cx.P fn a.tmps (Fin cx w σ μ out σ') a.defers um w₁:=by
  intro u um hum hu h
  obtain ⟨δ,hK,⟨fn',hfn,hbody⟩,hcalls⟩:=z3d hcall hn hmix h haf.inv hcap hu
  rw [hd]
  refine leaves_cons (f:=g) (args:=(#[]++cs)) hum ?_ ?_
  ·show (callFunc g (#[]++cs)).run cx.P w₁=_
   exact zfz hn hfn hbody
  ·rw [show (#[]++cs)=cs.toList.toArray by simp]
   refine hcalls.mono fun e m' w' ⟨⟨v,he⟩,hs,μ',haf'⟩=>?_
   subst he
   show Leaves _ _ _ _ [] (settle m') w'
   rw [hs]
   exact zst hσ₀ (haf.trans haf') (haf'.frs haf.inv hf) hK
 unfold zpw at h
 split at h
 ·cases x <;> first | exact hx.elim | exact go none .returning (by simp) rfl h
 ·cases x <;> first | exact hx.elim | exact go none .returning (by simp) rfl h
 ·rename_i t y
  cases x <;> first | exact hx.elim | skip
  rename_i chain
  obtain ⟨v,rfl,hv⟩:=hx
  cases hv with | d _ _ hv=>?_
  exact go (some (.iface t y)) (.panicking [{ v:=v,recovered:=false }]) (by simp) ⟨v,rfl,hv⟩ h
 ·cases h
theorem ztn:∀ (c:Code) {as:List Code} {id:Nat} {ops:Array Oper} {t:Nat} {b:Code},zfu c=some (as,id,ops,t,b) →
  (∃ o,ops.toList.getLast?=some o∧zhx o=some t)∧c=as.foldr Code.seq (.seq (.region id ops false) b):=by
 intro c
 induction c with
 | seq x y ihx ihy=>
  intro as id ops t b h
  have other:(match zfu y with | some (l,q)=>some (x::l,q) | none=>none)=some (as,id,ops,t,b) →
    (∃ o,ops.toList.getLast?=some o∧zhx o=some t)∧Code.seq x y=as.foldr Code.seq (.seq (.region id ops false) b):=by
   intro h
   cases hs:zfu y with
   | none=>rw [hs] at h; cases h
   | some p=>
    obtain ⟨l,id',ops',t',b'⟩:=p
    rw [hs] at h
    cases h
    have ih:=ihy hs
    exact ⟨ih.1,by rw [List.foldr_cons,←ih.2]⟩
  cases x with
  | region id' ops' draw=>
   cases draw with
   | true=>exact other h
   | false=>
    simp only [zfu] at h
    cases hl:ops'.toList.getLast? with
    | none=>rw [hl] at h; exact other h
    | some o=>
     rw [hl] at h
     simp only at h
     cases hp:zhx o with
     | none=>rw [hp] at h; exact other h
     | some t'=>rw [hp] at h; cases h; exact ⟨⟨o,hl,hp⟩,rfl⟩
  | _=>exact other h
 | _=>intro as id ops t b h; cases h
theorem zuv{call:Nat→List V→St→Option (Out×St)}(hcall:zad cx call)(hn:xc cx.P)(hmix:cx.P.follows .mixedOrders=true)(hσ₀:∀ id o,zi σ₀ id=some o→id<m){f n:Nat}{ds:List Deferred}{tl:Code}
  {K:Ex→Fr→St→Option R} {r:R} {Q:Exit→Act→World→Prop}
  (hN:∀ fr σ,K .normal fr σ=some r→∀ a w μ,Now cx nt ds w₀ σ₀ μ₀ a w σ μ fr→tl.wp cx.P Q a w)
  (hQ:∀ e fr σ,e ≠ .normal→K e fr σ=some r→∀ x a w μ,zgy w σ μ e x→Now cx nt ds w₀ σ₀ μ₀ a w σ μ fr→Q x a w) :
  ∀ (as:List Code) {fr:Fr} {σ:St},zgz cx f m nt call n as fr σ K=some r→∀ {a w μ},Now cx nt ds w₀ σ₀ μ₀ a w σ μ fr→(as.foldr Code.seq tl).wp cx.P Q a w
 | [],fr,σ,h,a,w,μ,hnow=>hN _ _ h _ _ _ hnow
 | c::as,fr,σ,h,a,w,μ,hnow=>by
  simp only [zgz] at h
  refine wp_seq (zlf hcall hn hmix hσ₀ c h (fun e fr σ hK x a w μ hx hnow=>?_) hnow)
  cases e with
  | normal=>cases x <;> first | exact zuv hcall hn hmix hσ₀ hN hQ as hK hnow | exact hx.elim
  | exit i=>cases x <;> first | exact hQ _ _ _ (by simp) hK _ _ _ μ hx hnow | exact hx.elim
  | goto l=>cases x <;> first | exact hQ _ _ _ (by simp) hK _ _ _ μ hx hnow | exact hx.elim
  | ret=>cases x <;> first | exact hQ _ _ _ (by simp) hK _ _ _ μ hx hnow | exact hx.elim
  | pan v=>cases x <;> first | exact hQ _ _ _ (by simp) hK _ _ _ μ hx hnow | exact hx.elim
theorem z2p{call:Nat→List V→St→Option (Out×St)}(hcall:zad cx call)(hn:xc cx.P)(hmix:cx.P.follows .mixedOrders=true)(hσ₀:∀ id o,zi σ id=some o→id<σ.length)
  {n f:Nat} {fn:Func} {c:Code} {fr:Fr} {a:Act} {out:Out} (hnow:Now cx fn.ntmps [] w σ μ a w σ μ fr)
  (h:zhh cx f σ.length fn.ntmps fn.results.toList call n c fr σ=some (out,σ')):c.wp cx.P (bodyPostD cx.P fn (Fin cx w σ μ out σ')) a w:=by
 unfold zhh at h
 split at h
 ·cases h
 rename_i as id ops t b hsp
 obtain ⟨⟨o,hl,hp⟩,rfl⟩:=ztn c hsp
 obtain ⟨ty,pos,aft,rfl⟩:=zr3 hp
 refine zuv hcall hn hmix hσ₀ (fun fr τ hK a w₁ μ₁ hnow=>?_) (fun e fr τ he hK x a w₁ μ₁ hx hnow=>?_) as h hnow
 ·simp only at hK
  have hne:ops.toList ≠ []:=by intro e; rw [e] at hl; cases hl
  have hops:ops.toList=ops.toList.dropLast++[⟨none,.defer ⟨.value (.tmp t),#[],#[]⟩,ty,pos,aft,none⟩]:=by
   have h1:=List.dropLast_concat_getLast hne
   rw [List.getLast?_eq_some_getLast hne] at hl
   rw [Option.some.inj hl] at h1
   exact h1.symm
  refine wp_seq (wp_region ?_)
  have key:=zga (cx:=cx) (nt:=fn.ntmps) (ds:=[]) (w₀:=w) (σ₀:=σ) (μ₀:=μ) (m:=σ.length) hcall hn (arr:=ops) (tl:=[⟨none,.defer ⟨.value (.tmp t),#[],#[]⟩,ty,pos,aft,none⟩])
   (Q:=Exit.then (b.wp cx.P (bodyPostD cx.P fn (Fin cx w σ μ out σ'))) (bodyPostD cx.P fn (Fin cx w σ μ out σ'))) ?_ ?_ ops.toList.dropLast 0 (by rw [List.drop_zero]; exact hops) fr τ hK a w₁ μ₁ hnow
  ·simpa using key
  ·intro fr τ hK a w₁ μ₁ hnow i hi
   simp only at hK
   obtain ⟨fv,hfv,hK⟩:=zd hK
   split at hK
   case h_2=>cases hK
   rename_i g cap
   obtain ⟨htidy,hK⟩:=ze hK
   have hsize:ops.size=i+1:=by have:=congrArg List.length hi; simp at this; omega
   have ho:ops[i]?=some ⟨none,.defer ⟨.value (.tmp t),#[],#[]⟩,ty,pos,aft,none⟩:=by
    have:=congrArg (·[0]?) hi
    simpa using this
   rw [show (List.range ops.size).drop i=[i] by rw [hsize,List.drop_eq_getElem_cons (by simp)]; simp]
   simp only [wpOps,ho]
   rw [if_pos (by simp [Region.wanted])]
   left
   have hr:=hnow.fr t _ hfv
   generalize hq:a.tmps.getD t undef=q at hr
   cases hr with | func _ cs _ hcl hch=>?_
   have hrun:(execOp a.eval ⟨none,.defer ⟨.value (.tmp t),#[],#[]⟩,ty,pos,aft,none⟩).run cx.P w₁=.ok (.defer { target:=.fn (.func g) cs,args:=#[] }) w₁:=by
    have he:a.eval (.tmp t)=.func (.func g) #[] cs:=by simpa [Act.eval] using hq
    simp only [execOp,resolve,he,Deferred.ofValue]
    simp [Sem.run_bind]
   unfold Oper.wp
   rw [hrun,Oper.upon_defer]
   have hcap:RVs w₁ τ μ₁ cs.toList cap:=⟨by simpa using hcl,fun i x y hx hy=>hch i x y (by simpa using hx) hy⟩
   have hinv:=hnow.after.inv
   refine zoc (w₀:=w₁) (σ₀:=τ) (μ₀:=μ₁) (ds:=[{ target:=.fn (.func g) cs,args:=#[] }]) (nt:=fn.ntmps) hcall hn hmix b (fun ht=>by rw [ht] at htidy; cases htidy) hK (fun e fr τ' hK x a w₂ μ₂ hx hnow'=>?_) (μ:=μ₁)
    ⟨After.refl hinv,hnow.fr,hnow.size,by show _::a.defers=_; rw [hnow.defers]⟩
   exact z47 hcall hn hmix hσ₀ hx (hnow.after.trans hnow'.after) hnow'.fr hnow'.defers (hcap.map fun v x _ hv=>hnow'.after.rv hinv hv) hK
  ·intro v fr τ hK x a w₁ μ₁ hx hnow
   cases x <;> first | exact hx.elim | skip
   exact zsu (e:=.pan v) hσ₀ hx hnow hK
 ·cases e with
  | normal=>exact absurd rfl he
  | _=>exact zsu hσ₀ hx hnow hK
theorem z2o(hn:xc cx.P)(hmix:cx.P.follows .mixedOrders=true)(hnat:zad cx cx.nat):∀ n,zad cx (w8 cx n):=by
 intro n
 induction n with
 | zero=>exact ⟨hnat.1,fun f args σ out σ' h=>by cases h⟩
 | succ n ih=>
  refine ⟨hnat.1,?_⟩
  intro f args σ out σ' h w μ vs hi hcan hids hall hvs
  simp only [w8,za8] at h
  split at h
  ·rename_i r hr
   cases h
   exact hnat.2 f args σ out σ' hr w μ vs hi hcan hids hall hvs
  split at h
  ·cases h
  rename_i fn hfn
  split at h
  ·cases h
  rename_i c hc
  have hσ₀:∀ id o,zi σ id=some o→id<σ.length:=fun id o ho=>(hcan id o ho).1
  have hbody:fn.body.isNone=false:=by rw [hc]; rfl
  have hbegin:Now cx fn.ntmps [] w σ μ { tmps:=vs.toArray++Array.replicate (fn.ntmps - vs.toArray.size) undef,defers:=[] } w σ μ (zat 0 args):=by
   refine ⟨After.refl hi,?_,?_,rfl⟩
   ·intro t v ht
    obtain ⟨i,rfl,hv⟩:=ze5 0 args t v ht
    rw [Nat.zero_add]
    have hlt:i<vs.length:=by rw [hvs.1]; exact (List.getElem?_eq_some_iff.1 hv).1
    have:(vs.toArray++Array.replicate (fn.ntmps - vs.toArray.size) undef).getD i undef=vs[i]:=by
     simp [Array.getD_eq_getD_getElem?,Array.getElem?_append,hlt]
    rw [this]
    exact hvs.2 i _ v (by simp) hv
   ·simp; omega
  have hrun:Calls cx.P f vs.toArray w (Fin cx w σ μ out σ'):=by
   cases hd:cx.dfr f <;> rw [hd] at h
   ·exact calls_of_wp_defers hfn hc (zlf (w₀:=w) (μ₀:=μ) (nt:=fn.ntmps) ih hn hmix hσ₀ c h (fun e fr τ hK x a w₁ μ₁ hx hnow=>zsu hσ₀ hx hnow hK) hbegin)
   ·exact calls_of_wp_defers hfn hc (z2p ih hn hmix hσ₀ hbegin h)
  obtain ⟨e,w',fr,⟨hfacts,_⟩,_⟩:=hrun []
  exact ⟨⟨fn,hfn,hbody⟩,hfacts.1,hfacts.2,hrun.mono fun e w' h=>by
   obtain ⟨μ',haf,hm⟩:=h.2
   exact ⟨μ',haf,by cases out <;> cases e <;> exact hm⟩⟩
end
end Go.Vai
end

section
namespace Go.Vai
open Go.ChangeShapes Go.WideShapes Go.ChangeAt Go.RowKit
section
variable {H:Type}
def noOwn:Own:=fun _ _=>False
def ze0(P:Program):Nat→List Field→Nat→Bool
 | off,[],n=>Nat.beq off n
 | off,f::fs,n=>Nat.beq f.offset off&&ze0 P (off+P.cellsOf f.type) fs n
def vp(r:TypeId→DataW H→Option (List D)):List Field→List (DataW H)→Option (List D)
 | [],[]=>some []
 | f::fs,p::ps=>(match r f.type p,vp r fs ps with | some a,some b=>some (a++b) | _,_=>none)
 | _,_=>none
def zd5(r:DataW H→Option (List D)):List (DataW H)→Option (List D)
 | []=>some []
 | p::ps=>(match r p,zd5 r ps with | some a,some b=>some (a++b) | _,_=>none)
def elemOf(agg:Bool)(cs:List D):D:=bif agg then .agg cs else cs.headD .nilIface
def zbc(agg:Bool)(r:DataW H→Option (List D)):List (DataW H)→Option (List D)
 | []=>some []
 | p::ps=>(match r p,zbc agg r ps with | some a,some b=>some (elemOf agg a::b) | _,_=>none)
def xg(P:Program):Nat→TypeId→DataW H→Option (List D)
 | 0,_,_=>none
 | n+1,t,d=>
  match P.underlying t,d with
  | some .bool,.lit (.bool b)=>some [.bool b]
  | some (.int k),.lit (.int _ z)=>some [.int k z]
  | some .string,.lit (.string s)=>some [.str s]
  | some (.pointer _),.nil=>some [.nilptr]
  | some (.slice e),.nil=>some [.sl (P.cellsOf e) []]
  | some (.slice e),.slice els _=>bif Nat.beq (P.cellsOf e) 0 then none else (zbc (xw P e) (xg P n e) els).map fun l=>[.sl (P.cellsOf e) l]
  | some (.struct fs),.agg ps=>bif ze0 P 0 fs.toList (P.cellsOf t) then vp (xg P n) fs.toList ps else none
  | some (.array m e),.agg ps=>bif Nat.beq ps.length m&&Nat.beq (m * P.cellsOf e) (P.cellsOf t) then zd5 (xg P n e) ps else none
  | _,_=>none
variable {enc:TypeId×Value→H} {P:Program} {w:World} {base:Nat} {spare:Nat→Bool} {held:Bool}
theorem RDs.append{own:Own}{vs ws:List Value}{l k:List D}(h:RDs w own vs l)(h':RDs w own ws k):RDs w own (vs++ws) (l++k):=by
 refine ⟨by simp [h.1,h'.1],fun i x y hx hy=>?_⟩
 by_cases hi:i<vs.length
 ·rw [List.getElem?_append_left hi] at hx
  rw [List.getElem?_append_left (by rw [←h.1]; exact hi)] at hy
  exact h.2 i x y hx hy
 ·rw [List.getElem?_append_right (by omega)] at hx
  rw [List.getElem?_append_right (by rw [←h.1]; omega)] at hy
  rw [←h.1] at hy
  exact h'.2 _ x y hx hy
theorem RDs.one{own:Own}{v:Value}{d:D}(h:RD w own v d):RDs w own [v] [d]:=⟨rfl,fun i x y hx hy=>by
 cases i with
 | zero=>simp at hx hy; subst hx; subst hy; exact h
 | succ i=>simp at hx⟩
theorem zy6{n:Nat}{t:TypeId}{d:DataW H}{ds:List D}(ha:xw P t=false)(h:xg P n t d=some ds):∃ y,ds=[y]∧y.cells=[y]:=by
 cases n with
 | zero=>cases h
 | succ n=>
  unfold xw at ha
  simp only [xg] at h
  split at h <;> first | (cases h; exact ⟨_,rfl,rfl⟩) | skip
  ·cases hb:Nat.beq (P.cellsOf _) 0 <;> rw [hb] at h
   ·obtain ⟨l,_,rfl⟩:=Option.map_eq_some_iff.1 h
    exact ⟨_,rfl,rfl⟩
   ·cases h
  ·rename_i hu; rw [hu] at ha; cases ha
  ·rename_i hu; rw [hu] at ha; cases ha
  ·cases h
theorem zg6{n:Nat}{m:Nat}{cs:List Value}(hp:∀ {t cs x ds},DataW.trod enc P w base spare held m t cs=some x→xg P n t x.1=some ds→RDs w noOwn cs ds∧∀ c∈cs,c.oneCell'=true) :
  ∀ (fs:List Field) (xs:List (DataW H×List MemPlace)) (off:Nat) (ds:List D),xs.length=fs.length→off≤cs.length→ze0 P off fs cs.length=true →
   (∀ (i:Nat) f,fs[i]?=some f→DataW.trod enc P w base spare held m f.type ((cs.drop f.offset).take (P.cellsOf f.type))=xs[i]?) →
   vp (xg P n) fs (xs.map (·.1))=some ds→RDs w noOwn (cs.drop off) ds∧∀ c∈cs.drop off,c.oneCell'=true
 | [],xs,off,ds,hl,hle,ho,_,h=>by
  obtain rfl:=List.eq_nil_of_length_eq_zero hl
  simp only [List.map_nil,vp] at h
  cases h
  have:off=cs.length:=Nat.eq_of_beq_eq_true ho
  rw [List.drop_eq_nil_of_le (by omega)]
  exact ⟨⟨rfl,by simp⟩,by simp⟩
 | f::fs,xs,off,ds,hl,hle,ho,ht,h=>by
  match xs,hl with
  | x::xs,hl=>
   simp only [List.map_cons,vp] at h
   split at h
   ·rename_i a b h1 h2
    cases h
    simp only [ze0,Bool.and_eq_true] at ho
    obtain ⟨ho1,ho2⟩:=ho
    have ho1:=Nat.eq_of_beq_eq_true ho1
    have hx:=ht 0 f rfl
    simp only [List.getElem?_cons_zero] at hx
    rw [ho1] at hx
    obtain ⟨g1,g2⟩:=hp hx h1
    have hle2:off+P.cellsOf f.type≤cs.length:=by
     -- the offsets rise to the end
     have key:∀ (l:List Field) (o:Nat),ze0 P o l cs.length=true→o≤cs.length:=by
      intro l
      induction l with
      | nil=>intro o ho; exact Nat.le_of_eq (Nat.eq_of_beq_eq_true ho)
      | cons f l ih=>
       intro o ho
       simp only [ze0,Bool.and_eq_true] at ho
       have:=ih _ ho.2
       omega
     exact key fs _ ho2
    obtain ⟨k1,k2⟩:=zg6 hp fs xs _ b (by simpa using hl) hle2 ho2 (fun i f' hf'=>by simpa using ht (i+1) f' (by simpa using hf')) h2
    have hsplit:cs.drop off=(cs.drop off).take (P.cellsOf f.type)++cs.drop (off+P.cellsOf f.type):=by
     rw [←List.drop_drop,List.take_append_drop]
    rw [hsplit]
    exact ⟨g1.append k1,fun c hc=>(List.mem_append.1 hc).elim (g2 c) (k2 c)⟩
   ·cases h
theorem zig{n m:Nat}{e:TypeId}{cs:List Value}(hp:∀ {t cs x ds},DataW.trod enc P w base spare held m t cs=some x→xg P n t x.1=some ds→RDs w noOwn cs ds∧∀ c∈cs,c.oneCell'=true) :
  ∀ (xs:List (DataW H×List MemPlace)) (k:Nat) (ds:List D),(k+xs.length) * P.cellsOf e=cs.length →
   (∀ (i:Nat),i<xs.length→DataW.trod enc P w base spare held m e ((cs.drop ((k+i) * P.cellsOf e)).take (P.cellsOf e))=xs[i]?) →
   zd5 (xg P n e) (xs.map (·.1))=some ds→RDs w noOwn (cs.drop (k * P.cellsOf e)) ds∧∀ c∈cs.drop (k * P.cellsOf e),c.oneCell'=true
 | [],k,ds,hl,_,h=>by
  simp only [List.map_nil,zd5] at h
  cases h
  rw [List.drop_eq_nil_of_le (by simp at hl; omega)]
  exact ⟨⟨rfl,by simp⟩,by simp⟩
 | x::xs,k,ds,hl,ht,h=>by
  simp only [List.map_cons,zd5] at h
  split at h
  ·rename_i a b h1 h2
   cases h
   have hx:=ht 0 (by simp)
   simp only [List.getElem?_cons_zero,Nat.add_zero] at hx
   obtain ⟨g1,g2⟩:=hp hx h1
   obtain ⟨k1,k2⟩:=zig hp xs (k+1) b (by rw [←hl]; congr 1; simp; omega) (fun i hi=>by
    have:=ht (i+1) (by simpa using hi)
    rw [show k+1+i=k+(i+1) by omega]
    simpa using this) h2
   have hsplit:cs.drop (k * P.cellsOf e)=(cs.drop (k * P.cellsOf e)).take (P.cellsOf e)++cs.drop ((k+1) * P.cellsOf e):=by
    rw [Nat.succ_mul,←List.drop_drop,List.take_append_drop]
   rw [hsplit]
   exact ⟨g1.append k1,fun c hc=>(List.mem_append.1 hc).elim (g2 c) (k2 c)⟩
  ·cases h
theorem zih{agg:Bool}{r:DataW H→Option (List D)}:∀ {ps:List (DataW H)} {l:List D},zbc agg r ps=some l→l.length=ps.length∧∀ (i:Nat) p y,ps[i]?=some p→l[i]?=some y→∃ ds,r p=some ds∧y=elemOf agg ds
 | [],l,h=>by simp only [zbc] at h; cases h; simp
 | p::ps,l,h=>by
  simp only [zbc] at h
  split at h
  ·rename_i a b h1 h2
   cases h
   obtain ⟨g1,g2⟩:=zih h2
   refine ⟨by simp [g1],fun i q y hq hy=>?_⟩
   cases i with
   | zero=>simp at hq hy; subst hq; subst hy; exact ⟨a,h1,rfl⟩
   | succ i=>exact g2 i q y (by simpa using hq) (by simpa using hy)
  ·cases h
theorem trod_rd:∀ (n m:Nat) (t:TypeId) (cs:List Value) (x:DataW H×List MemPlace) (ds:List D),DataW.trod enc P w base spare held m t cs=some x→xg P n t x.1=some ds →
  RDs w noOwn cs ds∧∀ c∈cs,c.oneCell'=true:=by
 intro n
 induction n with
 | zero=>intro m t cs x ds _ h; cases h
 | succ n ih=>
  intro m t cs x ds hx h
  obtain ⟨d,pl⟩:=x
  simp only [xg] at h
  split at h
  ·rename_i b hu
   obtain ⟨b',h1,h2⟩:=DataW.trod_bool hu hx
   subst h1; cases h2; cases h
   exact ⟨RDs.one (.bool _),by simp [Value.oneCell']⟩
  ·rename_i k k' z hu
   obtain ⟨z',h1,h2,_⟩:=DataW.trod_int hu hx
   subst h1; cases h2; cases h
   exact ⟨RDs.one (.int _ _),by simp [Value.oneCell']⟩
  ·rename_i s hu
   obtain ⟨s',h1,h2,_⟩:=DataW.trod_string hu hx
   subst h1; cases h2; cases h
   refine ⟨RDs.one ?_,by simp [Value.oneCell']⟩
   have:s'=xl s'.data.toList:=by simp [xl]
   conv=>arg 3; rw [this]
   exact .str _
  ·rename_i e hu
   rcases DataW.trod_pointer hu hx with ⟨h1,h2⟩ | ⟨a,cs',y,n',_,h1,h2,_⟩
   ·subst h1; cases h
    exact ⟨RDs.one .nilptr,by simp [Value.oneCell']⟩
   ·cases h2
  ·rename_i e hu
   rcases DataW.trod_slice hu hx with ⟨h1,h2⟩ | ⟨a,len,cap,elems,rest,n',_,h1,h2,_⟩
   ·subst h1; cases h
    exact ⟨RDs.one (.sl0 none 0 _),by simp [Value.oneCell']⟩
   ·cases h2
  ·rename_i e els sp hu
   cases hb:Nat.beq (P.cellsOf e) 0 <;> rw [hb] at h
   ·rw [cond_false] at h
    obtain ⟨l,hl,rfl⟩:=Option.map_eq_some_iff.1 h
    rcases DataW.trod_slice hu hx with ⟨h1,h2⟩ | ⟨a,len,cap,elems,rest,n',_,h1,h2,hba,hle,_,hlen,hel,_⟩
    ·cases h2
    ·subst h1
     simp only [Prod.mk.injEq,DataW.slice.injEq] at h2
     obtain ⟨⟨rfl,rfl⟩,_⟩:=h2
     have hc0:P.cellsOf e ≠ 0:=fun e0=>by rw [e0] at hb; cases hb
     refine ⟨RDs.one ?_,by simp [Value.oneCell']⟩
     obtain ⟨hl1,hl2⟩:=zih hl
     simp only [List.length_map,hlen] at hl1
     by_cases h0:len=0
     ·subst h0
      obtain rfl:=List.eq_nil_of_length_eq_zero hl1
      exact .sl0 (some a) cap _
     ·have hpos:0<P.cellsOf e:=by omega
      have hcells:∀ i,i<len→∃ cs' y,w.cells? base (a.add (i * P.cellsOf e)) (P.cellsOf e)=some cs'∧DataW.trod enc P w base spare held n' e cs'=some y∧elems[i]?=some y:=by
       intro i hi
       have h1:=hel i hi
       obtain ⟨y,hy⟩:=yv (l:=elems) (i:=i) (by omega)
       rw [hy] at h1
       obtain ⟨cs',h2,h3⟩:=Option.bind_eq_some_iff.1 h1
       exact ⟨cs',y,h2,h3,hy⟩
      have hspot:a.spot=none:=by
       obtain ⟨cs',y,h1,_,_⟩:=hcells 0 (by omega)
       obtain ⟨_,h2,h3⟩:=World.cells?_some h1
       have h4:=h3 0 hpos
       obtain ⟨c,hc⟩:=yv (l:=cs') (i:=0) (by omega)
       rw [hc] at h4
       have h5:=World.cell?_spot h4
       simpa [Addr.add] using h5
      obtain ⟨b,o,spot⟩:=a
      simp only at hspot
      subst hspot
      have hadd:∀ i,(⟨b,o,none⟩:Addr).add i=⟨b,o+i,none⟩:=fun i=>by
       unfold Addr.add
       split
       ·rename_i h; subst h; rfl
       ·rfl
      have helem:∀ i y,l[i]?=some y→∃ cs' ds',i<len∧cs'.length=P.cellsOf e∧(∀ j,j<P.cellsOf e→w.cell? ⟨b,o+(i * P.cellsOf e+j),none⟩=cs'[j]?)∧RDs w noOwn cs' ds'∧(∀ c∈cs',c.oneCell'=true)∧y.cells=ds':=by
       intro i y hy
       have hi:i<len:=by have:=(List.getElem?_eq_some_iff.1 hy).1; omega
       obtain ⟨cs',z,h1,h2,h3⟩:=hcells i hi
       obtain ⟨ds',h4,h5⟩:=hl2 i z.1 y (by simp [h3]) hy
       obtain ⟨_,h6,h7⟩:=World.cells?_some h1
       obtain ⟨h8,h9⟩:=ih n' e cs' z ds' h2 h4
       refine ⟨cs',ds',hi,h6,fun j hj=>?_,h8,h9,?_⟩
       ·have:=h7 j hj
        rw [hadd,show (⟨b,o+i * P.cellsOf e,none⟩:Addr).add j=⟨b,o+i * P.cellsOf e+j,none⟩ by
         unfold Addr.add
         split
         ·rename_i h; subst h; rfl
         ·rfl] at this
        rw [←Nat.add_assoc]
        exact this
       ·rw [h5]
        cases ha:xw P e
        ·obtain ⟨y',h10,h11⟩:=zy6 ha h4
         rw [h10]
         exact h11
        ·rfl
      refine .sl b o len cap (P.cellsOf e) l (fun k=>(w.cell? ⟨b,o+k,none⟩).getD undef) hl1.symm hle (fun y hy=>?_) (fun k hk=>?_) (fun i j y c hy hc=>?_)
      ·obtain ⟨i,hi⟩:=List.getElem?_of_mem hy
       obtain ⟨cs',ds',_,h2,_,h4,_,h6⟩:=helem i y hi
       rw [h6,←h4.1,h2]
      ·have hi:k / P.cellsOf e<len:=Nat.div_lt_of_lt_mul (by rw [Nat.mul_comm]; exact hk)
       obtain ⟨y,hy⟩:=yv (l:=l) (i:=k / P.cellsOf e) (by omega)
       obtain ⟨cs',ds',_,h2,h3,h4,h5,h6⟩:=helem _ y hy
       have hj:k % P.cellsOf e<P.cellsOf e:=Nat.mod_lt _ hpos
       have hk':k / P.cellsOf e * P.cellsOf e+k % P.cellsOf e=k:=by rw [Nat.mul_comm]; exact Nat.div_add_mod k _
       have h7:=h3 _ hj
       rw [hk'] at h7
       obtain ⟨c,hc⟩:=yv (l:=cs') (i:=k % P.cellsOf e) (by omega)
       rw [hc] at h7
       refine ⟨by rw [h7]; rfl,fun h=>h,?_⟩
       rw [h7]
       exact h5 c (List.mem_of_getElem? hc)
      ·obtain ⟨cs',ds',_,h2,h3,h4,h5,h6⟩:=helem i y hy
       have hj:j<P.cellsOf e:=by
        have:=(List.getElem?_eq_some_iff.1 hc).1
        rw [h6,←h4.1,h2] at this
        exact this
       have h7:=h3 j hj
       obtain ⟨c',hc'⟩:=yv (l:=cs') (i:=j) (by omega)
       rw [hc'] at h7
       rw [h7]
       exact h4.2 j c' c hc' (h6 ▸ hc)
   ·cases h
  ·rename_i fs ps hu
   cases hb:ze0 P 0 fs.toList (P.cellsOf t) <;> rw [hb] at h
   ·cases h
   ·rw [cond_true] at h
    obtain ⟨xs,n',_,h2,hlen,hxs,hf⟩:=DataW.trod_struct hu hx
    cases h2
    have:=zg6 (n:=n) (m:=n') (cs:=cs) (fun {t cs x ds} h1 h2=>ih n' t cs x ds h1 h2) fs.toList xs 0 ds (by simpa using hxs) (by simp) (by rw [hlen]; exact hb) (fun i f hfi=>hf i f (by simpa using hfi)) h
    simpa using this
  ·rename_i k e ps hu
   cases hb:(Nat.beq ps.length k&&Nat.beq (k * P.cellsOf e) (P.cellsOf t)) <;> rw [hb] at h
   ·cases h
   ·rw [cond_true] at h
    rw [Bool.and_eq_true] at hb
    obtain ⟨xs,n',hcs,h2,hlen,hxs,hf⟩:=DataW.trod_array hu hx
    cases h2
    have:=zig (n:=n) (m:=n') (e:=e) (cs:=cs) (fun {t cs x ds} h1 h2=>ih n' t cs x ds h1 h2) xs 0 ds
     (by rw [Nat.zero_add,hlen,hxs]; exact Nat.eq_of_beq_eq_true hb.2) (fun i hi=>by rw [Nat.zero_add]; exact hf i (hxs ▸ hi)) h
    simpa using this
  ·cases h
end
end Go.Vai
end

section
namespace Go.Vai
open Go.ChangeShapes Go.WideShapes Go.ChangeAt Go.RowKit
section
variable {cx:Cx} {W W':World}
def mu0:Mu:=⟨fun _=>{ blk:=none },noOwn⟩
theorem z9g:zr [] mu0=noOwn:=by
 funext b i
 apply propext
 constructor
 ·rintro (h | ⟨id,o,h,_⟩)
  ·exact h
  ·cases h
 ·exact fun h=>h.elim
def zui(P:Program)(glob:Nat→Option D)(laid:List (String×DataW Unit)):Prop:=
 ∀ g x,glob g=some x→∃ n d,(n,d)∈laid∧P.globalNamed n=some g∧(((P.globals[g]?).map (·.type)).bind fun t=>xg P 20 t d)=some x.cells
theorem zl1{P:Program}{w:World}:∀ {laid:List (String×DataW Unit)} {ps:List MemPlace},DataW.LaidVars P w laid ps→∀ n d,(n,d)∈laid→∀ g t ds,P.globalNamed n=some g→(P.globals[g]?).map (·.type)=some t →
  xg P 20 t d=some ds→∃ cs:Array Value,(∀ i,w.cell? ⟨g,i,none⟩=cs[i]?)∧RDs w noOwn cs.toList ds∧∀ c∈cs.toList,c.oneCell'=true
 | [],ps,_,n,d,hm,_,_,_,_,_,_=>by cases hm
 | (n₀,d₀)::laid,ps,h,n,d,hm,g,t,ds,hg,ht,hp=>by
  obtain ⟨g',t',cs,fuel,p,q,h1,h2,h3,h4,h5,_⟩:=h
  rcases List.mem_cons.1 hm with he | hm
  ·cases he
   rw [hg] at h1; cases h1
   rw [ht] at h2; cases h2
   obtain ⟨k1,k2⟩:=trod_rd 20 _ _ _ _ _ h4 hp
   exact ⟨cs,World.var?_cell hg h3,k1,k2⟩
  ·exact zl1 h5 n d hm g t ds hg ht hp
theorem inv0{laid:List (String×DataW Unit)}(hplain:(laid.all fun x=>x.2.handleName?.isNone)=true)(hs:zui cx.P cx.glob laid)(hL:laidMetH cx.P laid W):Inv cx W [] mu0:=by
 rw [MakeChecks.laidMetH_plain _ _ _ hplain] at hL
 obtain ⟨ps,hv,_⟩:=hL
 refine ⟨fun id o h=>(by cases h),fun id id' o o' b i h=>(by cases h),?_,fun id o b i h=>(by cases h),fun b i (h:False)=>h.elim,fun r es clock i _ (h:False)=>h.elim⟩
 intro g x hg
 rw [z9g]
 obtain ⟨n,d,h1,h2,h34⟩:=hs g x hg
 obtain ⟨t,h3,h4⟩:=Option.bind_eq_some_iff.1 h34
 obtain ⟨cs,hc,hr,ho⟩:=zl1 hv n d h1 g t _ h2 h3 h4
 have hlen:cs.size=x.cells.length:=by simpa using hr.1
 refine ⟨fun j=>cs.getD j undef,fun j hj=>?_,fun j c hjc=>?_⟩
 ·have hlt:j<cs.size:=by omega
  have e:cs.getD j undef=cs[j]:=by simp [Array.getD_eq_getD_getElem?,hlt]
  rw [hc]
  simp only [e]
  exact ⟨by simp [hlt],fun h=>h,ho _ (by simp)⟩
 ·have hlt:j<cs.size:=by have:=(List.getElem?_eq_some_iff.1 hjc).1; omega
  have e:cs.getD j undef=cs[j]:=by simp [Array.getD_eq_getD_getElem?,hlt]
  simp only [e]
  exact hr.2 j _ c (by simp [hlt]) hjc
theorem kept_but(h:Kept W noOwn W'):W.keptBut W' (fun _=>False):=by
 refine ⟨h.os,h.output,fun i hi=>?_⟩
 rw [h.blk i hi fun _ h=>h]
 cases hw:W.heap[i]? with
 | none=>rfl
 | some o=>cases o <;> first | exact ⟨rfl,rfl,rfl,fun _ _=>rfl⟩ | exact .inr ⟨rfl,rfl⟩ | rfl
theorem law_callsN{f n:Nat}{ds:List D}{args:List Value}{x:D}(hnat:zad cx cx.nat)(hn:xc cx.P)(hmix:cx.P.follows .mixedOrders=true)(hi:Inv cx W [] mu0)(hargs:RDs W noOwn args ds)
  (h:w8 cx n f (ds.map .d) []=some (.ret (.d x),[])):Calls cx.P f args.toArray W fun e W'=>∃ v,e=.returned v∧RD W' noOwn v x∧Kept W noOwn W':=by
 have hv:RVs W [] mu0 args (ds.map .d):=by
  refine ⟨by simpa using hargs.1,fun i v y hx hy=>?_⟩
  rw [List.getElem?_map,Option.map_eq_some_iff] at hy
  obtain ⟨d,hd,rfl⟩:=hy
  refine .d _ _ ?_
  rw [z9g]
  exact hargs.2 i v d hx hd
 have hids:∀ i∈V.idsL (ds.map .d),i<([]:St).length:=by
  intro i hi
  have:V.idsL (ds.map .d)=[]:=by
   clear h hv hargs hi
   induction ds with
   | nil=>rfl
   | cons d ds ih=>simp [V.idsL,V.ids,ih]
  rw [this] at hi; cases hi
 obtain ⟨_,_,_,hc⟩:=(z2o hn hmix hnat n).2 f _ [] _ _ h W mu0 args hi (fun k o h=>(by cases h)) hids (fun k hk=>(by cases hk)) hv
 refine hc.mono fun e W' ⟨μ',haf,hm⟩=>?_
 cases e with
 | returned v=>
  have hm:RV W' [] μ' v (.d x):=hm
  have hfr:zr [] μ'=noOwn:=by
   funext b i
   apply propext
   constructor
   ·rintro (h | ⟨id,o,h,_⟩)
    ·rw [haf.fr] at h; exact h
    ·cases h
   ·exact fun h=>h.elim
  refine ⟨v,rfl,?_,?_⟩
  ·cases hm with | d _ _ hd=>rw [hfr] at hd; exact hd
  ·have hk:=haf.goes.kept
   have hmine:Mine [] mu0=noOwn:=by
    funext b i
    apply propext
    constructor
    ·rintro ⟨id,o,h,_⟩; cases h
    ·exact fun h=>h.elim
   rw [hmine] at hk
   exact hk
 | panicked chain=>exact hm.elim
 | outgrown=>exact hm.elim
end
end Go.Vai
end

section
namespace Go.Vai
section
variable {R:Type} {cx:Cx}
def knows(cx:Cx)(call call':yu):Prop:=∀ f args σ r,cx.dom f args=true→call f args σ=some r→call' f args σ=some r
theorem zgo{call call':yu}(hk:knows cx call call'){σ:St}{t f:Nat}{args:List V}{xs:List Nat}{K:Oc→De→List Nat→Option R}{r:R}(h:qo cx call σ t f args xs K=some r):qo cx call' σ t f args xs K=some r:=by
 unfold qo at h ⊢
 simp only at h ⊢
 obtain ⟨hc,h⟩:=ze h
 obtain ⟨hd,h⟩:=ze h
 rw [hc,hd]
 simp only [zb,cond_true]
 cases hq:call f (V.renL (xo (qa σ 1000 (V.idsL args++xs) [])) args) (xn σ (qa σ 1000 (V.idsL args++xs) []) 0 (qa σ 1000 (V.idsL args++xs) [])) with
 | none=>rw [hq] at h; cases h
 | some p=>rw [hq] at h; rw [hk _ _ _ _ hd hq]; exact h
theorem zrb{call call':yu}(hk:knows cx call call'){m nt:Nat}{o:Oper}{fr:Fr}{σ:St}{p:Tri}(h:zbe cx m nt call o fr σ=some p):zbe cx m nt call' o fr σ=some p:=by
 unfold zbe at h ⊢
 obtain ⟨dst,op,type,pos,after,guard⟩:=o
 cases op
 case makeFunc fn first caps=>cases fn <;> exact h
 case makeMap t r=>cases r <;> exact h
 case call c=>
  obtain ⟨callee,cargs,ctypes⟩:=c
  cases callee with
  | value f=>
   simp only [x6] at h ⊢
   obtain ⟨v,hv,h⟩:=zd h
   simp only [hv,zc]
   split at h
   ·obtain ⟨l,hl,h⟩:=zd h
    simp only [hl]
    exact zgo hk h
   ·cases hgr:(cx.grow _).isSome <;> rw [hgr] at h <;> simp only [cond_true,cond_false] at h ⊢
    rotate_left
    ·exact h
    cases hsm:(zhe cx.P _&&List.isEmpty _) <;> rw [hsm] at h <;> simp only [cond_true,cond_false] at h ⊢
    rotate_left
    ·obtain ⟨l,hl,h⟩:=zd h
     simp only [hl]
     exact h
    cases hgv:cx.gives _ <;> rw [hgv] at h
    ·cases hnil:(cx.keep _&&zi0 cargs.toList) <;> rw [hnil] at h
     ·obtain ⟨l,hl,h⟩:=zd h
      simp only [hl,cond_false]
      exact zgo hk h
     ·obtain ⟨l,hl,h⟩:=zd h
      obtain ⟨hc,h⟩:=ze h
      simp only [hl,cond_true,cond_false,hc,zb]
      exact zgo hk h
    ·obtain ⟨l,hl,h⟩:=zd h
     obtain ⟨hc,h⟩:=ze h
     simp only [hl,cond_true,hc,zb]
     exact zgo hk h
   ·cases h
  | invoke r nm=>exact h
  | builtin b=>cases b <;> exact h
 all_goals exact h
theorem zl5{ops:List Oper}{o:Oper}{fr:Fr}{yes no yes' no':Fr→Option R}{r:R}(hy:∀ fr,yes fr=some r→yes' fr=some r)(hn:∀ fr,no fr=some r→no' fr=some r)
  (h:zdd ops o fr yes no=some r):zdd ops o fr yes' no'=some r:=by
 unfold zdd at h ⊢
 split at h
 ·exact hy _ h
 ·split at h
  ·exact hn _ h
  ·split at h
   ·have key:∀ (b want:Bool) (p q:Fr),(bif b then (bif want then yes p else no p) else (bif want then no q else yes q))=some r→(bif b then (bif want then yes' p else no' p) else (bif want then no' q else yes' q))=some r:=by
     intro b want p q h
     cases b <;> cases want <;> first | exact hy _ h | exact hn _ h
    exact key _ _ _ _ h
   ·exact hn _ h
   ·cases h
theorem zbp{call call':yu}(hk:knows cx call call'){m nt:Nat}{ops:List Oper}{K K':Ex→Fr→St→Option R}{r:R}(hK:∀ e fr σ,K e fr σ=some r→K' e fr σ=some r) :
  ∀ (l:List Oper) (fr:Fr) (σ:St),zci cx m nt call ops l fr σ K=some r→zci cx m nt call' ops l fr σ K'=some r
 | [],fr,σ,h=>hK _ _ _ h
 | o::l,fr,σ,h=>by
  unfold zci at h ⊢
  obtain ⟨hd,h⟩:=ze h
  rw [hd]
  simp only [zb,cond_true]
  refine zl5 (fun fr h=>?_) (fun fr h=>zbp hk hK l _ _ h) h
  obtain ⟨p,hp,h⟩:=zd h
  simp only [zrb hk hp,zc]
  obtain ⟨oc,δ,fp⟩:=p
  cases oc with
  | val v=>exact zbp hk hK l _ _ h
  | pan v=>exact hK _ _ _ h
theorem zbw{call call':yu}(hk:knows cx call call'){m nt:Nat}{ops:List Oper}{pre:List Nat}{K K':Ex→Fr→St→Option R}{r:R}(hK:∀ e fr σ,K e fr σ=some r→K' e fr σ=some r) :
  ∀ (l:List Oper) (i:Nat) (log:List Log) (dead:Option (Nat×V)) (fr:Fr) (σ:St),vl cx m nt call ops pre i l log dead fr σ K=some r→vl cx m nt call' ops pre i l log dead fr σ K'=some r
 | [],i,log,none,fr,σ,h=>by simp only [vl] at h ⊢; exact hK _ _ _ h
 | [],i,log,some (k,v),fr,σ,h=>by
  simp only [vl] at h ⊢
  obtain ⟨hc,h⟩:=ze h
  rw [hc]
  exact hK _ _ _ h
 | o::l,i,log,dead,fr,σ,h=>by
  simp only [vl] at h ⊢
  cases hd:zkg pre i dead
  ·rw [hd,cond_false] at h
   rw [cond_false]
   obtain ⟨hc,h⟩:=ze h
   rw [hc]
   simp only [zb,cond_true]
   refine zl5 (fun fr h=>?_) (fun fr h=>zbw hk hK l _ _ _ _ _ h) h
   obtain ⟨p,hp,h⟩:=zd h
   obtain ⟨hm,h⟩:=ze h
   simp only [zrb hk hp,zc]
   simp only [hm,cond_true]
   obtain ⟨oc,δ,fp⟩:=p
   cases oc with
   | val v=>exact zbw hk hK l _ _ _ _ _ h
   | pan v=>
    cases dead with
    | none=>exact zbw hk hK l _ _ _ _ _ h
    | some q=>exact h
  ·rw [hd,cond_true] at h
   rw [cond_true]
   exact zbw hk hK l _ _ _ _ _ h
theorem znf{nt:Nat}{σ:St}{fr:Fr}{q:Pend}{K K':Fr→St→Option R}{r:R}(hK:∀ fr σ,K fr σ=some r→K' fr σ=some r)(h:zg8 cx nt σ fr q K=some r):zg8 cx nt σ fr q K'=some r:=by
 unfold zg8 at h ⊢
 obtain ⟨hc,h⟩:=ze h
 rw [hc]
 simp only [zb,cond_true]
 split at h
 case h_2=>cases h
 obtain ⟨hc,h⟩:=ze h
 simp only [hc,cond_true]
 obtain ⟨s,hs,h⟩:=zd h
 obtain ⟨pl,hpl,h⟩:=zd h
 obtain ⟨jv,hjv,h⟩:=zd h
 obtain ⟨v,hv,h⟩:=zd h
 obtain ⟨y,hy,h⟩:=zd h
 simp only [hs,hpl,hjv,hv,hy,zc]
 split at h
 case h_2=>cases h
 split at h
 case h_2=>cases h
 obtain ⟨hc,h⟩:=ze h
 simp only [*,cond_true]
 obtain ⟨sz',ps,hd,h9⟩:=zgi h
 obtain ⟨hc',h10⟩:=ze h9
 unfold dataOf at hd ⊢
 split at hd <;> first | (cases hd; done) | skip
 all_goals (cases hd; simp only [hc',cond_true]; exact hK _ _ h10)
theorem zuw{nt:Nat}{ops:List Oper}{k:Nat}{fr:Fr}{σ:St}{K K':List Oper→Fr→St→Option R}{r:R}(hK:∀ l fr σ,K l fr σ=some r→K' l fr σ=some r)(h:ze7 cx nt ops k fr σ K=some r):ze7 cx nt ops k fr σ K'=some r:=by
 unfold ze7 at h ⊢
 split at h
 case h_2=>cases h
 obtain ⟨q,hq,h⟩:=zd h
 simp only [hq,zc]
 exact znf (fun fr σ h=>hK _ _ _ h) h
theorem zuu{nt:Nat}{ops:List Oper}{k:Nat}{fr:Fr}{σ:St}{K K':Fr→St→Option R}{r:R}(hK:∀ fr σ,K fr σ=some r→K' fr σ=some r)(h:ze6 cx nt ops k fr σ K=some r):ze6 cx nt ops k fr σ K'=some r:=by
 unfold ze6 at h ⊢
 split at h
 case h_2=>cases h
 obtain ⟨q,hq,h⟩:=zd h
 simp only [hq,zc]
 refine znf (fun fr σ h=>?_) h
 split at h
 case h_2=>cases h
 obtain ⟨hc,h⟩:=ze h
 obtain ⟨pv,hpv,h⟩:=zd h
 obtain ⟨v,hv,h⟩:=zd h
 simp only [hc,hpv,hv,zc,cond_true,zb]
 split at h
 case h_2=>cases h
 split at h
 case h_2=>cases h
 rename_i hido
 obtain ⟨hc,h⟩:=ze h
 simp only [hido,hc,cond_true]
 exact hK _ _ h
theorem zdu{m f key:Nat}{fr:Fr}{σ:St}{K K':Fr→St→Option R}{r:R}(hK:∀ fr σ,K fr σ=some r→K' fr σ=some r)(h:tidy cx m f key fr σ K=some r):tidy cx m f key fr σ K'=some r:=by
 unfold tidy at h ⊢
 simp only at h ⊢
 obtain ⟨hc,h⟩:=ze h
 rw [hc]
 exact hK _ _ h
theorem zbx{call call':yu}(hk:knows cx call call'){f m nt n n':Nat}(hn:n≤n'):∀ (c:Code) {K K':Ex→Fr→St→Option R} {r:R} {fr:Fr} {σ:St},
  (∀ e fr σ,K e fr σ=some r→K' e fr σ=some r)→yt cx f m nt call n c fr σ K=some r→yt cx f m nt call' n' c fr σ K'=some r:=by
 intro c
 induction c with
 | skip=>intro K K' r fr σ hK h; exact hK _ _ _ h
 | label l=>intro K K' r fr σ hK h; exact hK _ _ _ h
 | exit id=>intro K K' r fr σ hK h; exact hK _ _ _ h
 | goto l=>intro K K' r fr σ hK h; exact hK _ _ _ h
 | ret=>intro K K' r fr σ hK h; exact hK _ _ _ h
 | refuse why=>intro K K' r fr σ hK h; cases h
 | rangeFunc f params assign body _ _=>intro K K' r fr σ hK h; cases h
 | region id ops draw=>
  intro K K' r fr σ hK h
  cases draw
  ·simp only [yt] at h ⊢
   split at h
   ·exact zbp hk hK _ _ _ h
   ·rename_i k hk'
    refine zbp hk (fun e fr σ h=>?_) _ _ _ h
    cases e with
    | normal=>exact zuw (fun l fr σ h=>zbp hk hK _ _ _ h) h
    | _=>exact hK _ _ _ h
  ·simp only [yt] at h ⊢
   split at h
   ·obtain ⟨hc,h⟩:=ze h
    rw [hc]
    exact zbw hk hK _ _ _ _ _ _ h
   ·rename_i k hk'
    obtain ⟨hc1,h⟩:=ze h
    obtain ⟨hc,h⟩:=ze h
    rw [hc1,hc]
    refine zbw hk (fun e fr σ h=>?_) _ _ _ _ _ _ h
    cases e with
    | normal=>exact zuu (fun fr σ h=>hK _ _ _ h) h
    | _=>exact hK _ _ _ h
 | seq x y ihx ihy=>
  intro K K' r fr σ hK h
  refine ihx (fun e fr σ h=>?_) h
  cases e with
  | normal=>exact ihy hK h
  | _=>exact hK _ _ _ h
 | cond c x y ihx ihy=>
  intro K K' r fr σ hK h
  simp only [yt] at h ⊢
  obtain ⟨v,hv,h⟩:=zd h
  obtain ⟨b,rfl,h⟩:=zkj h
  simp only [hv,zc,asB]
  cases b
  ·exact ihy hK h
  ·exact ihx hK h
 | block id c ih=>
  intro K K' r fr σ hK h
  refine ih (fun e fr σ h=>?_) h
  cases e with
  | normal=>exact zdu (fun fr σ h=>hK _ _ _ h) h
  | exit i=>
   simp only at h ⊢
   cases hb:Nat.beq i id <;> rw [hb] at h
   ·exact hK _ _ _ h
   ·exact zdu (fun fr σ h=>hK _ _ _ h) h
  | _=>exact hK _ _ _ h
 | loop c ih=>
  intro K K' r fr σ hK h
  simp only [yt] at h ⊢
  refine zdu (fun fr σ h=>?_) h
  have key:∀ (k k':Nat),k≤k'→∀ (fr:Fr) (σ:St),iter (yt cx f m nt call n c) (tidy cx m f (2 * yl c+1)) k fr σ K=some r →
    iter (yt cx f m nt call' n' c) (tidy cx m f (2 * yl c+1)) k' fr σ K'=some r:=by
   intro k
   induction k with
   | zero=>intro k' _ fr σ h; cases h
   | succ k ihk=>
    intro k' hle fr σ h
    obtain ⟨k',rfl⟩:∃ j,k'=j+1:=⟨k' - 1,by omega⟩
    simp only [iter] at h ⊢
    refine ih (fun e fr σ h=>?_) h
    cases e with
    | normal=>exact zdu (fun fr σ h=>ihk k' (by omega) _ _ h) h
    | _=>exact hK _ _ _ h
  exact key n n' hn fr σ h
 | scope c ih=>
  intro K K' r fr σ hK h
  refine ih (fun e fr σ h=>?_) h
  cases e with
  | goto l=>cases h
  | _=>exact hK _ _ _ h
theorem zob(n f:Nat)(args:List V)(σ:St):w8 cx (n+1) f args σ=za8 cx (w8 cx n) n f args σ:=rfl
theorem zn9{call call':yu}(hk:knows cx call call'){f m nt n n':Nat}(hn:n≤n'):∀ (as:List Code) {K K':Ex→Fr→St→Option R} {r:R} {fr:Fr} {σ:St},
  (∀ e fr σ,K e fr σ=some r→K' e fr σ=some r)→zgz cx f m nt call n as fr σ K=some r→zgz cx f m nt call' n' as fr σ K'=some r
 | [],K,K',r,fr,σ,hK,h=>hK _ _ _ h
 | c::as,K,K',r,fr,σ,hK,h=>by
  simp only [zgz] at h ⊢
  refine zbx hk hn c (fun e fr σ h=>?_) h
  cases e with
  | normal=>exact zn9 hk hn as hK h
  | _=>exact hK _ _ _ h
theorem zwk{call call':yu}(hk:knows cx call call'){n n':Nat}(hn:n≤n'){g:Nat}{args:List V}{σ σ':St}{u:Option D}(h:zca cx call n g args σ u=some σ'):zca cx call' n' g args σ u=some σ':=by
 unfold zca at h ⊢
 split at h
 ·cases h
 ·rename_i fn hfn
  split at h
  ·rename_i id ops c hb
   split at h
   ·rename_i o r hops
    obtain ⟨t,ht,h⟩:=zd h
    obtain ⟨hc,h⟩:=ze h
    simp only [hops,ht,zc,hc,zb,cond_true]
    rw [hops] at h
    refine zbp hk (fun e fr σ h=>?_) _ _ _ h
    cases e with
    | normal=>exact zbx hk hn c (fun _ _ _ h=>h) h
    | _=>cases h
   ·cases h
  ·cases h
theorem zi8{rec rec':Nat→List V→St→Option D→Option St}(hr:∀ g args σ u r,rec g args σ u=some r→rec' g args σ u=some r){σ:St}{g:Nat}{cap:List V}{u:Option D}{K:De→Option R}{r:R}
  (h:zhk cx rec σ g cap u K=some r):zhk cx rec' σ g cap u K=some r:=by
 unfold zhk at h ⊢
 simp only at h ⊢
 obtain ⟨hc,h⟩:=ze h
 rw [hc]
 simp only [zb,cond_true]
 cases hq:rec g (V.renL (xo (qa σ 1000 (V.idsL cap) [])) cap) (xn σ (qa σ 1000 (V.idsL cap) []) 0 (qa σ 1000 (V.idsL cap) [])) u with
 | none=>rw [hq] at h; cases h
 | some p=>rw [hq] at h; rw [hr _ _ _ _ _ hq]; exact h
theorem zzu{rec rec':Nat→List V→St→Option D→Option St}(hr:∀ g args σ u r,rec g args σ u=some r→rec' g args σ u=some r){f m:Nat}{res:List ResultVar}{g:Nat}{cap:List V}{e:Ex}{fr:Fr}{σ:St}{r:Out×St}
  (h:zpw cx rec f m res g cap e fr σ=some r):zpw cx rec' f m res g cap e fr σ=some r:=by
 unfold zpw at h ⊢
 split at h
 ·exact zi8 hr h
 ·exact zi8 hr h
 ·exact zi8 hr h
 ·cases h
theorem zwn{call call':yu}(hk:knows cx call call'){f m nt n n':Nat}(hn:n≤n'){res:List ResultVar}{c:Code}{fr:Fr}{σ:St}{r:Out×St}
  (h:zhh cx f m nt res call n c fr σ=some r):zhh cx f m nt res call' n' c fr σ=some r:=by
 unfold zhh at h ⊢
 split at h
 ·cases h
 ·rename_i as id ops t b hsp
  refine zn9 hk hn as (fun e fr σ h=>?_) h
  cases e with
  | normal=>
   refine zbp hk (fun e fr σ h=>?_) _ _ _ h
   cases e with
   | normal=>
    simp only at h ⊢
    obtain ⟨fv,hfv,h⟩:=zd h
    simp only [hfv,zc]
    split at h
    ·obtain ⟨ht,h⟩:=ze h
     simp only [ht,zb,cond_true]
     exact zbx hk hn b (fun e fr σ h=>zzu (fun _ _ _ _ _ h=>zwk hk hn h) h) h
    ·cases h
   | _=>exact h
  | _=>exact h
theorem zl7{call call':yu}(hk:knows cx call call'){n n':Nat}(hn:n≤n'):∀ f args σ r,za8 cx call n f args σ=some r→za8 cx call' n' f args σ=some r:=by
 intro f args σ r h
 unfold za8 at h ⊢
 split at h
 ·exact h
 split at h
 ·cases h
 ·rename_i fn hfn
  split at h
  ·cases h
  ·rename_i c hc
   cases hd:cx.dfr f <;> rw [hd] at h
   ·exact zbx hk hn c (fun _ _ _ h=>h) h
   ·exact zwn hk hn h
theorem zgb:∀ (n n':Nat),n≤n'→∀ f args σ r,w8 cx n f args σ=some r→w8 cx n' f args σ=some r
 | 0,_,_=>fun f args σ r h=>by cases h
 | n+1,0,h=>absurd h (by omega)
 | n+1,n'+1,h=>fun f args σ r hr=>by
  rw [zob] at hr ⊢
  exact zl7 (fun f args σ r _ h=>zgb n n' (by omega) f args σ r h) (by omega) f args σ r hr
end
end Go.Vai
end

section
namespace Go.Vai
section
variable {R:Type} {cx:Cx}
noncomputable def zh(cx:Cx):yu:=fun f args σ=>
 open Classical in if h:∃ r n,w8 cx n f args σ=some r then some h.choose else none
theorem lim_ex{f:Nat}{args:List V}{σ:St}{r:Out×St}(h:zh cx f args σ=some r):∃ n,w8 cx n f args σ=some r:=by
 unfold zh at h
 split at h
 ·rename_i hex
  obtain ⟨n,hn⟩:=hex.choose_spec
  cases h
  exact ⟨n,hn⟩
 ·cases h
theorem zhd{f n:Nat}{args:List V}{σ:St}{r:Out×St}(h:w8 cx n f args σ=some r):zh cx f args σ=some r:=by
 unfold zh
 have hex:∃ r n,w8 cx n f args σ=some r:=⟨r,n,h⟩
 rw [dif_pos hex]
 obtain ⟨k,hk⟩:=hex.choose_spec
 have h1:=zgb n (max n k) (Nat.le_max_left _ _) f args σ _ h
 have h2:=zgb k (max n k) (Nat.le_max_right _ _) f args σ _ hk
 rw [h1] at h2
 exact h2.symm
def Ev(P:Nat→Prop):Prop:=∃ n₀,∀ n,n₀≤n→P n
theorem Ev.mono{P Q:Nat→Prop}(h:Ev P)(hpq:∀ n,P n→Q n):Ev Q:=let ⟨a,ha⟩:=h; ⟨a,fun n hn=>hpq n (ha n hn)⟩
theorem Ev.both{P Q:Nat→Prop}(h:Ev P)(h':Ev Q):Ev fun n=>P n∧Q n:=
 let ⟨a,ha⟩:=h; let ⟨b,hb⟩:=h'; ⟨max a b,fun n hn=>⟨ha n (by omega),hb n (by omega)⟩⟩
theorem z63{f:Nat}{args:List V}{σ:St}{r:Out×St}(h:zh cx f args σ=some r):Ev fun n=>w8 cx n f args σ=some r:=
 let ⟨k,hk⟩:=lim_ex h; ⟨k,fun n hn=>zgb k n hn f args σ r hk⟩
theorem zh9{σ:St}{t f:Nat}{args:List V}{xs:List Nat}{K:Oc→De→List Nat→Option R}{r:R}(h:qo cx (zh cx) σ t f args xs K=some r):Ev fun n=>qo cx (w8 cx n) σ t f args xs K=some r:=by
 unfold qo at h ⊢
 simp only at h ⊢
 obtain ⟨hc,h⟩:=ze h
 obtain ⟨hd,h⟩:=ze h
 rw [hc,hd]
 simp only [zb,cond_true]
 cases hq:zh cx f (V.renL (xo (qa σ 1000 (V.idsL args++xs) [])) args) (xn σ (qa σ 1000 (V.idsL args++xs) []) 0 (qa σ 1000 (V.idsL args++xs) [])) with
 | none=>rw [hq] at h; cases h
 | some p=>
  rw [hq] at h
  exact (z63 hq).mono fun n hn=>by rw [hn]; exact h
theorem Ev.all{P:Prop}(h:P):Ev fun _=>P:=⟨0,fun _ _=>h⟩
theorem zka{m nt:Nat}{o:Oper}{fr:Fr}{σ:St}{p:Tri}(h:zbe cx m nt (zh cx) o fr σ=some p):Ev fun n=>zbe cx m nt (w8 cx n) o fr σ=some p:=by
 unfold zbe at h ⊢
 obtain ⟨dst,op,type,pos,after,guard⟩:=o
 cases op
 case makeFunc fn first caps=>cases fn <;> exact .all h
 case makeMap t r=>cases r <;> exact .all h
 case call c=>
  obtain ⟨callee,cargs,ctypes⟩:=c
  cases callee with
  | value f=>
   simp only [x6] at h ⊢
   obtain ⟨v,hv,h⟩:=zd h
   simp only [hv,zc]
   split at h
   ·obtain ⟨l,hl,h⟩:=zd h
    simp only [hl]
    exact zh9 h
   ·cases hgr:(cx.grow _).isSome <;> rw [hgr] at h <;> simp only [cond_true,cond_false] at h ⊢
    rotate_left
    ·exact .all h
    cases hsm:(zhe cx.P _&&List.isEmpty _) <;> rw [hsm] at h <;> simp only [cond_true,cond_false] at h ⊢
    rotate_left
    ·obtain ⟨l,hl,h⟩:=zd h
     simp only [hl]
     exact .all h
    cases hgv:cx.gives _ <;> rw [hgv] at h
    ·cases hnil:(cx.keep _&&zi0 cargs.toList) <;> rw [hnil] at h
     ·obtain ⟨l,hl,h⟩:=zd h
      simp only [hl,cond_false]
      exact zh9 h
     ·obtain ⟨l,hl,h⟩:=zd h
      obtain ⟨hc,h⟩:=ze h
      simp only [hl,cond_true,cond_false,hc,zb]
      exact zh9 h
    ·obtain ⟨l,hl,h⟩:=zd h
     obtain ⟨hc,h⟩:=ze h
     simp only [hl,cond_true,hc,zb]
     exact zh9 h
   ·cases h
  | invoke r nm=>exact .all h
  | builtin b=>cases b <;> exact .all h
 all_goals exact .all h
theorem zn4{ops : List Oper}{o : Oper}{fr : Fr}{yes no : Fr → Option R}{yes' no' : Nat → Fr → Option R}{r : R}(hy : ∀ fr, yes fr = some r → Ev fun n => yes' n fr = some r)
    (hn : ∀ fr, no fr = some r → Ev fun n => no' n fr = some r) (h : zdd ops o fr yes no = some r) : Ev fun n => zdd ops o fr (yes' n) (no' n) = some r := by
  unfold zdd at h ⊢
  split at h
  · exact hy _ h
  · split at h
    · exact hn _ h
    · split at h
      · have key : ∀ (b want : Bool) (p q : Fr), (bif b then (bif want then yes p else no p) else (bif want then no q else yes q)) = some r →
            Ev fun n => (bif b then (bif want then yes' n p else no' n p) else (bif want then no' n q else yes' n q)) = some r := by
          intro b want p q h
          cases b <;> cases want <;> first | exact hy _ h | exact hn _ h
        exact key _ _ _ _ h
      · exact hn _ h
      · cases h
theorem zcs{m nt:Nat}{ops:List Oper}{K:Ex→Fr→St→Option R}{K':Nat→Ex→Fr→St→Option R}{r:R}(hK:∀ e fr σ,K e fr σ=some r→Ev fun n=>K' n e fr σ=some r) :
  ∀ (l:List Oper) (fr:Fr) (σ:St),zci cx m nt (zh cx) ops l fr σ K=some r→Ev fun n=>zci cx m nt (w8 cx n) ops l fr σ (K' n)=some r
 | [],fr,σ,h=>hK _ _ _ h
 | o::l,fr,σ,h=>by
  unfold zci at h ⊢
  obtain ⟨hd,h⟩:=ze h
  rw [hd]
  simp only [zb,cond_true]
  refine zn4 (fun fr h=>?_) (fun fr h=>zcs hK l _ _ h) h
  obtain ⟨p,hp,h⟩:=zd h
  obtain ⟨oc,δ,fp⟩:=p
  cases oc with
  | val v=>exact ((zka hp).both (zcs hK l _ _ h)).mono fun n hn=>by simp only [hn.1,zc]; exact hn.2
  | pan v=>exact ((zka hp).both (hK _ _ _ h)).mono fun n hn=>by simp only [hn.1,zc]; exact hn.2
theorem zct{m nt:Nat}{ops:List Oper}{pre:List Nat}{K:Ex→Fr→St→Option R}{K':Nat→Ex→Fr→St→Option R}{r:R}(hK:∀ e fr σ,K e fr σ=some r→Ev fun n=>K' n e fr σ=some r) :
  ∀ (l:List Oper) (i:Nat) (log:List Log) (dead:Option (Nat×V)) (fr:Fr) (σ:St),vl cx m nt (zh cx) ops pre i l log dead fr σ K=some r→Ev fun n=>vl cx m nt (w8 cx n) ops pre i l log dead fr σ (K' n)=some r
 | [],i,log,none,fr,σ,h=>by simp only [vl] at h ⊢; exact hK _ _ _ h
 | [],i,log,some (k,v),fr,σ,h=>by
  simp only [vl] at h ⊢
  obtain ⟨hc,h⟩:=ze h
  rw [hc]
  exact hK _ _ _ h
 | o::l,i,log,dead,fr,σ,h=>by
  simp only [vl] at h ⊢
  cases hd:zkg pre i dead
  ·rw [hd,cond_false] at h
   simp only [cond_false]
   obtain ⟨hc,h⟩:=ze h
   rw [hc]
   simp only [zb,cond_true]
   refine zn4 (fun fr h=>?_) (fun fr h=>zct hK l _ _ _ _ _ h) h
   obtain ⟨p,hp,h⟩:=zd h
   obtain ⟨hm,h⟩:=ze h
   obtain ⟨oc,δ,fp⟩:=p
   cases oc with
   | val v=>exact ((zka hp).both (zct hK l _ _ _ _ _ h)).mono fun n hn=>by simp only [hn.1,zc,hm,cond_true]; exact hn.2
   | pan v=>
    cases dead with
    | none=>exact ((zka hp).both (zct hK l _ _ _ _ _ h)).mono fun n hn=>by simp only [hn.1,zc,hm,cond_true]; exact hn.2
    | some q=>cases h
  ·rw [hd,cond_true] at h
   simp only [cond_true]
   exact zct hK l _ _ _ _ _ h
theorem zqc{nt:Nat}{σ:St}{fr:Fr}{q:Pend}{K:Fr→St→Option R}{K':Nat→Fr→St→Option R}{r:R}(hK:∀ fr σ,K fr σ=some r→Ev fun n=>K' n fr σ=some r)(h:zg8 cx nt σ fr q K=some r) :
  Ev fun n=>zg8 cx nt σ fr q (K' n)=some r:=by
 have key:∃ fr' σ',K fr' σ'=some r∧∀ K'':Fr→St→Option R,K'' fr' σ'=some r→zg8 cx nt σ fr q K''=some r:=by
  unfold zg8 at h ⊢
  obtain ⟨hc,h⟩:=ze h
  rw [hc]
  simp only [zb,cond_true]
  split at h
  case h_2=>cases h
  obtain ⟨hc,h⟩:=ze h
  simp only [hc,cond_true]
  obtain ⟨s,hs,h⟩:=zd h
  obtain ⟨pl,hpl,h⟩:=zd h
  obtain ⟨jv,hjv,h⟩:=zd h
  obtain ⟨v,hv,h⟩:=zd h
  obtain ⟨y,hy,h⟩:=zd h
  simp only [hs,hpl,hjv,hv,hy,zc]
  split at h
  case h_2=>cases h
  split at h
  case h_2=>cases h
  obtain ⟨hc,h⟩:=ze h
  simp only [*,cond_true]
  obtain ⟨sz',ps,hd,h9⟩:=zgi h
  obtain ⟨hc',h10⟩:=ze h9
  refine ⟨_,_,h10,fun K'' hK''=>?_⟩
  unfold dataOf at hd ⊢
  split at hd <;> first | (cases hd; done) | skip
  all_goals (cases hd; simp only [hc',cond_true]; exact hK'')
 obtain ⟨fr',σ',h1,h2⟩:=key
 exact (hK _ _ h1).mono fun n hn=>h2 _ hn
theorem zwm{nt:Nat}{ops:List Oper}{k:Nat}{fr:Fr}{σ:St}{K:List Oper→Fr→St→Option R}{K':Nat→List Oper→Fr→St→Option R}{r:R}(hK:∀ l fr σ,K l fr σ=some r→Ev fun n=>K' n l fr σ=some r)
  (h:ze7 cx nt ops k fr σ K=some r):Ev fun n=>ze7 cx nt ops k fr σ (K' n)=some r:=by
 unfold ze7 at h ⊢
 split at h
 case h_2=>cases h
 obtain ⟨q,hq,h⟩:=zd h
 simp only [hq,zc]
 exact zqc (fun fr σ h=>hK _ _ _ h) h
theorem zwj{nt:Nat}{ops:List Oper}{k:Nat}{fr:Fr}{σ:St}{K:Fr→St→Option R}{K':Nat→Fr→St→Option R}{r:R}(hK:∀ fr σ,K fr σ=some r→Ev fun n=>K' n fr σ=some r)(h:ze6 cx nt ops k fr σ K=some r):Ev fun n=>ze6 cx nt ops k fr σ (K' n)=some r:=by
 unfold ze6 at h ⊢
 split at h
 case h_2=>cases h
 obtain ⟨q,hq,h⟩:=zd h
 simp only [hq,zc]
 refine zqc (fun fr σ h=>?_) h
 split at h
 case h_2=>cases h
 obtain ⟨hc,h⟩:=ze h
 obtain ⟨pv,hpv,h⟩:=zd h
 obtain ⟨v,hv,h⟩:=zd h
 simp only [hc,hpv,hv,zc,cond_true,zb]
 split at h
 case h_2=>cases h
 split at h
 case h_2=>cases h
 rename_i hido
 obtain ⟨hc,h⟩:=ze h
 simp only [hido,hc,cond_true]
 exact hK _ _ h
theorem zjf{m f key:Nat}{fr:Fr}{σ:St}{K:Fr→St→Option R}{K':Nat→Fr→St→Option R}{r:R}(hK:∀ fr σ,K fr σ=some r→Ev fun n=>K' n fr σ=some r)(h:tidy cx m f key fr σ K=some r) :
  Ev fun n=>tidy cx m f key fr σ (K' n)=some r:=by
 unfold tidy at h ⊢
 simp only at h ⊢
 obtain ⟨hc,h⟩:=ze h
 rw [hc]
 exact hK _ _ h
theorem zgc{f m nt N:Nat}:∀ (c:Code) {K:Ex→Fr→St→Option R} {K':Nat→Ex→Fr→St→Option R} {r:R} {fr:Fr} {σ:St},
  (∀ e fr σ,K e fr σ=some r→Ev fun n=>K' n e fr σ=some r)→yt cx f m nt (zh cx) N c fr σ K=some r→Ev fun n=>yt cx f m nt (w8 cx n) n c fr σ (K' n)=some r:=by
 intro c
 induction c with
 | skip=>intro K K' r fr σ hK h; exact hK _ _ _ h
 | label l=>intro K K' r fr σ hK h; exact hK _ _ _ h
 | exit id=>intro K K' r fr σ hK h; exact hK _ _ _ h
 | goto l=>intro K K' r fr σ hK h; exact hK _ _ _ h
 | ret=>intro K K' r fr σ hK h; exact hK _ _ _ h
 | refuse why=>intro K K' r fr σ hK h; cases h
 | rangeFunc f params assign body _ _=>intro K K' r fr σ hK h; cases h
 | region id ops draw=>
  intro K K' r fr σ hK h
  cases draw
  ·simp only [yt] at h ⊢
   generalize cx.pend f id=pk at h ⊢
   cases pk with
   | none=>exact zcs hK _ _ _ h
   | some k=>
    refine zcs (K':=fun n e fr σ=>_) (fun e fr σ h=>?_) _ _ _ h
    cases e with
    | normal=>exact zwm (fun l fr σ h=>zcs hK _ _ _ h) h
    | _=>exact hK _ _ _ h
  ·simp only [yt] at h ⊢
   generalize cx.pend f id=pk at h ⊢
   cases pk with
   | none=>
    obtain ⟨hc,h⟩:=ze h
    rw [hc]
    exact zct hK _ _ _ _ _ _ h
   | some k=>
    simp only at h ⊢
    obtain ⟨hc1,h⟩:=ze h
    obtain ⟨hc,h⟩:=ze h
    rw [hc1,hc]
    refine zct (K':=fun n e fr σ=>_) (fun e fr σ h=>?_) _ _ _ _ _ _ h
    cases e with
    | normal=>exact zwj (fun fr σ h=>hK _ _ _ h) h
    | _=>exact hK _ _ _ h
 | seq x y ihx ihy=>
  intro K K' r fr σ hK h
  refine ihx (fun e fr σ h=>?_) h
  cases e with
  | normal=>exact ihy hK h
  | _=>exact hK _ _ _ h
 | cond c x y ihx ihy=>
  intro K K' r fr σ hK h
  simp only [yt] at h ⊢
  obtain ⟨v,hv,h⟩:=zd h
  obtain ⟨b,rfl,h⟩:=zkj h
  simp only [hv,zc,asB]
  cases b
  ·exact ihy hK h
  ·exact ihx hK h
 | block id c ih=>
  intro K K' r fr σ hK h
  refine ih (fun e fr σ h=>?_) h
  cases e with
  | normal=>exact zjf (fun fr σ h=>hK _ _ _ h) h
  | exit i=>
   simp only at h ⊢
   cases hb:Nat.beq i id <;> rw [hb] at h
   ·exact hK _ _ _ h
   ·exact zjf (fun fr σ h=>hK _ _ _ h) h
  | _=>exact hK _ _ _ h
 | loop c ih=>
  intro K K' r fr σ hK h
  simp only [yt] at h ⊢
  refine zjf (fun fr σ h=>?_) h
  have key:∀ (k:Nat),∀ (fr:Fr) (σ:St),iter (yt cx f m nt (zh cx) N c) (tidy cx m f (2 * yl c+1)) k fr σ K=some r →
    Ev fun n=>∀ k',k≤k'→iter (yt cx f m nt (w8 cx n) n c) (tidy cx m f (2 * yl c+1)) k' fr σ (K' n)=some r:=by
   intro k
   induction k with
   | zero=>intro fr σ h; cases h
   | succ k ihk=>
    intro fr σ h
    simp only [iter] at h
    have h1:Ev fun n=>∀ k',k≤k'→iter (yt cx f m nt (w8 cx n) n c) (tidy cx m f (2 * yl c+1)) (k'+1) fr σ (K' n)=some r:=by
     -- one number of rounds for all
     have:=ih (K:=fun e fr σ=>match e with
      | .normal=>tidy cx m f (2 * yl c+1) fr σ fun fr σ=>iter (yt cx f m nt (zh cx) N c) (tidy cx m f (2 * yl c+1)) k fr σ K
      | e=>K e fr σ)
      (K':=fun n e fr σ=>match e with
      | .normal=>tidy cx m f (2 * yl c+1) fr σ fun fr σ=>iter (yt cx f m nt (w8 cx n) n c) (tidy cx m f (2 * yl c+1)) k fr σ (K' n)
      | e=>K' n e fr σ) (r:=r) (fr:=fr) (σ:=σ) (fun e fr σ h=>by
       cases e with
       | normal=>exact zjf (fun fr σ h=>(ihk fr σ h).mono fun n hn=>hn k (Nat.le_refl k)) h
       | _=>exact hK _ _ _ h) h
     refine this.mono fun n hn k' hk'=>?_
     simp only [iter]
     have hmono:∀ (k k':Nat),k≤k'→∀ (fr:Fr) (σ:St),iter (yt cx f m nt (w8 cx n) n c) (tidy cx m f (2 * yl c+1)) k fr σ (K' n)=some r →
       iter (yt cx f m nt (w8 cx n) n c) (tidy cx m f (2 * yl c+1)) k' fr σ (K' n)=some r:=by
      intro k
      induction k with
      | zero=>intro k' _ fr σ h; cases h
      | succ k ihk=>
       intro k' hle fr σ h
       obtain ⟨k',rfl⟩:∃ j,k'=j+1:=⟨k' - 1,by omega⟩
       simp only [iter] at h ⊢
       refine zbx (fun _ _ _ _ _ h=>h) (Nat.le_refl _) c (fun e fr σ h=>?_) h
       cases e with
       | normal=>exact zdu (fun fr σ h=>ihk k' (by omega) _ _ h) h
       | _=>exact h
     refine zbx (fun _ _ _ _ _ h=>h) (Nat.le_refl _) c (fun e fr σ h=>?_) hn
     cases e with
     | normal=>exact zdu (fun fr σ h=>hmono k k' hk' _ _ h) h
     | _=>exact h
    refine h1.mono fun n hn k' hk'=>?_
    obtain ⟨k',rfl⟩:∃ j,k'=j+1:=⟨k' - 1,by omega⟩
    exact hn k' (by omega)
  obtain ⟨a,ha⟩:=key N fr σ h
  exact ⟨max a N,fun n hn=>ha n (by omega) n (by omega)⟩
 | scope c ih=>
  intro K K' r fr σ hK h
  refine ih (fun e fr σ h=>?_) h
  cases e with
  | goto l=>cases h
  | _=>exact hK _ _ _ h
theorem zra{f m nt N:Nat}:∀ (as:List Code) {K:Ex→Fr→St→Option R} {K':Nat→Ex→Fr→St→Option R} {r:R} {fr:Fr} {σ:St},
  (∀ e fr σ,K e fr σ=some r→Ev fun n=>K' n e fr σ=some r)→zgz cx f m nt (zh cx) N as fr σ K=some r→Ev fun n=>zgz cx f m nt (w8 cx n) n as fr σ (K' n)=some r
 | [],K,K',r,fr,σ,hK,h=>hK _ _ _ h
 | c::as,K,K',r,fr,σ,hK,h=>by
  simp only [zgz] at h ⊢
  refine zgc c (fun e fr σ h=>?_) h
  cases e with
  | normal=>exact zra as hK h
  | _=>exact hK _ _ _ h
theorem zzp{N g:Nat}{args:List V}{σ σ':St}{u:Option D}(h:zca cx (zh cx) N g args σ u=some σ'):Ev fun n=>zca cx (w8 cx n) n g args σ u=some σ':=by
 unfold zca at h ⊢
 split at h
 ·cases h
 ·rename_i fn hfn
  split at h
  ·rename_i id ops c hb
   split at h
   ·rename_i o r hops
    obtain ⟨t,ht,h⟩:=zd h
    obtain ⟨hc,h⟩:=ze h
    simp only [hops,ht,zc,hc,zb,cond_true]
    rw [hops] at h
    refine zcs (fun e fr σ h=>?_) _ _ _ h
    cases e with
    | normal=>exact zgc c (fun _ _ _ h=>.all h) h
    | _=>cases h
   ·cases h
  ·cases h
theorem zlk{N:Nat}{σ:St}{g:Nat}{cap:List V}{u:Option D}{K:De→Option R}{r:R}
  (h:zhk cx (zca cx (zh cx) N) σ g cap u K=some r):Ev fun n=>zhk cx (zca cx (w8 cx n) n) σ g cap u K=some r:=by
 unfold zhk at h ⊢
 simp only at h ⊢
 obtain ⟨hc,h⟩:=ze h
 rw [hc]
 simp only [zb,cond_true]
 cases hq:zca cx (zh cx) N g (V.renL (xo (qa σ 1000 (V.idsL cap) [])) cap) (xn σ (qa σ 1000 (V.idsL cap) []) 0 (qa σ 1000 (V.idsL cap) [])) u with
 | none=>rw [hq] at h; cases h
 | some p=>rw [hq] at h; exact (zzp hq).mono fun n hn=>by rw [hn]; exact h
theorem z2r{N f m:Nat}{res:List ResultVar}{g:Nat}{cap:List V}{e:Ex}{fr:Fr}{σ:St}{r:Out×St}
  (h:zpw cx (zca cx (zh cx) N) f m res g cap e fr σ=some r):Ev fun n=>zpw cx (zca cx (w8 cx n) n) f m res g cap e fr σ=some r:=by
 unfold zpw at h ⊢
 split at h
 ·exact zlk h
 ·exact zlk h
 ·exact zlk h
 ·cases h
theorem zzt{f m nt N:Nat}{res:List ResultVar}{c:Code}{fr:Fr}{σ:St}{r:Out×St}
  (h:zhh cx f m nt res (zh cx) N c fr σ=some r):Ev fun n=>zhh cx f m nt res (w8 cx n) n c fr σ=some r:=by
 unfold zhh at h ⊢
 split at h
 ·cases h
 ·rename_i as id ops t b hsp
  refine zra as (K':=fun n e fr σ=>_) (fun e fr σ h=>?_) h
  cases e with
  | normal=>
   refine zcs (K':=fun n e fr σ=>_) (fun e fr σ h=>?_) _ _ _ h
   cases e with
   | normal=>
    simp only at h ⊢
    obtain ⟨fv,hfv,h⟩:=zd h
    simp only [hfv,zc]
    split at h
    ·obtain ⟨ht,h⟩:=ze h
     simp only [ht,zb,cond_true]
     exact zgc b (fun e fr σ h=>z2r h) h
    ·cases h
   | _=>exact .all h
  | _=>exact .all h
theorem z13{N f:Nat}{args:List V}{σ:St}{r:Out×St}(h:za8 cx (zh cx) N f args σ=some r):zh cx f args σ=some r:=by
 have:Ev fun n=>za8 cx (w8 cx n) n f args σ=some r:=by
  unfold za8 at h ⊢
  split at h
  ·exact .all h
  split at h
  ·cases h
  ·rename_i fn hfn
   split at h
   ·cases h
   ·rename_i c hc
    cases hd:cx.dfr f <;> rw [hd] at h
    ·exact zgc c (fun e fr σ h=>.all h) h
    ·exact zzt h
 obtain ⟨a,ha⟩:=this
 exact zhd (n:=a+1) (by rw [zob]; exact ha a (Nat.le_refl a))
end
end Go.Vai
end

section
namespace Go.Vai
section
variable {α R:Type} {cx:Cx} {σ:St}
theorem zs6(site t:Nat)(s x:V)(b:Bool)(F:V→De→List Nat→Option α)(K:α→Option R):zc (zey cx σ site t s x b F) K=zey cx σ site t s x b fun a b c=>zc (F a b c) K:=by
 unfold zey
 split <;> try rfl
 simp only [zva,z8,xh]
 congr 1; funext a l; congr 1; congr 1
 split <;> try rfl
 all_goals (split <;> simp only [z8,z7])
theorem ztr(site t:Nat)(x:V)(lo hi mx:Option V)(F:V→De→List Nat→Option α)(K:α→Option R):zc (zfv cx σ site t x lo hi mx F) K=zfv cx σ site t x lo hi mx fun a b c=>zc (F a b c) K:=by
 unfold zfv
 split <;> try rfl
 ·split <;> simp only [zo1,z7]
 ·simp only [zoq,z8]
  congr 1; congr 1; funext a l; congr 1
  split <;> simp only [zo1,z8,xh]
theorem zzi(t:Nat)(x:V)(F:V→List Nat→Option α)(K:α→Option R):zc (lenV cx σ t x F) K=lenV cx σ t x fun a b=>zc (F a b) K:=by
 unfold lenV
 split <;> try rfl
 split <;> rfl
theorem zmk(t:Nat)(x i:V)(F:V→Option α)(K:α→Option R):zc (zcq cx t x i F) K=zcq cx t x i fun a=>zc (F a) K:=by
 unfold zcq
 split <;> try rfl
 all_goals
  simp only [z8]
  congr 1
  split <;> simp only [ziz,zbs,z8,z7]
theorem zmm(s:Nat)(x:V)(f:Nat)(F:V→Option α)(K:α→Option R):zc (zcr cx s x f F) K=zcr cx s x f fun a=>zc (F a) K:=by
 unfold zcr
 simp only [yw,z8]
 congr 1; funext p; congr 1
 split <;> rfl
theorem zng(t:Nat)(v:V)(off:Nat)(F:V→Option α)(K:α→Option R):zc (zjr cx t v off F) K=zjr cx t v off fun a=>zc (F a) K:=by
 unfold zjr
 simp only [z8,xh,zdx,zgl]
theorem zuh(t:Nat)(x i:V)(F:V→Option α)(K:α→Option R):zc (zlc cx t x i F) K=zlc cx t x i fun a=>zc (F a) K:=by
 unfold zlc
 split <;> try rfl
 ·split <;> simp only [ziz,yw,z7]
 ·simp only [ziz,zng]
theorem zs5(P:Program)(t:Nat)(ok:Bool)(x:V)(F:V→Option α)(K:α→Option R):zc (zki P t ok x F) K=zki P t ok x fun a=>zc (F a) K:=by
 unfold zki
 rw [z8]
 split
 ·rw [xh]; rfl
 ·rfl
theorem zzc(l:List V)(F:V→Option α)(K:α→Option R):zc (zzd l F) K=zzd l fun a=>zc (F a) K:=by
 unfold zzd
 split <;> rfl
theorem zwe(site g:Nat)(cap:List V)(args:List Operand)(fr:Fr)(F:Oc→De→List Nat→Option α)(K:α→Option R):zc (zij cx σ site g cap args fr F) K=zij cx σ site g cap args fr fun a b c=>zc (F a b c) K:=by
 unfold zij
 split <;> try rfl
 simp only [yw]
 congr 1; funext e; congr 1; funext v
 split <;> simp only [z8,z7]
theorem zw3(s t:Nat)(x:V)(F:V→List Nat→Option α)(K:α→Option R):zc (zor cx σ s t x F) K=zor cx σ s t x fun a b=>zc (F a b) K:=by
 unfold zor
 split <;> try rfl
 split <;> simp only [z8,z7]
theorem zkz{β:Type}(o:Option β)(F:β→Option α)(E:Option α)(K:α→Option R):zc (zis o F E) K=zis o (fun b=>zc (F b) K) (zc E K):=by cases o <;> rfl
theorem zsh(t:Nat)(x k:V)(ok:Bool)(F:V→List Nat→Option α)(K:α→Option R):zc (zdn cx σ t x k ok F) K=zdn cx σ t x k ok fun a b=>zc (F a b) K:=by
 unfold zdn
 split <;> try rfl
 simp only [yw,zo9,z8]
 congr 1; funext z; congr 1; funext key; congr 1
 split <;> try rfl
 ·simp only [yw,zkz,zbs,zbq]
 ·split <;> simp only [yw,zkz,zbs,zbq,z7]
theorem zsf(t:Nat)(x k v:V)(F:De→List Nat→Option α)(K:α→Option R):zc (zdm cx σ t x k v F) K=zdm cx σ t x k v fun a b=>zc (F a b) K:=by
 unfold zdm
 split <;> try rfl
 split <;> try rfl
 split <;> simp only [yw,zo9,z8,zkz,z7]
theorem zmj(site t:Nat)(l c:V)(F:V→De→List Nat→Option α)(K:α→Option R):zc (qt cx σ site t l c F) K=qt cx σ site t l c fun a b d=>zc (F a b d) K:=by
 unfold qt
 split <;> simp only [yw,z8,z7]
theorem zvr(v:V)(F:V→De→List Nat→Option α)(K:α→Option R):zc (zif σ v F) K=zif σ v fun a b d=>zc (F a b d) K:=by
 unfold zif
 split <;> try rfl
 split <;> simp only [z8,z7]
theorem zzr{m nt:Nat}{call:yu}{o:Oper}{fr:Fr}(F:Oc→De→List Nat→Option α)(K:α→Option R):zc (x6 cx m nt call o fr σ F) K=x6 cx m nt call o fr σ fun a b c=>zc (F a b c) K:=by
 obtain ⟨dst,op,type,pos,after,guard⟩:=o
 cases op
 case makeFunc fn first caps=>cases fn <;> simp only [x6,z8,yw,z7,xh]
 case makeMap t r=>cases r <;> simp only [x6,z8,z7]
 case move x | assign x=>
  simp only [x6]
  split
  ·split <;> try rfl
   split <;> simp only [xh,zv0]
  ·simp only [yw,xh,zvr]
 case buildSlice t n ps=>
  simp only [x6]
  cases zsn cx nt dst ps.toList <;> cases cx.own nt (dst.getD 0) <;> split <;> simp only [yw,z8,z7,cond_true,cond_false]
 case nilCheck x=>
  simp only [x6,yw]
  congr 1; funext v
  split <;> rfl
 case convert s t x=>
  simp only [x6,yw]
  congr 1; funext v
  split
  ·split <;> simp only [z8,z7]
  ·simp only [zw2,zw3,xh]
 case makeInterface t x=>
  simp only [x6]
  split <;> try rfl
  simp only [yw]
  congr 1; funext v
  split <;> rfl
 case panic x=>
  simp only [x6,yw]
  congr 1; funext v
  split <;> rfl
 case call c=>
  obtain ⟨callee,cargs,ctypes⟩:=c
  cases callee with
  | value f=>
   simp only [x6,yw]
   congr 1; funext v
   split
   ·simp only [yw,zi7]
   ·simp only [xh,yw,z8,zi7,zzc,zwe]
   ·rfl
  | invoke r nm=>rfl
  | builtin b=>
   cases b <;> try rfl
   ·simp only [x6]
    split <;> simp only [yw,z8,zs6,z7]
   ·simp only [x6]
    split <;> simp only [yw,zzi,z7]
 all_goals first | rfl | (simp only [x6,yw,z8,xh,z7,zsh,zsf,zmj,z3i,zwa,ztm,z0a,z02,zza,ztr,zmm,zng,zmk,zuh,zo5,zdx,zs5]; done)
theorem zoa{m nt:Nat}{call:yu}{o:Oper}{fr:Fr}(K:Tri→Option R):zc (zbe cx m nt call o fr σ) K=x6 cx m nt call o fr σ fun a b c=>K (a,b,c):=by
 unfold zbe
 rw [zzr]
 rfl
structure CK (R:Type) where
 S:yu
 run:Nat→List V→St→(Out→St→Option R)→Option R
 ok:∀ g a σ K,run g a σ K=(match S g a σ with | some (o,σ')=>K o σ' | none=>none)
def CK.plain{R:Type}(S:yu):CK R:=⟨S,fun g a σ K=>match S g a σ with | some (o,σ')=>K o σ' | none=>none,fun _ _ _ _=>rfl⟩
instance {R:Type}:Coe yu (CK R):=⟨CK.plain⟩
def zlj(cx:Cx)(call:CK R)(σ:St)(t f:Nat)(args:List V)(xs:List Nat)(K:Oc→De→List Nat→Option R):Option R:=
 let ren:=qa σ 1000 (V.idsL args++xs) []
 zb (closedIn σ (V.idsL args++xs) ren) <| zb (cx.dom f (V.renL (xo ren) args)) <| call.run f (V.renL (xo ren) args) (xn σ ren 0 ren) fun oc σ'=>match oc with
  | .ret v=>za9 ren σ σ' 0 ren fun δ=>zgn cx.P t (v.ren (zcd ren)) fun v=>K (.val v) δ ren
  | .pan v=>za9 ren σ σ' 0 ren fun δ=>K (.pan (v.ren (zcd ren))) δ ren
theorem zz6{call:CK R}{t f:Nat}{args:List V}{xs:List Nat}{K:Oc→De→List Nat→Option R}:zlj cx call σ t f args xs K=qo cx call.S σ t f args xs K:=by
 unfold zlj qo
 simp only
 congr 1
 congr 1
 rw [call.ok]
 cases call.S f (V.renL (xo (qa σ 1000 (V.idsL args++xs) [])) args) (xn σ (qa σ 1000 (V.idsL args++xs) []) 0 (qa σ 1000 (V.idsL args++xs) [])) with
 | none=>rfl
 | some p=>
  obtain ⟨o,s⟩:=p
  cases o <;> rfl
def zyh(cx : Cx)(m nt : Nat)(call : CK R)(o : Oper)(fr : Fr)(σ : St)(K : Oc → De → List Nat → Option R) : Option R :=
  match o.op with
  | .call ⟨.value f, cargs, ctypes⟩ => zc (opd fr f) fun fv => (match fv with
        | .mfunc g first => zc (zab cx.P fr cargs.toList ctypes.toList) fun args => zlj cx call σ o.type g (first.map .d ++ zbd (cx.keep g) args) [] K
        | .func g cap => bif (cx.grow g).isSome then zij cx σ (m + o.dst.getD 0) g cap cargs.toList fr K else bif zhe cx.P g && cap.isEmpty then zc (zab cx.P fr cargs.toList ctypes.toList) fun l => zzd l fun v => K (.val v) [] [] else bif cx.gives g
          then zc (zab cx.P fr cargs.toList ctypes.toList) fun l => zb (yf σ [(m + o.dst.getD 0, .tok 0)]) (zlj cx call (qg σ (m + o.dst.getD 0) (.tok 0)) o.type g (zbd (cx.keep g) l ++ cap) [m + o.dst.getD 0] fun oc δ fp => K oc ((m + o.dst.getD 0, .tok 0) :: δ) ((m + o.dst.getD 0) :: fp))
          else bif cx.keep g && zi0 cargs.toList
          then zc (zbj cx.P fr (m + o.dst.getD 0) cargs.toList ctypes.toList) fun l => zb (yf σ [(m + o.dst.getD 0, .tok 0)]) (zlj cx call (qg σ (m + o.dst.getD 0) (.tok 0)) o.type g (l ++ cap) [] fun oc δ fp => K oc ((m + o.dst.getD 0, .tok 0) :: δ) ((m + o.dst.getD 0) :: fp))
          else zc (zab cx.P fr cargs.toList ctypes.toList) fun args => zlj cx call σ o.type g (zbd (cx.keep g) args ++ cap) [] K
        | _ => none)
  | _ => x6 cx m nt call.S o fr σ K
theorem zuy{m nt:Nat}{call:CK R}{o:Oper}{fr:Fr}{K:Oc→De→List Nat→Option R}:zyh cx m nt call o fr σ K=x6 cx m nt call.S o fr σ K:=by
 obtain ⟨dst,op,type,pos,after,guard⟩:=o
 cases op <;> try rfl
 case call c=>
  obtain ⟨callee,cargs,ctypes⟩:=c
  cases callee <;> try rfl
  unfold zyh x6
  simp only [zz6]
  congr 1
def ze8(cx:Cx)(m nt:Nat)(call:CK R)(ops:List Oper):List Oper→Fr→St→(Ex→Fr→St→Option R)→Option R
 | [],fr,σ,K=>K .normal fr σ
 | o::r,fr,σ,K=>zb (zl8 nt o.dst) <| zdd ops o fr
   (fun fr=>zyh cx m nt call o fr σ fun oc δ _=>match oc with
    | .val v=>ze8 cx m nt call ops r (zek fr o.dst v) (zf σ δ) K
    | .pan v=>K (.pan v) fr (zf σ δ))
   (fun fr=>ze8 cx m nt call ops r (zek fr o.dst qp) σ K)
theorem zh5{m nt:Nat}{call:CK R}{ops:List Oper}{K:Ex→Fr→St→Option R}:∀ (l:List Oper) (fr:Fr) (σ:St),zci cx m nt call.S ops l fr σ K=ze8 cx m nt call ops l fr σ K
 | [],_,_=>rfl
 | o::l,fr,σ=>by
  unfold zci ze8
  congr 1
  congr 1
  ·funext fr
   rw [zoa,zuy]
   congr 1
   funext oc δ fp
   cases oc with
   | val v=>exact zh5 l _ _
   | pan v=>rfl
  ·funext fr
   exact zh5 l _ _
def zex(cx:Cx)(m nt:Nat)(call:CK R)(ops:List Oper)(pre:List Nat) :
  Nat→List Oper→List Log→Option (Nat×V)→Fr→St→(Ex→Fr→St→Option R)→Option R
 | _,[],_,none,fr,σ,K=>K .normal fr σ
 | _,[],log,some (k,v),_,σ,K=>zb (log.all fun a=>a.w.isEmpty||Nat.beq a.i k||xb pre k a.i) (K (.pan v) [] σ)
 | i,o::r,log,dead,fr,σ,K=>
   bif zkg pre i dead then zex cx m nt call ops pre (i+1) r log dead fr σ K
   else zb (zl8 nt o.dst) <| zdd ops o fr
    (fun fr=>zyh cx m nt call o fr σ fun oc δ fp=>zb (log.all fun a=>ze1 pre a ⟨i,δ.map (·.1)++fp,δ.map (·.1)⟩) (match oc,dead with
     | .val u,_=>zex cx m nt call ops pre (i+1) r (⟨i,δ.map (·.1)++fp,δ.map (·.1)⟩::log) dead (zek fr o.dst u) (zf σ δ) K
     | .pan v,none=>zex cx m nt call ops pre (i+1) r (⟨i,δ.map (·.1)++fp,δ.map (·.1)⟩::log) (some (i,v)) fr (zf σ δ) K
     | .pan _,some _=>none))
    (fun fr=>zex cx m nt call ops pre (i+1) r log dead (zek fr o.dst qp) σ K)
theorem zfi{m nt:Nat}{call:CK R}{ops:List Oper}{pre:List Nat}{K:Ex→Fr→St→Option R}:∀ (l:List Oper) (i:Nat) (log:List Log) (dead:Option (Nat×V)) (fr:Fr) (σ:St),
  vl cx m nt call.S ops pre i l log dead fr σ K=zex cx m nt call ops pre i l log dead fr σ K
 | [],_,_,none,_,_=>rfl
 | [],_,_,some _,_,_=>rfl
 | o::l,i,log,dead,fr,σ=>by
  unfold vl zex
  rw [zfi l]
  congr 1
  congr 1
  congr 1
  ·funext fr
   rw [zoa,zuy]
   congr 1
   funext oc δ fp
   congr 1
   cases oc with
   | val v=>exact zfi l _ _ _ _ _
   | pan v=>
    cases dead with
    | none=>exact zfi l _ _ _ _ _
    | some q=>rfl
  ·funext fr
   exact zfi l _ _ _ _ _
end
end Go.Vai
end

section
namespace Go.Vai
section
variable {R:Type} {cx:Cx}
def x9(cx:Cx)(f m nt:Nat)(call:CK R)(n:Nat):Code→Fr→St→(Ex→Fr→St→Option R)→Option R
 | .skip,fr,σ,K=>K .normal fr σ
 | .label _,fr,σ,K=>K .normal fr σ
 | .region id ops false,fr,σ,K=>(match cx.pend f id with
   | none=>ze8 cx m nt call ops.toList ops.toList fr σ K
   | some k=>ze8 cx m nt call ops.toList (ops.toList.take k) fr σ fun e fr σ=>match e with
     | .normal=>ze7 cx nt ops.toList k fr σ fun r fr σ=>ze8 cx m nt call ops.toList r fr σ K
     | e=>K e fr σ)
 | .region id ops true,fr,σ,K=>(match cx.pend f id with
   | none=>zb (zge ops.toList (qq ops.toList [])) (zex cx m nt call ops.toList (qq ops.toList []) 0 ops.toList [] none fr σ K)
   | some k=>zb (zg5 ops.toList k) <| zb (zge ops.toList (qq ops.toList [])) (zex cx m nt call ops.toList (qq ops.toList []) 0 (ops.toList.take k) [] none fr σ fun e fr σ=>match e with
     | .normal=>ze6 cx nt ops.toList k fr σ (K .normal)
     | e=>K e fr σ))
 | .seq a b,fr,σ,K=>x9 cx f m nt call n a fr σ fun e fr σ=>match e with
   | .normal=>x9 cx f m nt call n b fr σ K
   | e=>K e fr σ
 | .cond c a b,fr,σ,K=>zc (opd fr c) fun v=>asB v fun t=>bif t then x9 cx f m nt call n a fr σ K else x9 cx f m nt call n b fr σ K
 | .block id c,fr,σ,K=>x9 cx f m nt call n c fr σ fun e fr σ=>match e with
   | .normal=>tidy cx m f (2 * id) fr σ (K .normal)
   | .exit id'=>bif Nat.beq id' id then tidy cx m f (2 * id) fr σ (K .normal) else K (.exit id') fr σ
   | e=>K e fr σ
 | .loop c,fr,σ,K=>tidy cx m f (2 * yl c+1) fr σ fun fr σ=>
   iter (x9 cx f m nt call n c) (tidy cx m f (2 * yl c+1)) n fr σ K
 | .exit id,fr,σ,K=>K (.exit id) fr σ
 | .goto l,fr,σ,K=>K (.goto l) fr σ
 | .ret,fr,σ,K=>K .ret fr σ
 | .scope c,fr,σ,K=>x9 cx f m nt call n c fr σ fun e fr σ=>match e with
   | .goto _=>none
   | e=>K e fr σ
 | _,_,_,_=>none
theorem zkc{f m nt n:Nat}{call:CK R}:∀ (c:Code) (fr:Fr) (σ:St) (K:Ex→Fr→St→Option R),yt cx f m nt call.S n c fr σ K=x9 cx f m nt call n c fr σ K:=by
 intro c
 induction c with
 | skip=>intros; rfl
 | label l=>intros; rfl
 | exit id=>intros; rfl
 | goto l=>intros; rfl
 | ret=>intros; rfl
 | refuse why=>intros; rfl
 | rangeFunc f params assign body _ _=>intros; rfl
 | region id ops draw=>
  intro fr σ K
  cases draw
  ·unfold yt x9
   cases cx.pend f id with
   | none=>exact zh5 _ _ _
   | some k=>
    simp only [zh5]
    rfl
  ·unfold yt x9
   cases cx.pend f id with
   | none=>simp only [zfi]
   | some k=>
    simp only [zfi]
    rfl
 | seq x y ihx ihy=>
  intro fr σ K
  unfold yt x9
  rw [ihx]
  congr 1
  funext e fr σ
  cases e <;> first | rfl | exact ihy _ _ _
 | cond c x y ihx ihy=>
  intro fr σ K
  unfold yt x9
  simp only [ihx,ihy]
 | block id c ih=>
  intro fr σ K
  unfold yt x9
  rw [ih]
  congr 1
 | loop c ih=>
  intro fr σ K
  unfold yt x9
  congr 1
  funext fr σ
  have e:(fun (fr:Fr) (σ:St) (K:Ex→Fr→St→Option R)=>yt cx f m nt call.S n c fr σ K)=fun fr σ K=>x9 cx f m nt call n c fr σ K:=by
   funext fr σ K
   exact ih fr σ K
  exact congrArg (fun body=>iter body (tidy cx m f (2 * yl c+1)) n fr σ K) e
 | scope c ih=>
  intro fr σ K
  unfold yt x9
  rw [ih]
  congr 1
def zsr(cx:Cx)(f m nt:Nat)(call:CK R)(n:Nat):List Code→Fr→St→(Ex→Fr→St→Option R)→Option R
 | [],fr,σ,K=>K .normal fr σ
 | a::r,fr,σ,K=>x9 cx f m nt call n a fr σ fun e fr σ=>match e with
   | .normal=>zsr cx f m nt call n r fr σ K
   | e=>K e fr σ
theorem zyf{f m nt n:Nat}{call:CK R}:∀ (as:List Code) (fr:Fr) (σ:St) (K:Ex→Fr→St→Option R),zgz cx f m nt call.S n as fr σ K=zsr cx f m nt call n as fr σ K
 | [],_,_,_=>rfl
 | a::as,fr,σ,K=>by
  unfold zgz zsr
  rw [zkc]
  congr 1
  funext e fr σ
  cases e <;> first | rfl | exact zyf as _ _ _
def zwl(cx:Cx)(call:yu)(n g:Nat)(args:List V)(σ:St)(u:Option D):Option St:=
 match cx.P.funcs[g]? with
 | none=>none
 | some fn=>
  match fn.body with
  | some (.seq (.region _ ops false) c)=>
   (match ops.toList with
    | o::r=>zc (zjq o) fun t=>zb (Nat.blt t fn.ntmps&&fn.results.isEmpty) <|
     ze8 cx σ.length fn.ntmps (CK.plain call) ops.toList r ((t,.d (z6s u))::zat 0 args) σ fun e fr σ'=>match e with
      | .normal=>x9 cx g σ.length fn.ntmps (CK.plain call) n c fr σ' fun e _ σ'=>(match e with | .normal | .ret=>zao σ.length σ' (List.range σ.length) | _=>none)
      | _=>none
    | []=>none)
  | _=>none
theorem z42{call:yu}{n:Nat}:zca cx call n=zwl cx call n:=by
 funext g args σ u
 unfold zca zwl
 have e:∀ {R:Type},(CK.plain call:CK R).S=call:=rfl
 simp only [←zh5,←zkc,e]
 rfl
def zwo(cx:Cx)(f m nt:Nat)(res:List ResultVar)(call:CK (Out×St))(n:Nat)(c:Code)(fr:Fr)(σ:St):Option (Out×St):=
 match zfu c with
 | none=>none
 | some (as,_,ops,t,b)=>
  zsr cx f m nt call n as fr σ fun e fr σ=>match e with
   | .normal=>ze8 cx m nt call ops.toList ops.toList.dropLast fr σ fun e fr σ=>(match e with
     | .normal=>zc (zi fr t) fun fv=>(match fv with
       | .func g cap=>zb (!zbh b) (x9 cx f m nt call n b fr σ (zpw cx (zwl cx call.S n) f m res g cap))
       | _=>none)
     | e=>zkf cx f m res e fr σ)
   | e=>zkf cx f m res e fr σ
theorem z44{f m nt n:Nat}{res:List ResultVar}{call:CK (Out×St)}{c:Code}{fr:Fr}{σ:St}:zhh cx f m nt res call.S n c fr σ=zwo cx f m nt res call n c fr σ:=by
 unfold zhh zwo
 simp only [zyf,zh5,zkc,z42]
 rfl
def zk(cx:Cx)(call:CK (Out×St))(n f:Nat)(args:List V)(σ:St):Option (Out×St):=
 match cx.nat f args σ with
 | some r=>some r
 | none=>
 match cx.P.funcs[f]? with
 | none=>none
 | some fn=>
  match fn.body with
  | none=>none
  | some c=>bif cx.dfr f then zwo cx f σ.length fn.ntmps fn.results.toList call n c (zat 0 args) σ
   else x9 cx f σ.length fn.ntmps call n c (zat 0 args) σ (zkf cx f σ.length fn.results.toList)
theorem zut{call:CK (Out×St)}{n f:Nat}{args:List V}{σ:St}:za8 cx call.S n f args σ=zk cx call n f args σ:=by
 unfold za8 zk
 simp only [z44,zkc]
 rfl
theorem zl{call:CK (Out×St)}(hk:knows cx call.S (zh cx)){N f:Nat}{args:List V}{σ:St}{r:Out×St}(h:zk cx call N f args σ=some r):zh cx f args σ=some r:=
 z13 (N:=N) (zl7 hk (Nat.le_refl N) f args σ r (by rw [zut]; exact h))
theorem xx{call:yu}(hk:knows cx call (zh cx)){N f:Nat}{args:List V}{σ:St}{r:Out×St}(h:zk cx (CK.plain call) N f args σ=some r):zh cx f args σ=some r:=
 zl (call:=CK.plain call) hk h
end
end Go.Vai
end

section
namespace Go.Vai
section
variable {R:Type}
def codeOf(cx:Cx)(f:Nat):Code:=match cx.P.funcs[f]? with | some fn=>(match fn.body with | some c=>c | none=>.skip) | none=>.skip
def z1s(cx:Cx)(f:Nat):Nat:=match cx.P.funcs[f]? with | some fn=>fn.ntmps | none=>0
def z9e(cx:Cx)(f:Nat):List ResultVar:=match cx.P.funcs[f]? with | some fn=>fn.results.toList | none=>[]
def findLoop(r:Nat):Code→Option Code
 | .loop c=>bif Nat.beq (yl c) r then some c else findLoop r c
 | .seq a b=>(match findLoop r a with | some c=>some c | none=>findLoop r b)
 | .cond _ a b=>(match findLoop r a with | some c=>some c | none=>findLoop r b)
 | .block _ c=>findLoop r c
 | .scope c=>findLoop r c
 | _=>none
def z52(cx:Cx)(f r:Nat):Code:=match findLoop r (codeOf cx f) with | some c=>c | none=>.skip
def LP(cx:Cx)(call:CK R)(n f m r k:Nat)(fr:Fr)(σ:St)(K:Ex→Fr→St→Option R):Option R:=
 iter (x9 cx f m (z1s cx f) call n (z52 cx f r)) (tidy cx m f (2 * r+1)) k fr σ K
def zvb(cx:Cx)(f m nt:Nat)(call:CK R)(n r:Nat):Code→(Ex→Fr→St→Option R)→Option (Ex→Fr→St→Option R)
 | .loop c,K=>bif Nat.beq (yl c) r then some K else none
 | .seq a b,K=>(match zvb cx f m nt call n r a (fun e fr σ=>match e with
   | .normal=>x9 cx f m nt call n b fr σ K
   | e=>K e fr σ) with | some k=>some k | none=>zvb cx f m nt call n r b K)
 | .cond _ a b,K=>(match zvb cx f m nt call n r a K with | some k=>some k | none=>zvb cx f m nt call n r b K)
 | .block id c,K=>zvb cx f m nt call n r c fun e fr σ=>match e with
   | .normal=>tidy cx m f (2 * id) fr σ (K .normal)
   | .exit id'=>bif Nat.beq id' id then tidy cx m f (2 * id) fr σ (K .normal) else K (.exit id') fr σ
   | e=>K e fr σ
 | .scope c,K=>zvb cx f m nt call n r c fun e fr σ=>match e with
   | .goto _=>none
   | e=>K e fr σ
 | _,_=>none
def AK(cx:Cx)(call:CK R)(n f m r:Nat)(K:Ex→Fr→St→Option R):Ex→Fr→St→Option R:=
 match zvb cx f m (z1s cx f) call n r (codeOf cx f) K with | some k=>k | none=>fun _ _ _=>none
def inK(cx:Cx)(call:CK R)(n f m r k:Nat)(K:Ex→Fr→St→Option R):Ex→Fr→St→Option R:=fun e fr σ=>
 match e with
 | .normal=>tidy cx m f (2 * r+1) fr σ fun fr σ=>LP cx call n f m r k fr σ K
 | e=>K e fr σ
def AL(cx:Cx)(call:CK R)(n f m r r':Nat)(K:Ex→Fr→St→Option R):Ex→Fr→St→Option R:=
 match zvb cx f m (z1s cx f) call n r' (z52 cx f r) K with | some k=>k | none=>fun _ _ _=>none
def EK(cx:Cx)(f m:Nat):Ex→Fr→St→Option (Out×St):=zkf cx f m (z9e cx f)
end
end Go.Vai
end

section
namespace Go.Vai
section
variable {R:Type}
def zax(r:Nat):Code→Option (List Oper)
 | .region id ops _=>bif Nat.beq id r then some ops.toList else none
 | .loop c=>zax r c
 | .seq a b=>(match zax r a with | some c=>some c | none=>zax r b)
 | .cond _ a b=>(match zax r a with | some c=>some c | none=>zax r b)
 | .block _ c=>zax r c
 | .scope c=>zax r c
 | _=>none
def z1k(cx:Cx)(f r:Nat):List Oper:=match zax r (codeOf cx f) with | some l=>l | none=>[]
def zw1(cx:Cx)(f m nt:Nat)(call:CK R)(n r:Nat):Code→(Ex→Fr→St→Option R)→Option (Ex→Fr→St→Option R)
 | .region id _ _,K=>bif Nat.beq id r then some K else none
 | .seq a b,K=>(match zw1 cx f m nt call n r a (fun e fr σ=>match e with
   | .normal=>x9 cx f m nt call n b fr σ K
   | e=>K e fr σ) with | some k=>some k | none=>zw1 cx f m nt call n r b K)
 | .cond _ a b,K=>(match zw1 cx f m nt call n r a K with | some k=>some k | none=>zw1 cx f m nt call n r b K)
 | .block id c,K=>zw1 cx f m nt call n r c fun e fr σ=>match e with
   | .normal=>tidy cx m f (2 * id) fr σ (K .normal)
   | .exit id'=>bif Nat.beq id' id then tidy cx m f (2 * id) fr σ (K .normal) else K (.exit id') fr σ
   | e=>K e fr σ
 | .scope c,K=>zw1 cx f m nt call n r c fun e fr σ=>match e with
   | .goto _=>none
   | e=>K e fr σ
 | _,_=>none
def AR(cx:Cx)(call:CK R)(n f m r:Nat)(K:Ex→Fr→St→Option R):Ex→Fr→St→Option R:=
 match zw1 cx f m (z1s cx f) call n r (codeOf cx f) K with | some k=>k | none=>fun _ _ _=>none
def OPS(cx:Cx)(call:CK R)(n f m r j:Nat)(fr:Fr)(σ:St)(K:Ex→Fr→St→Option R):Option R:=
 ze8 cx m (z1s cx f) call (z1k cx f r) ((z1k cx f r).drop j) fr σ K
end
end Go.Vai
end

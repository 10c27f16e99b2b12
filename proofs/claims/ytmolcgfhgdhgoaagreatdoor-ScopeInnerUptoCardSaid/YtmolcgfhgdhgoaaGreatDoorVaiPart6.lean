/-
  Calls of functions: the whole. To: Places in the code by name: behind some of a region's operations.
-/
import Derived.Test.YtmolcgfhgdhgoaaGreatDoorVaiPart5
import Derived.ProofKit
import Derived.OpenShut
import Derived.Deep.DeepHandedRow
import Derived.MakeChecks
set_option linter.all false
noncomputable section
namespace Go.Vai
section
variable {R:Type} {cx:Cx} {m nt:Nat} {w w₀:World} {σ σ' σ₀:St} {μ μ₀:Mu}
def zij(tmps:Array Value):ResultVar→Sem Value
 | .tmp t=>pure (tmps.getD t undef)
 | .cell a t=>do loadVar t (←asAddr (tmps.getD a undef))
theorem RV.isPtr{v:Value}{x:V}{t:Nat}{K:V→List Nat→Option R}{r:R}(hv:RV w σ μ v x)(h:zcq cx σ t x K=some r):∃ a,v=.pointer (some a):=by
 unfold zcq at h;replace h:=(zd h).2;cases hv with
 | ptr id off b hc hb=>exact ⟨_,rfl⟩
 | eptr x b o off xs hc hh=>exact ⟨_,rfl⟩
 | gptr g off=>exact ⟨_,rfl⟩
 | wptr=>exact ⟨_,rfl⟩
 | _=>cases h
theorem zoy(hi:Inv cx w σ μ){fr:Fr}{tmps:Array Value}(hf:FR w σ μ tmps fr):∀ (l:List ResultVar) {K:List V→Option R} {r:R},resV cx fr σ l K=some r →
  ∃ vs,K vs=some r∧∃ us,(l.mapM (zij tmps)).run cx.P w=.ok us w∧RVs w σ μ us vs
 | [],K,r,h=>⟨[],h,[],by simp,rfl,by simp⟩
 | .tmp t::l,K,r,h=>by
  simp only [resV] at h;obtain ⟨v,hv,h⟩:=za h;obtain ⟨vs,hK,us,hr,h1,h2⟩:=zoy hi hf l h;refine ⟨v::vs,hK,tmps.getD t undef::us,?_,by simp [h1],λ i x y hx hy=>?_⟩
  ·rw [List.mapM_cons,Sem.run_bind];simp only [zij,Sem.run_pure,Result.andThen_ok,Sem.run_bind,hr]
  ·cases i with
   | zero=>simp only [List.getElem?_cons_zero,Option.some.injEq] at hx hy; subst hx; subst hy; exact hf t v hv
   | succ i=>exact h2 i x y (by simpa using hx) (by simpa using hy)
 | .cell a t::l,K,r,h=>by
  simp only [resV] at h;obtain ⟨p,hp,h⟩:=za h;have hpr:=hf a p hp;obtain ⟨ad,had⟩:=hpr.isPtr h;obtain ⟨v,fp,h,v',hrun,hv⟩:=zqv hi hpr h;obtain ⟨vs,hK,us,hr,h1,h2⟩:=zoy hi hf l h;have hrun':(loadVar t ad).run cx.P w=.ok v' w:=by
   rw [had] at hrun;simpa [Instr.loadAt,Instr.sureAddr] using hrun
  refine ⟨v::vs,hK,v'::us,?_,by simp [h1],λ i x y hx hy=>?_⟩
  ·rw [List.mapM_cons,Sem.run_bind];simp only [zij,Sem.run_bind,had,asAddr,Sem.run_pure,Result.andThen_ok,hrun',hr]
  ·cases i with
   | zero=>simp at hx hy; subst hx; subst hy; exact hv
   | succ i=>exact h2 i x y (by simpa using hx) (by simpa using hy)
def zgs:List Value→Value
 | [v]=>v
 | us=>.tuple us.toArray
theorem zjb{fn:Func}{tmps:Array Value}{P:Program}{us:List Value}(h:(fn.results.toList.mapM (zij tmps)).run P w=.ok us w) :
  (results fn tmps).run P w=.ok (zgs us) w:=by
 have e:results fn tmps=(fn.results.mapM (zij tmps) >>= λ vs=>pure (if h:vs.size=1 then vs[0] else .tuple vs)):=by
  unfold results;congr 1
 have h':(fn.results.mapM (zij tmps)).run P w=.ok us.toArray w:=by
  rw [Array.mapM_eq_mapM_toList,Sem.run_map,h]; rfl
 rw [e,Sem.run_bind,h',Result.andThen_ok]
 match us with
 | []=>simp [zgs]
 | [v]=>simp [zgs]
 | v::u::us=>simp [zgs]
theorem zjc{us:List Value}{vs:List V}(h:RVs w σ μ us vs):RV w σ μ (zgs us) (zfc vs):=by
 have tup:RV w σ μ (.tuple us.toArray) (.tup vs):=.tup _ _ (by simpa using h.1) λ i x y hx hy=>h.2 i x y (by simpa using hx) hy
 match us,vs,h.1 with
 | [],[],_=>exact tup
 | [u],[v],_=>exact h.2 0 u v rfl rfl
 | _::_::_,_::_::_,_=>exact tup
theorem zdc:∀ (k:Nat) (l:List V) (t:Nat) (v:V),zf (vw k l) t=some v→∃ i,t=k+i∧l[i]?=some v
 | _,[],_,_,h=>by cases h
 | k,u::l,t,v,h=>by
  simp only [vw,zf] at h;cases hb:Nat.beq k t <;> rw [hb] at h
  ·obtain ⟨i,h1,h2⟩:=zdc (k+1) l t v h;exact ⟨i+1,by omega,by simpa using h2⟩
  ·obtain rfl:=po hb;cases h;exact ⟨0,rfl,rfl⟩
def Fin(cx:Cx)(w:World)(σ:St)(μ:Mu)(out:Out)(σ':St):Ending→World→Prop:=λ e w'=>
 ((∀ k o,zf σ' k=some o→k<σ.length∧∀ i∈o.ids,i<σ.length)∧(∀ i∈(match out with | .ret v=>v.ids | .pan v=>v.ids),i<σ.length)) ∧
 ∃ μ',After cx w σ μ w' σ' μ' ∧
  match out,e with
  | .ret v,.returned x=>RV w' σ' μ' x v
  | .pan v,.panicked chain=>∃ x,chain=[{ v:=x,recovered:=false }]∧RV w' σ' μ' x v
  | _,_=>False
theorem zk7(hσ₀:∀ id o,zf σ id=some o→id<σ.length){w₁:World}{τ:St}{μ₁:Mu}(haf:After cx w σ μ w₁ τ μ₁){v u:V}{τ':St}(hu:v.leave σ.length τ=some u)(hτ:qc σ.length τ (List.range σ.length)=some τ') :
  (∀ k o,zf τ' k=some o→k<σ.length∧∀ i∈o.ids,i<σ.length)∧(∀ i∈u.ids,i<σ.length)∧After cx w σ μ w₁ τ' μ₁∧∀ x,RV w₁ τ μ₁ x v→RV w₁ τ' μ₁ x u:=by
 have hl:=Left.of hτ;refine ⟨λ k o ho=>?_,V.leave_ids _ _ _ _ hu,hl.after hσ₀ haf,λ x hx=>zk8 hl haf.inv hx hu⟩;obtain ⟨p,_,hp,hlt⟩:=hl.back ho;exact ⟨hlt,zje hp⟩
theorem zf3(hσ₀:∀ id o,zf σ id=some o→id<σ.length){w₁:World}{τ:St}{μ₁:Mu}{out:Out}{us:List Value}{vs:List V}(haf:After cx w σ μ w₁ τ μ₁)(hrvs:RVs w₁ τ μ₁ us vs)
  (h:zdk σ.length τ vs=some (out,σ')):Fin cx w σ μ out σ' (.returned (zgs us)) w₁:=by
 unfold zdk at h;split at h
 ·rename_i u τ' hu hτ;cases h;obtain ⟨g1,g2,g3,g4⟩:=zk7 hσ₀ haf hu hτ;exact ⟨⟨g1,g2⟩,μ₁,g3,g4 _ (zjc hrvs)⟩
 ·cases h
theorem zo3{l:List V}:∀ i∈(zfc l).ids,i∈V.idsL l:=by
 intro i hi
 match l with
 | []=>exact hi
 | [v]=>simp only [zfc] at hi; simpa [V.idsL] using hi
 | v::u::l=>exact hi
theorem zxc(hσ₀:∀ id o,zf σ id=some o→id<σ.length){w₁:World}{τ:St}{μ₁:Mu}{out:Out}{us:List Value}{vs:List V}(haf:After cx w σ μ w₁ τ μ₁)(hrvs:RVs w₁ τ μ₁ us vs)
  (h:zpf σ.length τ vs=some (out,σ')):Fin cx w σ μ out σ' (.returned (zgs us)) w₁:=by
 unfold zpf at h;split at h
 ·rename_i sz l g rest;split at h
  ·rename_i n hg hq;cases hc:(Nat.ble σ.length g&&Nat.blt 0 σ.length&&decide (n=l.length)&&Nat.blt 0 n) <;> rw [hc] at h
   ·exact zf3 hσ₀ haf hrvs h
   rw [p5] at h;simp only [pq,decide_eq_true_eq] at hc;obtain ⟨⟨⟨h1,h2⟩,h3⟩,h4⟩:=hc;have hgm : ¬ g<σ.length:=by have:σ.length≤g:=p4 h1; omega
   have hm:0<σ.length:=by simpa using h2
   have hn:0<n:=by simpa using h4
   split at h
   ·rename_i r s hr hs;cases h;have hl:=Left.of hs;have hl2:=Left2.of hl (show σ.length - 1<σ.length by omega) hgm hq hg hn (μ:=μ₁)
    obtain ⟨k1,k2⟩:=zan hr;refine ⟨⟨λ k o ho=>?_,λ i hi=>?_⟩,_,hl2.after hσ₀ haf,?_⟩
    ·rw [zk] at ho;by_cases e:σ.length - 1=k
     ·rw [if_pos e] at ho; cases ho;exact ⟨by omega,by simp [Ob.ids]⟩
     ·rw [if_neg e] at ho;obtain ⟨p,_,hp,hlt⟩:=hl.back ho;exact ⟨hlt,zje hp⟩
    ·have:=zo3 i hi;simp only [V.idsL,V.ids,List.mem_append,List.mem_singleton] at this;rcases this with rfl | h
     ·omega
     ·exact V.leaveL_ids _ _ _ _ hr i h
    ·refine zjc ⟨?_,λ i x y hx hy=>?_⟩
     ·have:=hrvs.1;simp only [p7] at this ⊢;rw [k1]; exact this
     ·cases i with
      | zero=>
       have h0:=hrvs.2 0 x _ hx rfl;simp only [List.getElem?_cons_zero,Option.some.injEq] at hy;subst hy;cases h0 with
       | sl _ _ _ _ n' hd ht hn' he=>
        rw [hg] at ht; cases ht;refine .sl _ _ _ _ n (hd.stays hl2.stays) hl2.q1 hn' λ e=>?_;have:=he e;unfold tail at this ⊢;rw [hl2.mu];exact this
      | succ i=>
       simp only [List.getElem?_cons_succ] at hy;obtain ⟨z,hz⟩:=yj (l:=rest) (i:=i) (by rw [←k1]; exact (pr.1 hy).1)
       exact zir hl2 haf.inv (hrvs.2 (i+1) x z hx (by simpa using hz)) (k2 i z y hz hy)
   ·cases h
  ·exact zf3 hσ₀ haf hrvs h
 ·exact zf3 hσ₀ haf hrvs h
theorem zpm(hσ₀:∀ id o,zf σ id=some o→id<σ.length){w₁:World}{τ:St}{μ₁:Mu}{fn:Func}{f:Nat}{tmps:Array Value}{fr:Fr}{out:Out}(haf:After cx w σ μ w₁ τ μ₁)(hf:FR w₁ τ μ₁ tmps fr)
  (h:zg0 cx f σ.length fn.results.toList .ret fr τ=some (out,σ')):∃ v,(results fn tmps).run cx.P w₁=.ok v w₁∧Fin cx w σ μ out σ' (.returned v) w₁:=by
 simp only [zg0] at h;obtain ⟨vs,h,us,hr,hrvs⟩:=zoy haf.inv hf _ h;refine ⟨_,zjb hr,?_⟩;cases hg:cx.gives f <;> rw [hg] at h
 ·exact zf3 hσ₀ haf hrvs h
 ·exact zxc hσ₀ haf hrvs h
theorem zpn(hσ₀:∀ id o,zf σ id=some o→id<σ.length){w₁:World}{τ:St}{μ₁:Mu}{fn:Func}{f:Nat}{a:Act}{fr:Fr}{out:Out}{e:Ex}{x:Exit}(hx:zev w₁ τ μ₁ e x)(hnow:Now cx nt [] w σ μ a w₁ τ μ₁ fr)
  (h:zg0 cx f σ.length fn.results.toList e fr τ=some (out,σ')):bodyPostD cx.P fn (Fin cx w σ μ out σ') x a w₁:=by
 cases e with
 | normal=>
  cases x <;> first | exact hx.elim | skip
  show Leaves _ _ _ _ a.defers _ _;rw [hnow.defers];exact zpm (f:=f) hσ₀ hnow.after hnow.fr h
 | ret=>
  cases x <;> first | exact hx.elim | skip
  show Leaves _ _ _ _ a.defers _ _;rw [hnow.defers];exact zpm (f:=f) hσ₀ hnow.after hnow.fr h
 | pan v=>
  cases x <;> first | exact hx.elim | skip
  show Leaves _ _ _ _ a.defers _ _;rw [hnow.defers];simp only [zg0] at h;split at h
  ·rename_i u τ' hu hτ;cases h;obtain ⟨g1,g2,g3,g4⟩:=zk7 hσ₀ hnow.after hu hτ;obtain ⟨y,hy,hr⟩:=hx;exact ⟨⟨g1,g2⟩,μ₁,g3,y,hy,g4 y hr⟩
  ·cases h
 | _=>cases h
theorem zuf{P:Program}{o:Oper}{a:Act}{next next':Act→World→Prop}{Q:Exit→Act→World→Prop}(h:∀ a w,next a w→next' a w){r:Result Next}(hr:o.upon P a next Q r):o.upon P a next' Q r:=by
 unfold Oper.upon at hr ⊢;split at hr
 ·exact h _ _ hr
 ·exact h _ _ hr
 ·exact h _ _ hr
 ·refine Calls.mono hr λ e w he=>?_;cases e with
  | returned v=>exact h _ _ he
  | panicked ch=>exact he
  | outgrown=>exact he
 ·exact Rows.mono hr λ v w he=>h _ _ he
 ·exact hr
 ·exact hr.elim
theorem zf0{P:Program}{ops:Array Oper}{Q:Exit→Act→List Frame→World→Prop}{cs:List Frame}(hout : ¬ LetsOut λ e a w=>Q e a cs w) :
  ∀ (l:List Nat) (a:Act) (w:World),wpOps P ops (λ e a w=>Q e a cs w) l a w→wpOpsS P ops Q l a cs w
 | [],a,w,h=>h
 | i::l,a,w,h=>by
  simp only [wpOps] at h;simp only [wpOpsS];cases ho:ops[i]? with
  | none=>
   simp only [ho] at h ⊢;exact zf0 hout l a w h
  | some o=>
   simp only [ho] at h ⊢;by_cases hw:Region.wanted o (yielded ops a.tmps)=true
   ·rw [if_pos hw] at h ⊢;rcases h with h | ⟨_,h⟩
    ·unfold Oper.wp at h;split
     ·rename_i w' hr;rw [hr] at h;exact h.elim
     ·exact zuf (λ a w h=>zf0 hout l a w h) h
    ·exact (hout h).elim
   ·rw [if_neg hw] at h ⊢;exact zf0 hout l _ w h
theorem zm1{o:Oper}{t:Nat}(h:zhi o=some t):∃ ty pos aft,o=⟨some t,.call ⟨.builtin .recover,#[],#[]⟩,ty,pos,aft,none⟩:=by
 obtain ⟨dst,op,ty,pos,aft,guard⟩:=o;unfold zhi at h;cases op <;> first | (cases h; done) | skip
 rename_i c;obtain ⟨callee,args,tys⟩:=c;cases callee <;> first | (cases h; done) | skip
 rename_i b;cases b <;> first | (cases h; done) | skip
 simp only at h;cases hc:(args.isEmpty&&tys.isEmpty&&guard.isNone) <;> rw [hc] at h
 ·cases h
 ·simp only [pq,Option.isNone_iff_eq_none] at hc;obtain ⟨⟨h1,h2⟩,h3⟩:=hc;have h1':args = #[]:=by simpa using h1
  have h2':tys = #[]:=by simpa using h2
  subst h1' h2' h3;have h':dst=some t:=h;subst h';exact ⟨_,_,_,rfl⟩
theorem zoz{o:Oper}{t:Nat}(h:zf2 o=some t):∃ ty pos aft,o=⟨none,.defer ⟨.value (.tmp t),#[],#[]⟩,ty,pos,aft,none⟩:=by
 obtain ⟨dst,op,ty,pos,aft,guard⟩:=o;unfold zf2 at h;cases op <;> first | (cases h; done) | skip
 rename_i c;obtain ⟨callee,args,tys⟩:=c;cases callee <;> first | (cases h; done) | skip
 rename_i x;cases x <;> first | (cases h; done) | skip
 rename_i t';simp only at h;cases hc:(args.isEmpty&&tys.isEmpty&&guard.isNone&&dst.isNone) <;> rw [hc] at h
 ·cases h
 ·simp only [pq,Option.isNone_iff_eq_none] at hc;obtain ⟨⟨⟨h1,h2⟩,h3⟩,h4⟩:=hc;have h1':args = #[]:=by simpa using h1
  have h2':tys = #[]:=by simpa using h2
  subst h1' h2' h3 h4;cases h;exact ⟨_,_,_,rfl⟩
def zj7(w:World)(own:Own)(u:Option D)(m:FrameMode):Prop:=
 match u with
 | none=>m=.returning
 | some x=>∃ v,m=.panicking [{ v:=v,recovered:=false }]∧RD w own v x
theorem zxf{call:Nat→List V→St→Option (Out×St)}(hcall:vq cx call)(hn:yx cx.P)(hmix:cx.P.follows .mixedOrders=true){n g:Nat}{args:List V}{u:Option D}{m:FrameMode}{vs:List Value}
  (h:za3 cx call n g args σ u=some σ') (hi:Inv cx w σ μ) (hcan:Canon σ) (hall:RVs w σ μ vs args) (hm:zj7 w (zo σ μ) u m) :
  (∃ fn,cx.P.funcs[g]?=some fn∧fn.body.isNone=false)∧(∀ k o,zf σ' k=some o→k<σ.length∧∀ i∈o.ids,i<σ.length) ∧
  CallsD cx.P g vs.toArray m w λ e m' w'=>(∃ v,e=.returned v)∧settle m'=.returning∧∃ μ',After cx w σ μ w' σ' μ':=by
 have hσ₀:∀ id o,zf σ id=some o→id<σ.length:=λ id o ho=>(hcan id o ho).1;unfold za3 at h;split at h
 ·cases h
 rename_i fn hfn;split at h
 case h_2=>cases h
 rename_i id ops c hb;split at h
 case h_2=>cases h
 rename_i o r hops;obtain ⟨t,hrc,h1⟩:=za h;clear h;obtain ⟨hc,hev⟩:=zd h1;clear h1;obtain ⟨ty,pos,aft,rfl⟩:=zm1 hrc;rw [pq] at hc;have ht:t<fn.ntmps:=p4 hc.1;have hres:fn.results = #[]:=by simpa using hc.2
 let facts:Prop:=∀ k o,zf σ' k=some o→k<σ.length∧∀ i∈o.ids,i<σ.length
 have hrun:CallsD cx.P g vs.toArray m w λ e m' w'=>facts∧(∃ v,e=.returned v)∧settle m'=.returning∧∃ μ',After cx w σ μ w' σ' μ':=by
  refine callsD_of_wpS hfn hb λ c₀ cs hmode=>?_;have hsize:ops.size=r.length+1:=by rw [←Array.length_toList,hops]; rfl
  have ho:ops[0]?=some ⟨some t,.call ⟨.builtin .recover,#[],#[]⟩,ty,pos,aft,none⟩:=by
   rw [←Array.getElem?_toList,hops]; rfl
  refine wpS_seq (wpS_region ?_);rw [show List.range ops.size=0::(List.range ops.size).drop 1 by rw [hsize,List.range_succ_eq_map]; rfl]
  simp only [wpOpsS,ho];rw [if_pos (by simp [Region.wanted])]
  have hrec:(execOp ({ tmps:=vs.toArray++Array.replicate (fn.ntmps - vs.toArray.size) undef,defers:=[] }:Act).eval ⟨some t,.call ⟨.builtin .recover,#[],#[]⟩,ty,pos,aft,none⟩).run cx.P w=.ok .recover w:=by
   simp [execOp,resolve,invoke,builtin,Sem.run_bind]
  rw [hrec]
  -- behind the recovery
  have behind:∀ (m':FrameMode) (v:Value),settle m'=.returning→RV w σ μ v (.d (z0a u)) →
    wpOpsS cx.P ops (Exit.thenS (c.wpS cx.P (bodyPostS cx.P fn c₀ cs λ e m' w'=>facts∧(∃ v,e=.returned v)∧settle m'=.returning∧∃ μ',After cx w σ μ w' σ' μ'))
     (bodyPostS cx.P fn c₀ cs λ e m' w'=>facts∧(∃ v,e=.returned v)∧settle m'=.returning∧∃ μ',After cx w σ μ w' σ' μ')) ((List.range ops.size).drop 1)
     (({ tmps:=vs.toArray++Array.replicate (fn.ntmps - vs.toArray.size) undef,defers:=[] }:Act).put (some t) v) ({ c₀ with mode:=m' }::cs) w:=by
   intro m' v hset hv
   -- the end
   have fin:∀ (e:Ex) (fr:Fr) (τ:St),(match e with | .normal | .ret=>qc σ.length τ (List.range σ.length) | _=>none)=some σ'→∀ (x:Exit) (a:Act) (w₁:World) (μ₁:Mu),zev w₁ τ μ₁ e x →
     Now cx fn.ntmps [] w σ μ a w₁ τ μ₁ fr→bodyPostS cx.P fn c₀ cs (λ e m' w'=>facts∧(∃ v,e=.returned v)∧settle m'=.returning∧∃ μ',After cx w σ μ w' σ' μ') x a ({ c₀ with mode:=m' }::cs) w₁:=by
    intro e fr τ h x a w₁ μ₁ hx hnow
    have ret:qc σ.length τ (List.range σ.length)=some σ'→a.defers=[]∧∃ u',({ c₀ with mode:=m' }:Frame)::cs = { c₀ with mode:=u' }::cs∧∃ v,(results fn a.tmps).run cx.P w₁=.ok v w₁ ∧
      (facts∧(∃ q,Ending.returned v=.returned q)∧settle u'=.returning∧∃ μ',After cx w σ μ w₁ σ' μ'):=by
     intro h;obtain ⟨g1,_,g3,_⟩:=zk7 hσ₀ hnow.after (v:=.tup []) (u:=.tup []) (by rfl) h
     exact ⟨hnow.defers,m',rfl,_,zjb (us:=[]) (by rw [hres]; simp),g1,⟨_,rfl⟩,hset,μ₁,g3⟩
    cases e with
    | normal=>cases x <;> first | exact hx.elim | exact ret h
    | ret=>cases x <;> first | exact hx.elim | exact ret h
    | _=>cases h
   refine zf0 ?_ _ _ _ ?_
   ·rintro ⟨a',w',u',_,⟨q,hq⟩,_⟩;cases hq
   ·have key:=zeb (cx:=cx) (nt:=fn.ntmps) (ds:=[]) (w₀:=w) (σ₀:=σ) (μ₀:=μ) (m:=σ.length) hcall hn (arr:=ops) (tl:=[]) (r:=σ')
     (Q:=λ e a wq=>Exit.thenS (c.wpS cx.P (bodyPostS cx.P fn c₀ cs λ e m' w'=>facts∧(∃ v,e=.returned v)∧settle m'=.returning∧∃ μ',After cx w σ μ w' σ' μ'))
      (bodyPostS cx.P fn c₀ cs λ e m' w'=>facts∧(∃ v,e=.returned v)∧settle m'=.returning∧∃ μ',After cx w σ μ w' σ' μ') e a ({ c₀ with mode:=m' }::cs) wq)
     ?_ ?_ r 1 (by rw [hops]; simp) _ _ hev (({ tmps:=vs.toArray++Array.replicate (fn.ntmps - vs.toArray.size) undef,defers:=[] }:Act).put (some t) v) w μ ?_
    ·exact key
    ·intro fr τ h a w₁ μ₁ hnow i hi;have:ops.size≤i:=by have:=congrArg List.length hi; simp at this; omega
     rw [List.drop_eq_nil_of_le (by simpa using this)]
     show c.wpS _ _ _ _ _;exact wpS_of_wp (zix (w₀:=w) (μ₀:=μ) hcall hn hmix hσ₀ c h (λ e fr τ hK x a w₂ μ₂ hx hnow=>fin e fr τ hK x a w₂ μ₂ hx hnow) hnow)
    ·intro v fr τ h; cases h
    ·refine ⟨After.refl hi,?_,?_,rfl⟩
     ·have base:FR w σ μ (vs.toArray++Array.replicate (fn.ntmps - vs.toArray.size) undef) (vw 0 args):=by
       intro s q hs;obtain ⟨i,rfl,hq⟩:=zdc 0 args s q hs;rw [Nat.zero_add];have hlt:i<vs.length:=by rw [hall.1]; exact (pr.1 hq).1
       have:(vs.toArray++Array.replicate (fn.ntmps - vs.toArray.size) undef).getD i undef=vs[i]:=by
        simp [Array.getD_eq_getD_getElem?,Array.getElem?_append,hlt]
       rw [this];exact hall.2 i _ q (by simp) hq
      exact FR.put (dst:=some t) (nt:=fn.ntmps) (a:={ tmps:=vs.toArray++Array.replicate (fn.ntmps - vs.toArray.size) undef,defers:=[] }) base hc.1 (by simp; omega) hv
     ·rw [w6]; simp; omega
  cases u with
  | none=>
   have hmr:c₀.mode=.returning:=hmode.trans hm;simp only [recoverD,hmr];have:=behind .returning .nilIface rfl (.d _ _ .nilIface);rw [show ({ c₀ with mode:=.returning }:Frame)=c₀ by cases c₀; simp only at hmr; rw [hmr]] at this
   exact this
  | some x=>
   obtain ⟨v,hmv,hv⟩:=hm;have hmr:c₀.mode=.panicking [{ v:=v,recovered:=false }]:=hmode.trans hmv;simp only [recoverD,hmr];exact behind _ v (by simp [settle]) (.d _ _ hv)
 obtain ⟨e,u',w',fr,⟨hfacts,_⟩,_⟩:=hrun { (default:Frame) with mode:=m } [] rfl;exact ⟨⟨fn,hfn,by rw [hb]; rfl⟩,hfacts,hrun.mono λ e u' w' h=>h.2⟩
end
section
variable {R:Type} {cx:Cx} {m nt:Nat} {w w₀:World} {σ σ' σ₀:St} {μ μ₀:Mu}
theorem zxu{call:Nat→List V→St→Option (Out×St)}(hcall:vq cx call)(hn:yx cx.P)(hmix:cx.P.follows .mixedOrders=true){n g:Nat}{cap:List V}{u:Option D}{um:FrameMode}{vs:List Value}
  {K:De→Option R} {r:R} (h:zfn cx (za3 cx call n) σ g cap u K=some r) (hi:Inv cx w σ μ) (hv:RVs w σ μ vs cap) (hm:zj7 w (zo σ μ) u um) :
  ∃ δ,K δ=some r∧(∃ fn,cx.P.funcs[g]?=some fn∧fn.body.isNone=false) ∧
   CallsD cx.P g vs.toArray um w λ e m' w'=>(∃ v,e=.returned v)∧settle m'=.returning∧∃ μ',After cx w σ μ w' (ze σ δ) μ':=by
 unfold zfn at h;simp only at h;generalize hren:wy σ 1000 (V.idsL cap) []=ren at h;obtain ⟨hc,h⟩:=zd h;obtain ⟨hnd,hargs,hcl⟩:=zde hc;obtain ⟨hlen,hinv,hcanon,hvs,hargs',hfull,hown⟩:=zuc hi hv hnd hargs hcl;split at h
 case h_2=>cases h
 rename_i σ' hrec;obtain ⟨hfn,hσ',hrun⟩:=zxf hcall hn hmix hrec hinv hcanon hvs (by rw [hown]; exact hm)
 rw [hlen] at hσ';obtain ⟨δ,h1,h2,h3⟩:=zcf ren 0 h;refine ⟨δ,h1,hfn,hrun.mono λ e m' w' ⟨he,hs,μ1,haf⟩=>⟨he,hs,_,(zrs hi hnd hcl h2 h3 hσ' haf).1⟩⟩
theorem zze{call:Nat→List V→St→Option (Out×St)}(hcall:vq cx call)(hn:yx cx.P)(hmix:cx.P.follows .mixedOrders=true)(hσ₀:∀ id o,zf σ id=some o→id<σ.length)
  {n g f:Nat} {cap:List V} {cs:Array Value} {fn:Func} {a:Act} {fr:Fr} {τ:St} {w₁:World} {μ₁:Mu} {out:Out} {e:Ex} {x:Exit} (hx:zev w₁ τ μ₁ e x)
  (haf:After cx w σ μ w₁ τ μ₁) (hf:FR w₁ τ μ₁ a.tmps fr) (hd:a.defers=[{ target:=.fn (.func g) cs,args:=#[] }]) (hcap:RVs w₁ τ μ₁ cs.toList cap)
  (h:zln cx (za3 cx call n) f σ.length fn.results.toList g cap e fr τ=some (out,σ')):bodyPostD cx.P fn (Fin cx w σ μ out σ') x a w₁:=by
 have go:∀ (u:Option D) (um:FrameMode),um ≠ .run→zj7 w₁ (zo τ μ₁) u um→zfn cx (za3 cx call n) τ g cap u (λ δ=>zg0 cx f σ.length fn.results.toList .ret fr (ze τ δ))=some (out,σ') →
   Leaves cx.P fn a.tmps (Fin cx w σ μ out σ') a.defers um w₁:=by
  intro u um hum hu h;obtain ⟨δ,hK,⟨fn',hfn,hbody⟩,hcalls⟩:=zxu hcall hn hmix h haf.inv hcap hu;rw [hd];refine leaves_cons (f:=g) (args:=(#[]++cs)) hum ?_ ?_
  ·show (callFunc g (#[]++cs)).run cx.P w₁=_;exact zd4 hn hfn hbody
  ·rw [show (#[]++cs)=cs.toList.toArray by simp]
   refine hcalls.mono λ e m' w' ⟨⟨v,he⟩,hs,μ',haf'⟩=>?_;subst he;show Leaves _ _ _ _ [] (settle m') w';rw [hs];exact zpm hσ₀ (haf.trans haf') (haf'.frs haf.inv hf) hK
 unfold zln at h;split at h
 ·cases x <;> first | exact hx.elim | exact go none .returning (by simp) rfl h
 ·cases x <;> first | exact hx.elim | exact go none .returning (by simp) rfl h
 ·rename_i t y;cases x <;> first | exact hx.elim | skip
  rename_i chain;obtain ⟨v,rfl,hv⟩:=hx;cases hv with | d _ _ hv=>?_
  exact go (some (.iface t y)) (.panicking [{ v:=v,recovered:=false }]) (by simp) ⟨v,rfl,hv⟩ h
 ·cases h
theorem zqc:∀ (c:Code) {as:List Code} {id:Nat} {ops:Array Oper} {t:Nat} {b:Code},zdz c=some (as,id,ops,t,b) →
  (∃ o,ops.toList.getLast?=some o∧zf2 o=some t)∧c=as.foldr Code.seq (.seq (.region id ops false) b):=by
 intro c
 induction c with
 | seq x y ihx ihy=>
  intro as id ops t b h
  have other:(match zdz y with | some (l,q)=>some (x::l,q) | none=>none)=some (as,id,ops,t,b) →
    (∃ o,ops.toList.getLast?=some o∧zf2 o=some t)∧Code.seq x y=as.foldr Code.seq (.seq (.region id ops false) b):=by
   intro h;cases hs:zdz y with
   | none=>rw [hs] at h; cases h
   | some p=>
    obtain ⟨l,id',ops',t',b'⟩:=p;rw [hs] at h;cases h;have ih:=ihy hs;exact ⟨ih.1,by rw [List.foldr_cons,←ih.2]⟩
  cases x with
  | region id' ops' draw=>
   cases draw with
   | true=>exact other h
   | false=>
    simp only [zdz] at h;cases hl:ops'.toList.getLast? with
    | none=>rw [hl] at h; exact other h
    | some o=>
     rw [hl] at h;simp only at h;cases hp:zf2 o with
     | none=>rw [hp] at h; exact other h
     | some t'=>rw [hp] at h; cases h; exact ⟨⟨o,hl,hp⟩,rfl⟩
  | _=>exact other h
 | _=>intro as id ops t b h; cases h
theorem zrf{call:Nat→List V→St→Option (Out×St)}(hcall:vq cx call)(hn:yx cx.P)(hmix:cx.P.follows .mixedOrders=true)(hσ₀:∀ id o,zf σ₀ id=some o→id<m){f n:Nat}{ds:List Deferred}{tl:Code}
  {K:Ex→Fr→St→Option R} {r:R} {Q:Exit→Act→World→Prop}
  (hN:∀ fr σ,K .normal fr σ=some r→∀ a w μ,Now cx nt ds w₀ σ₀ μ₀ a w σ μ fr→tl.wp cx.P Q a w)
  (hQ:∀ e fr σ,e ≠ .normal→K e fr σ=some r→∀ x a w μ,zev w σ μ e x→Now cx nt ds w₀ σ₀ μ₀ a w σ μ fr→Q x a w) :
  ∀ (as:List Code) {fr:Fr} {σ:St},zew cx f m nt call n as fr σ K=some r→∀ {a w μ},Now cx nt ds w₀ σ₀ μ₀ a w σ μ fr→(as.foldr Code.seq tl).wp cx.P Q a w
 | [],fr,σ,h,a,w,μ,hnow=>hN _ _ h _ _ _ hnow
 | c::as,fr,σ,h,a,w,μ,hnow=>by
  simp only [zew] at h;refine wp_seq (zix hcall hn hmix hσ₀ c h (λ e fr σ hK x a w μ hx hnow=>?_) hnow);cases e with
  | normal=>cases x <;> first | exact zrf hcall hn hmix hσ₀ hN hQ as hK hnow | exact hx.elim
  | exit i=>cases x <;> first | exact hQ _ _ _ (by simp) hK _ _ _ μ hx hnow | exact hx.elim
  | goto l=>cases x <;> first | exact hQ _ _ _ (by simp) hK _ _ _ μ hx hnow | exact hx.elim
  | ret=>cases x <;> first | exact hQ _ _ _ (by simp) hK _ _ _ μ hx hnow | exact hx.elim
  | pan v=>cases x <;> first | exact hQ _ _ _ (by simp) hK _ _ _ μ hx hnow | exact hx.elim
theorem zxh{call:Nat→List V→St→Option (Out×St)}(hcall:vq cx call)(hn:yx cx.P)(hmix:cx.P.follows .mixedOrders=true)(hσ₀:∀ id o,zf σ id=some o→id<σ.length)
  {n f:Nat} {fn:Func} {c:Code} {fr:Fr} {a:Act} {out:Out} (hnow:Now cx fn.ntmps [] w σ μ a w σ μ fr)
  (h:zfi cx f σ.length fn.ntmps fn.results.toList call n c fr σ=some (out,σ')):c.wp cx.P (bodyPostD cx.P fn (Fin cx w σ μ out σ')) a w:=by
 unfold zfi at h;split at h
 ·cases h
 rename_i as id ops t b hsp;obtain ⟨⟨o,hl,hp⟩,rfl⟩:=zqc c hsp;obtain ⟨ty,pos,aft,rfl⟩:=zoz hp;refine zrf hcall hn hmix hσ₀ (λ fr τ hK a w₁ μ₁ hnow=>?_) (λ e fr τ he hK x a w₁ μ₁ hx hnow=>?_) as h hnow
 ·simp only at hK;have hne:ops.toList ≠ []:=by intro e; rw [e] at hl; cases hl
  have hops:ops.toList=ops.toList.dropLast++[⟨none,.defer ⟨.value (.tmp t),#[],#[]⟩,ty,pos,aft,none⟩]:=by
   have h1:=List.dropLast_concat_getLast hne;rw [List.getLast?_eq_some_getLast hne] at hl;rw [Option.some.inj hl] at h1;exact h1.symm
  refine wp_seq (wp_region ?_)
  have key:=zeb (cx:=cx) (nt:=fn.ntmps) (ds:=[]) (w₀:=w) (σ₀:=σ) (μ₀:=μ) (m:=σ.length) hcall hn (arr:=ops) (tl:=[⟨none,.defer ⟨.value (.tmp t),#[],#[]⟩,ty,pos,aft,none⟩])
   (Q:=Exit.then (b.wp cx.P (bodyPostD cx.P fn (Fin cx w σ μ out σ'))) (bodyPostD cx.P fn (Fin cx w σ μ out σ'))) ?_ ?_ ops.toList.dropLast 0 (by rw [List.drop_zero]; exact hops) fr τ hK a w₁ μ₁ hnow
  ·simpa using key
  ·intro fr τ hK a w₁ μ₁ hnow i hi;simp only at hK;obtain ⟨fv,hfv,hK⟩:=za hK;split at hK
   case h_2=>cases hK
   rename_i g cap;obtain ⟨htidy,hK⟩:=zd hK;have hsize:ops.size=i+1:=by have:=congrArg List.length hi; simp at this; omega
   have ho:ops[i]?=some ⟨none,.defer ⟨.value (.tmp t),#[],#[]⟩,ty,pos,aft,none⟩:=by
    have:=congrArg (·[0]?) hi;simpa using this
   rw [show (List.range ops.size).drop i=[i] by rw [hsize,List.drop_eq_getElem_cons (by simp)]; simp]
   simp only [wpOps,ho];rw [if_pos (by simp [Region.wanted])]
   left;have hr:=hnow.fr t _ hfv;generalize hq:a.tmps.getD t undef=q at hr;cases hr with | func _ cs _ hcl hch=>?_
   have hrun:(execOp a.eval ⟨none,.defer ⟨.value (.tmp t),#[],#[]⟩,ty,pos,aft,none⟩).run cx.P w₁=.ok (.defer { target:=.fn (.func g) cs,args:=#[] }) w₁:=by
    have he:a.eval (.tmp t)=.func (.func g) #[] cs:=by simpa [Act.eval] using hq
    simp only [execOp,resolve,he,Deferred.ofValue];simp [Sem.run_bind]
   unfold Oper.wp;rw [hrun,Oper.upon_defer];have hcap:RVs w₁ τ μ₁ cs.toList cap:=⟨by simpa using hcl,λ i x y hx hy=>hch i x y (by simpa using hx) hy⟩
   have hinv:=hnow.after.inv
   refine zll (w₀:=w₁) (σ₀:=τ) (μ₀:=μ₁) (ds:=[{ target:=.fn (.func g) cs,args:=#[] }]) (nt:=fn.ntmps) hcall hn hmix b (λ ht=>by rw [ht] at htidy; cases htidy) hK (λ e fr τ' hK x a w₂ μ₂ hx hnow'=>?_) (μ:=μ₁)
    ⟨After.refl hinv,hnow.fr,hnow.size,by show _::a.defers=_; rw [hnow.defers]⟩
   exact zze hcall hn hmix hσ₀ hx (hnow.after.trans hnow'.after) hnow'.fr hnow'.defers (hcap.map λ v x _ hv=>hnow'.after.rv hinv hv) hK
  ·intro v fr τ hK x a w₁ μ₁ hx hnow;cases x <;> first | exact hx.elim | skip
   exact zpn (e:=.pan v) hσ₀ hx hnow hK
 ·cases e with
  | normal=>exact absurd rfl he
  | _=>exact zpn hσ₀ hx hnow hK
theorem zxg(hn:yx cx.P)(hmix:cx.P.follows .mixedOrders=true)(hnat:vq cx cx.nat):∀ n,vq cx (we cx n):=by
 intro n
 induction n with
 | zero=>exact ⟨hnat.1,λ f args σ out σ' h=>by cases h⟩
 | succ n ih=>
  refine ⟨hnat.1,?_⟩;intro f args σ out σ' h w μ vs hi hcan hids hall hvs;simp only [we,v8] at h;split at h
  ·rename_i r hr;cases h;exact hnat.2 f args σ out σ' hr w μ vs hi hcan hids hall hvs
  split at h
  ·cases h
  rename_i fn hfn;split at h
  ·cases h
  rename_i c hc;have hσ₀:∀ id o,zf σ id=some o→id<σ.length:=λ id o ho=>(hcan id o ho).1;have hbody:fn.body.isNone=false:=by rw [hc]; rfl
  have hbegin:Now cx fn.ntmps [] w σ μ { tmps:=vs.toArray++Array.replicate (fn.ntmps - vs.toArray.size) undef,defers:=[] } w σ μ (vw 0 args):=by
   refine ⟨After.refl hi,?_,?_,rfl⟩
   ·intro t v ht;obtain ⟨i,rfl,hv⟩:=zdc 0 args t v ht;rw [Nat.zero_add];have hlt:i<vs.length:=by rw [hvs.1]; exact (pr.1 hv).1
    have:(vs.toArray++Array.replicate (fn.ntmps - vs.toArray.size) undef).getD i undef=vs[i]:=by
     simp [Array.getD_eq_getD_getElem?,Array.getElem?_append,hlt]
    rw [this];exact hvs.2 i _ v (by simp) hv
   ·simp; omega
  have hrun:Calls cx.P f vs.toArray w (Fin cx w σ μ out σ'):=by
   cases hd:cx.dfr f <;> rw [hd] at h
   ·exact calls_of_wp_defers hfn hc (zix (w₀:=w) (μ₀:=μ) (nt:=fn.ntmps) ih hn hmix hσ₀ c h (λ e fr τ hK x a w₁ μ₁ hx hnow=>zpn hσ₀ hx hnow hK) hbegin)
   ·exact calls_of_wp_defers hfn hc (zxh ih hn hmix hσ₀ hbegin h)
  obtain ⟨e,w',fr,⟨hfacts,_⟩,_⟩:=hrun [];exact ⟨⟨fn,hfn,hbody⟩,hfacts.1,hfacts.2,hrun.mono λ e w' h=>by
   obtain ⟨μ',haf,hm⟩:=h.2;exact ⟨μ',haf,by cases out <;> cases e <;> exact hm⟩⟩
end
open Go.ChangeShapes Go.WideShapes Go.ChangeAt Go.RowKit
section
variable {H:Type}
def noOwn:Own:=λ _ _=>False
def zgu(P:Program):Nat→List Field→Nat→Bool
 | off,[],n=>Nat.beq off n
 | off,f::fs,n=>Nat.beq f.offset off&&zgu P (off+P.cellsOf f.type) fs n
def zbr(r:TypeId→DataW H→Option (List D)):List Field→List (DataW H)→Option (List D)
 | [],[]=>some []
 | f::fs,p::ps=>(match r f.type p,zbr r fs ps with | some a,some b=>some (a++b) | _,_=>none)
 | _,_=>none
def zcn(r:DataW H→Option (List D)):List (DataW H)→Option (List D)
 | []=>some []
 | p::ps=>(match r p,zcn r ps with | some a,some b=>some (a++b) | _,_=>none)
def elemOf(agg:Bool)(cs:List D):D:=bif agg then .agg cs else cs.headD .nilIface
def ze9(agg:Bool)(r:DataW H→Option (List D)):List (DataW H)→Option (List D)
 | []=>some []
 | p::ps=>(match r p,ze9 agg r ps with | some a,some b=>some (elemOf agg a::b) | _,_=>none)
def zbb(P:Program):Nat→TypeId→DataW H→Option (List D)
 | 0,_,_=>none
 | n+1,t,d=>
  match P.underlying t,d with
  | some .bool,.lit (.bool b)=>some [.bool b]
  | some (.int k),.lit (.int _ z)=>some [.int k z]
  | some .string,.lit (.string s)=>some [.str s]
  | some (.pointer _),.nil=>some [.nilptr]
  | some (.slice e),.nil=>some [.sl (P.cellsOf e) []]
  | some (.slice e),.slice els _=>bif Nat.beq (P.cellsOf e) 0 then none else (ze9 (xq P e) (zbb P n e) els).map λ l=>[.sl (P.cellsOf e) l]
  | some (.struct fs),.agg ps=>bif zgu P 0 fs.toList (P.cellsOf t) then zbr (zbb P n) fs.toList ps else none
  | some (.array m e),.agg ps=>bif Nat.beq ps.length m&&Nat.beq (m * P.cellsOf e) (P.cellsOf t) then zcn (zbb P n e) ps else none
  | _,_=>none
variable {enc:TypeId×Value→H} {P:Program} {w:World} {base:Nat} {spare:Nat→Bool} {held:Bool}
theorem RDs.append{own:Own}{vs ws:List Value}{l k:List D}(h:RDs w own vs l)(h':RDs w own ws k):RDs w own (vs++ws) (l++k):=by
 refine ⟨by simp [h.1,h'.1],λ i x y hx hy=>?_⟩
 by_cases hi:i<vs.length
 ·rw [List.getElem?_append_left hi] at hx;rw [List.getElem?_append_left (by rw [←h.1]; exact hi)] at hy
  exact h.2 i x y hx hy
 ·rw [List.getElem?_append_right (by omega)] at hx
  rw [List.getElem?_append_right (by rw [←h.1]; omega)] at hy
  rw [←h.1] at hy;exact h'.2 _ x y hx hy
theorem RDs.one{own:Own}{v:Value}{d:D}(h:RD w own v d):RDs w own [v] [d]:=⟨rfl,λ i x y hx hy=>by
 cases i with
 | zero=>simp at hx hy; subst hx; subst hy; exact h
 | succ i=>simp at hx⟩
theorem zuq{n:Nat}{t:TypeId}{d:DataW H}{ds:List D}(ha:xq P t=false)(h:zbb P n t d=some ds):∃ y,ds=[y]∧y.cells=[y]:=by
 cases n with
 | zero=>cases h
 | succ n=>
  unfold xq at ha;simp only [zbb] at h;split at h <;> first | (cases h; exact ⟨_,rfl,rfl⟩) | skip
  ·cases hb:Nat.beq (P.cellsOf _) 0 <;> rw [hb] at h
   ·obtain ⟨l,_,rfl⟩:=Option.map_eq_some_iff.1 h;exact ⟨_,rfl,rfl⟩
   ·cases h
  ·rename_i hu; rw [hu] at ha; cases ha
  ·rename_i hu; rw [hu] at ha; cases ha
  ·cases h
theorem ze8{n:Nat}{m:Nat}{cs:List Value}(hp:∀ {t cs x ds},DataW.trod enc P w base spare held m t cs=some x→zbb P n t x.1=some ds→RDs w noOwn cs ds∧∀ c∈cs,c.oneCell'=true) :
  ∀ (fs:List Field) (xs:List (DataW H×List MemPlace)) (off:Nat) (ds:List D),xs.length=fs.length→off≤cs.length→zgu P off fs cs.length=true →
   (∀ (i:Nat) f,fs[i]?=some f→DataW.trod enc P w base spare held m f.type ((cs.drop f.offset).take (P.cellsOf f.type))=xs[i]?) →
   zbr (zbb P n) fs (xs.map (·.1))=some ds→RDs w noOwn (cs.drop off) ds∧∀ c∈cs.drop off,c.oneCell'=true
 | [],xs,off,ds,hl,hle,ho,_,h=>by
  obtain rfl:=List.eq_nil_of_length_eq_zero hl;simp only [List.map_nil,zbr] at h;cases h;have:off=cs.length:=po ho;rw [List.drop_eq_nil_of_le (by omega)]
  exact ⟨⟨rfl,by simp⟩,by simp⟩
 | f::fs,xs,off,ds,hl,hle,ho,ht,h=>by
  match xs,hl with
  | x::xs,hl=>
   simp only [List.map_cons,zbr] at h;split at h
   ·rename_i a b h1 h2;cases h;simp only [zgu,pq] at ho;obtain ⟨ho1,ho2⟩:=ho;have ho1:=po ho1;have hx:=ht 0 f rfl;simp only [List.getElem?_cons_zero] at hx;rw [ho1] at hx;obtain ⟨g1,g2⟩:=hp hx h1;have hle2:off+P.cellsOf f.type≤cs.length:=by
     -- the offsets rise to the end
     have key:∀ (l:List Field) (o:Nat),zgu P o l cs.length=true→o≤cs.length:=by
      intro l
      induction l with
      | nil=>intro o ho; exact Nat.le_of_eq (po ho)
      | cons f l ih=>
       intro o ho;simp only [zgu,pq] at ho;have:=ih _ ho.2;omega
     exact key fs _ ho2
    obtain ⟨k1,k2⟩:=ze8 hp fs xs _ b (by simpa using hl) hle2 ho2 (λ i f' hf'=>by simpa using ht (i+1) f' (by simpa using hf')) h2
    have hsplit:cs.drop off=(cs.drop off).take (P.cellsOf f.type)++cs.drop (off+P.cellsOf f.type):=by
     rw [←List.drop_drop,List.take_append_drop]
    rw [hsplit];exact ⟨g1.append k1,λ c hc=>(List.mem_append.1 hc).elim (g2 c) (k2 c)⟩
   ·cases h
theorem zgh{n m:Nat}{e:TypeId}{cs:List Value}(hp:∀ {t cs x ds},DataW.trod enc P w base spare held m t cs=some x→zbb P n t x.1=some ds→RDs w noOwn cs ds∧∀ c∈cs,c.oneCell'=true) :
  ∀ (xs:List (DataW H×List MemPlace)) (k:Nat) (ds:List D),(k+xs.length) * P.cellsOf e=cs.length →
   (∀ (i:Nat),i<xs.length→DataW.trod enc P w base spare held m e ((cs.drop ((k+i) * P.cellsOf e)).take (P.cellsOf e))=xs[i]?) →
   zcn (zbb P n e) (xs.map (·.1))=some ds→RDs w noOwn (cs.drop (k * P.cellsOf e)) ds∧∀ c∈cs.drop (k * P.cellsOf e),c.oneCell'=true
 | [],k,ds,hl,_,h=>by
  simp only [List.map_nil,zcn] at h;cases h;rw [List.drop_eq_nil_of_le (by simp at hl; omega)]
  exact ⟨⟨rfl,by simp⟩,by simp⟩
 | x::xs,k,ds,hl,ht,h=>by
  simp only [List.map_cons,zcn] at h;split at h
  ·rename_i a b h1 h2;cases h;have hx:=ht 0 (by simp)
   simp only [List.getElem?_cons_zero,Nat.add_zero] at hx;obtain ⟨g1,g2⟩:=hp hx h1;obtain ⟨k1,k2⟩:=zgh hp xs (k+1) b (by rw [←hl]; congr 1; simp; omega) (λ i hi=>by
    have:=ht (i+1) (by simpa using hi)
    rw [show k+1+i=k+(i+1) by omega]
    simpa using this) h2
   have hsplit:cs.drop (k * P.cellsOf e)=(cs.drop (k * P.cellsOf e)).take (P.cellsOf e)++cs.drop ((k+1) * P.cellsOf e):=by
    rw [Nat.succ_mul,←List.drop_drop,List.take_append_drop]
   rw [hsplit];exact ⟨g1.append k1,λ c hc=>(List.mem_append.1 hc).elim (g2 c) (k2 c)⟩
  ·cases h
theorem zgi{agg:Bool}{r:DataW H→Option (List D)}:∀ {ps:List (DataW H)} {l:List D},ze9 agg r ps=some l→l.length=ps.length∧∀ (i:Nat) p y,ps[i]?=some p→l[i]?=some y→∃ ds,r p=some ds∧y=elemOf agg ds
 | [],l,h=>by simp only [ze9] at h; cases h; simp
 | p::ps,l,h=>by
  simp only [ze9] at h;split at h
  ·rename_i a b h1 h2;cases h;obtain ⟨g1,g2⟩:=zgi h2;refine ⟨by simp [g1],λ i q y hq hy=>?_⟩
   cases i with
   | zero=>simp at hq hy; subst hq; subst hy; exact ⟨a,h1,rfl⟩
   | succ i=>exact g2 i q y (by simpa using hq) (by simpa using hy)
  ·cases h
theorem zx9:∀ (n m:Nat) (t:TypeId) (cs:List Value) (x:DataW H×List MemPlace) (ds:List D),DataW.trod enc P w base spare held m t cs=some x→zbb P n t x.1=some ds →
  RDs w noOwn cs ds∧∀ c∈cs,c.oneCell'=true:=by
 intro n
 induction n with
 | zero=>intro m t cs x ds _ h; cases h
 | succ n ih=>
  intro m t cs x ds hx h;obtain ⟨d,pl⟩:=x;simp only [zbb] at h;split at h
  ·rename_i b hu;obtain ⟨b',h1,h2⟩:=DataW.trod_bool hu hx;subst h1; cases h2; cases h;exact ⟨RDs.one (.bool _),by simp [Value.oneCell']⟩
  ·rename_i k k' z hu;obtain ⟨z',h1,h2,_⟩:=DataW.trod_int hu hx;subst h1; cases h2; cases h;exact ⟨RDs.one (.int _ _),by simp [Value.oneCell']⟩
  ·rename_i s hu;obtain ⟨s',h1,h2,_⟩:=DataW.trod_string hu hx;subst h1; cases h2; cases h;refine ⟨RDs.one ?_,by simp [Value.oneCell']⟩
   have:s'=y5 s'.data.toList:=by simp [y5]
   conv=>arg 3; rw [this]
   exact .str _
  ·rename_i e hu;rcases DataW.trod_pointer hu hx with ⟨h1,h2⟩ | ⟨a,cs',y,n',_,h1,h2,_⟩
   ·subst h1; cases h;exact ⟨RDs.one .nilptr,by simp [Value.oneCell']⟩
   ·cases h2
  ·rename_i e hu;rcases DataW.trod_slice hu hx with ⟨h1,h2⟩ | ⟨a,len,cap,elems,rest,n',_,h1,h2,_⟩
   ·subst h1; cases h;exact ⟨RDs.one (.sl0 none 0 _),by simp [Value.oneCell']⟩
   ·cases h2
  ·rename_i e els sp hu;cases hb:Nat.beq (P.cellsOf e) 0 <;> rw [hb] at h
   ·rw [p6] at h;obtain ⟨l,hl,rfl⟩:=Option.map_eq_some_iff.1 h;rcases DataW.trod_slice hu hx with ⟨h1,h2⟩ | ⟨a,len,cap,elems,rest,n',_,h1,h2,hba,hle,_,hlen,hel,_⟩
    ·cases h2
    ·subst h1;simp only [Prod.mk.injEq,DataW.slice.injEq] at h2;obtain ⟨⟨rfl,rfl⟩,_⟩:=h2;have hc0:P.cellsOf e ≠ 0:=λ e0=>by rw [e0] at hb; cases hb
     refine ⟨RDs.one ?_,by simp [Value.oneCell']⟩
     obtain ⟨hl1,hl2⟩:=zgi hl;simp only [pj,hlen] at hl1;by_cases h0:len=0
     ·subst h0;obtain rfl:=List.eq_nil_of_length_eq_zero hl1;exact .sl0 (some a) cap _
     ·have hpos:0<P.cellsOf e:=by omega
      have hcells:∀ i,i<len→∃ cs' y,w.cells? base (a.add (i * P.cellsOf e)) (P.cellsOf e)=some cs'∧DataW.trod enc P w base spare held n' e cs'=some y∧elems[i]?=some y:=by
       intro i hi;have h1:=hel i hi;obtain ⟨y,hy⟩:=yj (l:=elems) (i:=i) (by omega)
       rw [hy] at h1;obtain ⟨cs',h2,h3⟩:=Option.bind_eq_some_iff.1 h1;exact ⟨cs',y,h2,h3,hy⟩
      have hspot:a.spot=none:=by
       obtain ⟨cs',y,h1,_,_⟩:=hcells 0 (by omega)
       obtain ⟨_,h2,h3⟩:=World.cells?_some h1;have h4:=h3 0 hpos;obtain ⟨c,hc⟩:=yj (l:=cs') (i:=0) (by omega)
       rw [hc] at h4;have h5:=World.cell?_spot h4;simpa [Addr.add] using h5
      obtain ⟨b,o,spot⟩:=a;simp only at hspot;subst hspot;have hadd:∀ i,(⟨b,o,none⟩:Addr).add i=⟨b,o+i,none⟩:=λ i=>by
       unfold Addr.add;split
       ·rename_i h; subst h; rfl
       ·rfl
      have helem:∀ i y,l[i]?=some y→∃ cs' ds',i<len∧cs'.length=P.cellsOf e∧(∀ j,j<P.cellsOf e→w.cell? ⟨b,o+(i * P.cellsOf e+j),none⟩=cs'[j]?)∧RDs w noOwn cs' ds'∧(∀ c∈cs',c.oneCell'=true)∧y.cells=ds':=by
       intro i y hy;have hi:i<len:=by have:=(pr.1 hy).1; omega
       obtain ⟨cs',z,h1,h2,h3⟩:=hcells i hi;obtain ⟨ds',h4,h5⟩:=hl2 i z.1 y (by simp [h3]) hy
       obtain ⟨_,h6,h7⟩:=World.cells?_some h1;obtain ⟨h8,h9⟩:=ih n' e cs' z ds' h2 h4;refine ⟨cs',ds',hi,h6,λ j hj=>?_,h8,h9,?_⟩
       ·have:=h7 j hj;rw [hadd,show (⟨b,o+i * P.cellsOf e,none⟩:Addr).add j=⟨b,o+i * P.cellsOf e+j,none⟩ by
         unfold Addr.add;split
         ·rename_i h; subst h; rfl
         ·rfl] at this
        rw [←Nat.add_assoc];exact this
       ·rw [h5];cases ha:xq P e
        ·obtain ⟨y',h10,h11⟩:=zuq ha h4;rw [h10];exact h11
        ·rfl
      refine .sl b o len cap (P.cellsOf e) l (λ k=>(w.cell? ⟨b,o+k,none⟩).getD undef) hl1.symm hle (λ y hy=>?_) (λ k hk=>?_) (λ i j y c hy hc=>?_)
      ·obtain ⟨i,hi⟩:=List.getElem?_of_mem hy;obtain ⟨cs',ds',_,h2,_,h4,_,h6⟩:=helem i y hi;rw [h6,←h4.1,h2]
      ·have hi:k / P.cellsOf e<len:=Nat.div_lt_of_lt_mul (by rw [Nat.mul_comm]; exact hk)
       obtain ⟨y,hy⟩:=yj (l:=l) (i:=k / P.cellsOf e) (by omega)
       obtain ⟨cs',ds',_,h2,h3,h4,h5,h6⟩:=helem _ y hy;have hj:k % P.cellsOf e<P.cellsOf e:=Nat.mod_lt _ hpos;have hk':k / P.cellsOf e * P.cellsOf e+k % P.cellsOf e=k:=by rw [Nat.mul_comm]; exact Nat.div_add_mod k _
       have h7:=h3 _ hj;rw [hk'] at h7;obtain ⟨c,hc⟩:=yj (l:=cs') (i:=k % P.cellsOf e) (by omega)
       rw [hc] at h7;refine ⟨by rw [h7]; rfl,λ h=>h,?_⟩
       rw [h7];exact h5 c (pz hc)
      ·obtain ⟨cs',ds',_,h2,h3,h4,h5,h6⟩:=helem i y hy;have hj:j<P.cellsOf e:=by
        have:=(pr.1 hc).1;rw [h6,←h4.1,h2] at this;exact this
       have h7:=h3 j hj;obtain ⟨c',hc'⟩:=yj (l:=cs') (i:=j) (by omega)
       rw [hc'] at h7;rw [h7];exact h4.2 j c' c hc' (h6 ▸ hc)
   ·cases h
  ·rename_i fs ps hu;cases hb:zgu P 0 fs.toList (P.cellsOf t) <;> rw [hb] at h
   ·cases h
   ·rw [p5] at h;obtain ⟨xs,n',_,h2,hlen,hxs,hf⟩:=DataW.trod_struct hu hx;cases h2;have:=ze8 (n:=n) (m:=n') (cs:=cs) (λ {t cs x ds} h1 h2=>ih n' t cs x ds h1 h2) fs.toList xs 0 ds (by simpa using hxs) (by simp) (by rw [hlen]; exact hb) (λ i f hfi=>hf i f (by simpa using hfi)) h
    simpa using this
  ·rename_i k e ps hu;cases hb:(Nat.beq ps.length k&&Nat.beq (k * P.cellsOf e) (P.cellsOf t)) <;> rw [hb] at h
   ·cases h
   ·rw [p5] at h;rw [pq] at hb;obtain ⟨xs,n',hcs,h2,hlen,hxs,hf⟩:=DataW.trod_array hu hx;cases h2
    have:=zgh (n:=n) (m:=n') (e:=e) (cs:=cs) (λ {t cs x ds} h1 h2=>ih n' t cs x ds h1 h2) xs 0 ds
     (by rw [Nat.zero_add,hlen,hxs]; exact po hb.2) (λ i hi=>by rw [Nat.zero_add]; exact hf i (hxs ▸ hi)) h
    simpa using this
  ·cases h
end
section
variable {cx:Cx} {W W':World}
def mu0:Mu:=⟨λ _=>{ blk:=none },noOwn⟩
theorem z1x:zo [] mu0=noOwn:=by
 funext b i;apply propext;constructor
 ·rintro (h | ⟨id,o,h,_⟩)
  ·exact h
  ·cases h
 ·exact λ h=>h.elim
def zq6(P:Program)(glob:Nat→Option D)(laid:List (String×DataW Unit)):Prop:=
 ∀ g x,glob g=some x→∃ n d,(n,d)∈laid∧P.globalNamed n=some g∧(((P.globals[g]?).map (·.type)).bind λ t=>zbb P 20 t d)=some x.cells
theorem zjf{P:Program}{w:World}:∀ {laid:List (String×DataW Unit)} {ps:List MemPlace},DataW.LaidVars P w laid ps→∀ n d,(n,d)∈laid→∀ g t ds,P.globalNamed n=some g→(P.globals[g]?).map (·.type)=some t →
  zbb P 20 t d=some ds→∃ cs:Array Value,(∀ i,w.cell? ⟨g,i,none⟩=cs[i]?)∧RDs w noOwn cs.toList ds∧∀ c∈cs.toList,c.oneCell'=true
 | [],ps,_,n,d,hm,_,_,_,_,_,_=>by cases hm
 | (n₀,d₀)::laid,ps,h,n,d,hm,g,t,ds,hg,ht,hp=>by
  obtain ⟨g',t',cs,fuel,p,q,h1,h2,h3,h4,h5,_⟩:=h;rcases List.mem_cons.1 hm with he | hm
  ·cases he;rw [hg] at h1; cases h1;rw [ht] at h2; cases h2;obtain ⟨k1,k2⟩:=zx9 20 _ _ _ _ _ h4 hp;exact ⟨cs,World.var?_cell hg h3,k1,k2⟩
  ·exact zjf h5 n d hm g t ds hg ht hp
theorem inv0{laid:List (String×DataW Unit)}(hplain:(laid.all λ x=>x.2.handleName?.isNone)=true)(hs:zq6 cx.P cx.glob laid)(hL:laidMetH cx.P laid W):Inv cx W [] mu0:=by
 rw [MakeChecks.laidMetH_plain _ _ _ hplain] at hL;obtain ⟨ps,hv,_⟩:=hL;refine ⟨λ id o h=>(by cases h),λ id id' o o' b i h=>(by cases h),?_,λ id o b i h=>(by cases h),λ b i (h:False)=>h.elim,λ r es clock i _ (h:False)=>h.elim⟩
 intro g x hg;rw [z1x];obtain ⟨n,d,h1,h2,h34⟩:=hs g x hg;obtain ⟨t,h3,h4⟩:=Option.bind_eq_some_iff.1 h34;obtain ⟨cs,hc,hr,ho⟩:=zjf hv n d h1 g t _ h2 h3 h4;have hlen:cs.size=x.cells.length:=by simpa using hr.1
 refine ⟨λ j=>cs.getD j undef,λ j hj=>?_,λ j c hjc=>?_⟩
 ·have hlt:j<cs.size:=by omega
  have e:cs.getD j undef=cs[j]:=by simp [Array.getD_eq_getD_getElem?,hlt]
  rw [hc];simp only [e];exact ⟨by simp [hlt],λ h=>h,ho _ (by simp)⟩
 ·have hlt:j<cs.size:=by have:=(pr.1 hjc).1; omega
  have e:cs.getD j undef=cs[j]:=by simp [Array.getD_eq_getD_getElem?,hlt]
  simp only [e];exact hr.2 j _ c (by simp [hlt]) hjc
theorem kept_but(h:Kept W noOwn W'):W.keptBut W' (λ _=>False):=by
 refine ⟨h.os,h.output,λ i hi=>?_⟩;rw [h.blk i hi λ _ h=>h];cases hw:W.heap[i]? with
 | none=>rfl
 | some o=>cases o <;> first | exact ⟨rfl,rfl,rfl,λ _ _=>rfl⟩ | exact .inr ⟨rfl,rfl⟩ | rfl
theorem law_callsN{f n:Nat}{ds:List D}{args:List Value}{x:D}(hnat:vq cx cx.nat)(hn:yx cx.P)(hmix:cx.P.follows .mixedOrders=true)(hi:Inv cx W [] mu0)(hargs:RDs W noOwn args ds)
  (h:we cx n f (ds.map .d) []=some (.ret (.d x),[])):Calls cx.P f args.toArray W λ e W'=>∃ v,e=.returned v∧RD W' noOwn v x∧Kept W noOwn W':=by
 have hv:RVs W [] mu0 args (ds.map .d):=by
  refine ⟨by simpa using hargs.1,λ i v y hx hy=>?_⟩
  rw [List.getElem?_map,Option.map_eq_some_iff] at hy;obtain ⟨d,hd,rfl⟩:=hy;refine .d _ _ ?_;rw [z1x];exact hargs.2 i v d hx hd
 have hids:∀ i∈V.idsL (ds.map .d),i<([]:St).length:=by
  intro i hi;have:V.idsL (ds.map .d)=[]:=by
   clear h hv hargs hi
   induction ds with
   | nil=>rfl
   | cons d ds ih=>simp [V.idsL,V.ids,ih]
  rw [this] at hi; cases hi
 obtain ⟨_,_,_,hc⟩:=(zxg hn hmix hnat n).2 f _ [] _ _ h W mu0 args hi (λ k o h=>(by cases h)) hids (λ k hk=>(by cases hk)) hv
 refine hc.mono λ e W' ⟨μ',haf,hm⟩=>?_;cases e with
 | returned v=>
  have hm:RV W' [] μ' v (.d x):=hm;have hfr:zo [] μ'=noOwn:=by
   funext b i;apply propext;constructor
   ·rintro (h | ⟨id,o,h,_⟩)
    ·rw [haf.fr] at h; exact h
    ·cases h
   ·exact λ h=>h.elim
  refine ⟨v,rfl,?_,?_⟩
  ·cases hm with | d _ _ hd=>rw [hfr] at hd; exact hd
  ·have hk:=haf.goes.kept;have hmine:Mine [] mu0=noOwn:=by
    funext b i;apply propext;constructor
    ·rintro ⟨id,o,h,_⟩; cases h
    ·exact λ h=>h.elim
   rw [hmine] at hk;exact hk
 | panicked chain=>exact hm.elim
 | outgrown=>exact hm.elim
end
section
variable {R:Type} {cx:Cx}
def knows(cx:Cx)(call call':yn):Prop:=∀ f args σ r,cx.dom f args=true→call f args σ=some r→call' f args σ=some r
theorem zen{call call':yn}(hk:knows cx call call'){σ:St}{t f:Nat}{args:List V}{xs:List Nat}{K:Oc→De→List Nat→Option R}{r:R}(h:vf cx call σ t f args xs K=some r):vf cx call' σ t f args xs K=some r:=by
 unfold vf at h ⊢;simp only at h ⊢;obtain ⟨hc,h⟩:=zd h;obtain ⟨hd,h⟩:=zd h;rw [hc,hd];simp only [zh,p5];cases hq:call f (V.renL (xb (wy σ 1000 (V.idsL args++xs) [])) args) (y9 σ (wy σ 1000 (V.idsL args++xs) []) 0 (wy σ 1000 (V.idsL args++xs) [])) with
 | none=>rw [hq] at h; cases h
 | some p=>rw [hq] at h; rw [hk _ _ _ _ hd hq]; exact h
theorem zod{call call':yn}(hk:knows cx call call'){m nt:Nat}{o:Oper}{fr:Fr}{σ:St}{p:Tri}(h:qx cx m nt call o fr σ=some p):qx cx m nt call' o fr σ=some p:=by
 unfold qx at h ⊢;obtain ⟨dst,op,type,pos,after,guard⟩:=o;cases op
 case makeFunc fn first caps=>cases fn <;> exact h
 case makeMap t r=>cases r <;> exact h
 case call c=>
  obtain ⟨callee,cargs,ctypes⟩:=c;cases callee with
  | value f=>
   simp only [xl] at h ⊢;obtain ⟨v,hv,h⟩:=za h;simp only [hv,zc];split at h
   ·obtain ⟨l,hl,h⟩:=za h;simp only [hl];exact zen hk h
   ·cases hgr:(cx.grow _).isSome <;> rw [hgr] at h <;> simp only [p5,p6] at h ⊢
    rotate_left
    ·exact h
    cases hsm:(zfd cx.P _&&List.isEmpty _) <;> rw [hsm] at h <;> simp only [p5,p6] at h ⊢
    rotate_left
    ·obtain ⟨l,hl,h⟩:=za h;simp only [hl];exact h
    cases hgv:cx.gives _ <;> rw [hgv] at h
    ·cases hnil:(cx.keep _&&zgx cargs.toList) <;> rw [hnil] at h
     ·obtain ⟨l,hl,h⟩:=za h;simp only [hl,p6];exact zen hk h
     ·obtain ⟨l,hl,h⟩:=za h;obtain ⟨hc,h⟩:=zd h;simp only [hl,p5,p6,hc,zh];exact zen hk h
    ·obtain ⟨l,hl,h⟩:=za h;obtain ⟨hc,h⟩:=zd h;simp only [hl,p5,hc,zh];exact zen hk h
   ·cases h
  | invoke r nm=>exact h
  | builtin b=>cases b <;> exact h
 all_goals exact h
theorem zjh{ops:List Oper}{o:Oper}{fr:Fr}{yes no yes' no':Fr→Option R}{r:R}(hy:∀ fr,yes fr=some r→yes' fr=some r)(hn:∀ fr,no fr=some r→no' fr=some r)
  (h:zah ops o fr yes no=some r):zah ops o fr yes' no'=some r:=by
 unfold zah at h ⊢;split at h
 ·exact hy _ h
 ·split at h
  ·exact hn _ h
  ·split at h
   ·have key:∀ (b want:Bool) (p q:Fr),(bif b then (bif want then yes p else no p) else (bif want then no q else yes q))=some r→(bif b then (bif want then yes' p else no' p) else (bif want then no' q else yes' q))=some r:=by
     intro b want p q h;cases b <;> cases want <;> first | exact hy _ h | exact hn _ h
    exact key _ _ _ _ h
   ·exact hn _ h
   ·cases h
theorem zaj{call call':yn}(hk:knows cx call call'){m nt:Nat}{ops:List Oper}{K K':Ex→Fr→St→Option R}{r:R}(hK:∀ e fr σ,K e fr σ=some r→K' e fr σ=some r) :
  ∀ (l:List Oper) (fr:Fr) (σ:St),qw cx m nt call ops l fr σ K=some r→qw cx m nt call' ops l fr σ K'=some r
 | [],fr,σ,h=>hK _ _ _ h
 | o::l,fr,σ,h=>by
  unfold qw at h ⊢;obtain ⟨hd,h⟩:=zd h;rw [hd];simp only [zh,p5];refine zjh (λ fr h=>?_) (λ fr h=>zaj hk hK l _ _ h) h;obtain ⟨p,hp,h⟩:=za h;simp only [zod hk hp,zc];obtain ⟨oc,δ,fp⟩:=p;cases oc with
  | val v=>exact zaj hk hK l _ _ h
  | pan v=>exact hK _ _ _ h
theorem zao{call call':yn}(hk:knows cx call call'){m nt:Nat}{ops:List Oper}{pre:List Nat}{K K':Ex→Fr→St→Option R}{r:R}(hK:∀ e fr σ,K e fr σ=some r→K' e fr σ=some r) :
  ∀ (l:List Oper) (i:Nat) (log:List Log) (dead:Option (Nat×V)) (fr:Fr) (σ:St),x1 cx m nt call ops pre i l log dead fr σ K=some r→x1 cx m nt call' ops pre i l log dead fr σ K'=some r
 | [],i,log,none,fr,σ,h=>by simp only [x1] at h ⊢; exact hK _ _ _ h
 | [],i,log,some (k,v),fr,σ,h=>by
  simp only [x1] at h ⊢;obtain ⟨hc,h⟩:=zd h;rw [hc];exact hK _ _ _ h
 | o::l,i,log,dead,fr,σ,h=>by
  simp only [x1] at h ⊢;cases hd:zhz pre i dead
  ·rw [hd,p6] at h;rw [p6];obtain ⟨hc,h⟩:=zd h;rw [hc];simp only [zh,p5];refine zjh (λ fr h=>?_) (λ fr h=>zao hk hK l _ _ _ _ _ h) h;obtain ⟨p,hp,h⟩:=za h;obtain ⟨hm,h⟩:=zd h;simp only [zod hk hp,zc];simp only [hm,p5];obtain ⟨oc,δ,fp⟩:=p;cases oc with
   | val v=>exact zao hk hK l _ _ _ _ _ h
   | pan v=>
    cases dead with
    | none=>exact zao hk hK l _ _ _ _ _ h
    | some q=>exact h
  ·rw [hd,p5] at h;rw [p5];exact zao hk hK l _ _ _ _ _ h
theorem zkl{nt:Nat}{σ:St}{fr:Fr}{q:Pend}{K K':Fr→St→Option R}{r:R}(hK:∀ fr σ,K fr σ=some r→K' fr σ=some r)(h:zc1 cx nt σ fr q K=some r):zc1 cx nt σ fr q K'=some r:=by
 unfold zc1 at h ⊢;obtain ⟨hc,h⟩:=zd h;rw [hc];simp only [zh,p5];split at h
 case h_2=>cases h
 obtain ⟨hc,h⟩:=zd h;simp only [hc,p5];obtain ⟨s,hs,h⟩:=za h;obtain ⟨pl,hpl,h⟩:=za h;obtain ⟨jv,hjv,h⟩:=za h;obtain ⟨v,hv,h⟩:=za h;obtain ⟨y,hy,h⟩:=za h;simp only [hs,hpl,hjv,hv,hy,zc];split at h
 case h_2=>cases h
 split at h
 case h_2=>cases h
 obtain ⟨hc,h⟩:=zd h;simp only [*,p5];obtain ⟨sz',ps,hd,h9⟩:=zei h;obtain ⟨hc',h10⟩:=zd h9;unfold dataOf at hd ⊢;split at hd <;> first | (cases hd; done) | skip
 all_goals (cases hd; simp only [hc',p5]; exact hK _ _ h10)
theorem zrg{nt:Nat}{ops:List Oper}{k:Nat}{fr:Fr}{σ:St}{K K':List Oper→Fr→St→Option R}{r:R}(hK:∀ l fr σ,K l fr σ=some r→K' l fr σ=some r)(h:zai cx nt ops k fr σ K=some r):zai cx nt ops k fr σ K'=some r:=by
 unfold zai at h ⊢;split at h
 case h_2=>cases h
 obtain ⟨q,hq,h⟩:=za h;simp only [hq,zc];exact zkl (λ fr σ h=>hK _ _ _ h) h
theorem zre{nt:Nat}{ops:List Oper}{k:Nat}{fr:Fr}{σ:St}{K K':Fr→St→Option R}{r:R}(hK:∀ fr σ,K fr σ=some r→K' fr σ=some r)(h:zbh cx nt ops k fr σ K=some r):zbh cx nt ops k fr σ K'=some r:=by
 unfold zbh at h ⊢;split at h
 case h_2=>cases h
 obtain ⟨q,hq,h⟩:=za h;simp only [hq,zc];refine zkl (λ fr σ h=>?_) h;split at h
 case h_2=>cases h
 obtain ⟨hc,h⟩:=zd h;obtain ⟨pv,hpv,h⟩:=za h;obtain ⟨v,hv,h⟩:=za h;simp only [hc,hpv,hv,zc,p5,zh];split at h
 case h_2=>cases h
 split at h
 case h_2=>cases h
 rename_i hido;obtain ⟨hc,h⟩:=zd h;simp only [hido,hc,p5];exact hK _ _ h
theorem zb9{m f key:Nat}{fr:Fr}{σ:St}{K K':Fr→St→Option R}{r:R}(hK:∀ fr σ,K fr σ=some r→K' fr σ=some r)(h:tidy cx m f key fr σ K=some r):tidy cx m f key fr σ K'=some r:=by
 unfold tidy at h ⊢;simp only at h ⊢;obtain ⟨hc,h⟩:=zd h;rw [hc];exact hK _ _ h
theorem zap{call call':yn}(hk:knows cx call call'){f m nt n n':Nat}(hn:n≤n'):∀ (c:Code) {K K':Ex→Fr→St→Option R} {r:R} {fr:Fr} {σ:St},
  (∀ e fr σ,K e fr σ=some r→K' e fr σ=some r)→z7 cx f m nt call n c fr σ K=some r→z7 cx f m nt call' n' c fr σ K'=some r:=by
 intro c
 induction c with
 | skip=>intro K K' r fr σ hK h; exact hK _ _ _ h
 | label l=>intro K K' r fr σ hK h; exact hK _ _ _ h
 | exit id=>intro K K' r fr σ hK h; exact hK _ _ _ h
 | goto l=>intro K K' r fr σ hK h; exact hK _ _ _ h
 | ret=>intro K K' r fr σ hK h; exact hK _ _ _ h
 | refuse why=>intro K K' r fr σ hK h; cases h
 | rangeFunc f params assign body _ _=>intro K K' r fr σ hK h; cases h
 | region id ops draw=>
  intro K K' r fr σ hK h;cases draw
  ·simp only [z7] at h ⊢;split at h
   ·exact zaj hk hK _ _ _ h
   ·rename_i k hk';refine zaj hk (λ e fr σ h=>?_) _ _ _ h;cases e with
    | normal=>exact zrg (λ l fr σ h=>zaj hk hK _ _ _ h) h
    | _=>exact hK _ _ _ h
  ·simp only [z7] at h ⊢;split at h
   ·obtain ⟨hc,h⟩:=zd h;rw [hc];exact zao hk hK _ _ _ _ _ _ h
   ·rename_i k hk';obtain ⟨hc1,h⟩:=zd h;obtain ⟨hc,h⟩:=zd h;rw [hc1,hc];refine zao hk (λ e fr σ h=>?_) _ _ _ _ _ _ h;cases e with
    | normal=>exact zre (λ fr σ h=>hK _ _ _ h) h
    | _=>exact hK _ _ _ h
 | seq x y ihx ihy=>
  intro K K' r fr σ hK h;refine ihx (λ e fr σ h=>?_) h;cases e with
  | normal=>exact ihy hK h
  | _=>exact hK _ _ _ h
 | cond c x y ihx ihy=>
  intro K K' r fr σ hK h;simp only [z7] at h ⊢;obtain ⟨v,hv,h⟩:=za h;obtain ⟨b,rfl,h⟩:=zh4 h;simp only [hv,zc,asB];cases b
  ·exact ihy hK h
  ·exact ihx hK h
 | block id c ih=>
  intro K K' r fr σ hK h;refine ih (λ e fr σ h=>?_) h;cases e with
  | normal=>exact zb9 (λ fr σ h=>hK _ _ _ h) h
  | exit i=>
   simp only at h ⊢;cases hb:Nat.beq i id <;> rw [hb] at h
   ·exact hK _ _ _ h
   ·exact zb9 (λ fr σ h=>hK _ _ _ h) h
  | _=>exact hK _ _ _ h
 | loop c ih=>
  intro K K' r fr σ hK h;simp only [z7] at h ⊢;refine zb9 (λ fr σ h=>?_) h
  have key:∀ (k k':Nat),k≤k'→∀ (fr:Fr) (σ:St),iter (z7 cx f m nt call n c) (tidy cx m f (2 * yd c+1)) k fr σ K=some r →
    iter (z7 cx f m nt call' n' c) (tidy cx m f (2 * yd c+1)) k' fr σ K'=some r:=by
   intro k
   induction k with
   | zero=>intro k' _ fr σ h; cases h
   | succ k ihk=>
    intro k' hle fr σ h;obtain ⟨k',rfl⟩:∃ j,k'=j+1:=⟨k' - 1,by omega⟩
    simp only [iter] at h ⊢;refine ih (λ e fr σ h=>?_) h;cases e with
    | normal=>exact zb9 (λ fr σ h=>ihk k' (by omega) _ _ h) h
    | _=>exact hK _ _ _ h
  exact key n n' hn fr σ h
 | scope c ih=>
  intro K K' r fr σ hK h;refine ih (λ e fr σ h=>?_) h;cases e with
  | goto l=>cases h
  | _=>exact hK _ _ _ h
theorem zlk(n f:Nat)(args:List V)(σ:St):we cx (n+1) f args σ=v8 cx (we cx n) n f args σ:=rfl
theorem zli{call call':yn}(hk:knows cx call call'){f m nt n n':Nat}(hn:n≤n'):∀ (as:List Code) {K K':Ex→Fr→St→Option R} {r:R} {fr:Fr} {σ:St},
  (∀ e fr σ,K e fr σ=some r→K' e fr σ=some r)→zew cx f m nt call n as fr σ K=some r→zew cx f m nt call' n' as fr σ K'=some r
 | [],K,K',r,fr,σ,hK,h=>hK _ _ _ h
 | c::as,K,K',r,fr,σ,hK,h=>by
  simp only [zew] at h ⊢;refine zap hk hn c (λ e fr σ h=>?_) h;cases e with
  | normal=>exact zli hk hn as hK h
  | _=>exact hK _ _ _ h
theorem zsz{call call':yn}(hk:knows cx call call'){n n':Nat}(hn:n≤n'){g:Nat}{args:List V}{σ σ':St}{u:Option D}(h:za3 cx call n g args σ u=some σ'):za3 cx call' n' g args σ u=some σ':=by
 unfold za3 at h ⊢;split at h
 ·cases h
 ·rename_i fn hfn;split at h
  ·rename_i id ops c hb;split at h
   ·rename_i o r hops;obtain ⟨t,ht,h⟩:=za h;obtain ⟨hc,h⟩:=zd h;simp only [hops,ht,zc,hc,zh,p5];rw [hops] at h;refine zaj hk (λ e fr σ h=>?_) _ _ _ h;cases e with
    | normal=>exact zap hk hn c (λ _ _ _ h=>h) h
    | _=>cases h
   ·cases h
  ·cases h
theorem zg4{rec rec':Nat→List V→St→Option D→Option St}(hr:∀ g args σ u r,rec g args σ u=some r→rec' g args σ u=some r){σ:St}{g:Nat}{cap:List V}{u:Option D}{K:De→Option R}{r:R}
  (h:zfn cx rec σ g cap u K=some r):zfn cx rec' σ g cap u K=some r:=by
 unfold zfn at h ⊢;simp only at h ⊢;obtain ⟨hc,h⟩:=zd h;rw [hc];simp only [zh,p5];cases hq:rec g (V.renL (xb (wy σ 1000 (V.idsL cap) [])) cap) (y9 σ (wy σ 1000 (V.idsL cap) []) 0 (wy σ 1000 (V.idsL cap) [])) u with
 | none=>rw [hq] at h; cases h
 | some p=>rw [hq] at h; rw [hr _ _ _ _ _ hq]; exact h
theorem zve{rec rec':Nat→List V→St→Option D→Option St}(hr:∀ g args σ u r,rec g args σ u=some r→rec' g args σ u=some r){f m:Nat}{res:List ResultVar}{g:Nat}{cap:List V}{e:Ex}{fr:Fr}{σ:St}{r:Out×St}
  (h:zln cx rec f m res g cap e fr σ=some r):zln cx rec' f m res g cap e fr σ=some r:=by
 unfold zln at h ⊢;split at h
 ·exact zg4 hr h
 ·exact zg4 hr h
 ·exact zg4 hr h
 ·cases h
theorem zs1{call call':yn}(hk:knows cx call call'){f m nt n n':Nat}(hn:n≤n'){res:List ResultVar}{c:Code}{fr:Fr}{σ:St}{r:Out×St}
  (h:zfi cx f m nt res call n c fr σ=some r):zfi cx f m nt res call' n' c fr σ=some r:=by
 unfold zfi at h ⊢;split at h
 ·cases h
 ·rename_i as id ops t b hsp;refine zli hk hn as (λ e fr σ h=>?_) h;cases e with
  | normal=>
   refine zaj hk (λ e fr σ h=>?_) _ _ _ h;cases e with
   | normal=>
    simp only at h ⊢;obtain ⟨fv,hfv,h⟩:=za h;simp only [hfv,zc];split at h
    ·obtain ⟨ht,h⟩:=zd h;simp only [ht,zh,p5];exact zap hk hn b (λ e fr σ h=>zve (λ _ _ _ _ _ h=>zsz hk hn h) h) h
    ·cases h
   | _=>exact h
  | _=>exact h
theorem zfg{call call':yn}(hk:knows cx call call'){n n':Nat}(hn:n≤n'):∀ f args σ r,v8 cx call n f args σ=some r→v8 cx call' n' f args σ=some r:=by
 intro f args σ r h;unfold v8 at h ⊢;split at h
 ·exact h
 split at h
 ·cases h
 ·rename_i fn hfn;split at h
  ·cases h
  ·rename_i c hc;cases hd:cx.dfr f <;> rw [hd] at h
   ·exact zap hk hn c (λ _ _ _ h=>h) h
   ·exact zs1 hk hn h
theorem zec:∀ (n n':Nat),n≤n'→∀ f args σ r,we cx n f args σ=some r→we cx n' f args σ=some r
 | 0,_,_=>λ f args σ r h=>by cases h
 | n+1,0,h=>absurd h (by omega)
 | n+1,n'+1,h=>λ f args σ r hr=>by
  rw [zlk] at hr ⊢;exact zfg (λ f args σ r _ h=>zec n n' (by omega) f args σ r h) (by omega) f args σ r hr
end
section
variable {R:Type} {cx:Cx}
def zl(cx:Cx):yn:=λ f args σ=>
 open Classical in if h:∃ r n,we cx n f args σ=some r then some h.choose else none
theorem lim_ex{f:Nat}{args:List V}{σ:St}{r:Out×St}(h:zl cx f args σ=some r):∃ n,we cx n f args σ=some r:=by
 unfold zl at h;split at h
 ·rename_i hex;obtain ⟨n,hn⟩:=hex.choose_spec;cases h;exact ⟨n,hn⟩
 ·cases h
theorem zk1{f n:Nat}{args:List V}{σ:St}{r:Out×St}(h:we cx n f args σ=some r):zl cx f args σ=some r:=by
 unfold zl;have hex:∃ r n,we cx n f args σ=some r:=⟨r,n,h⟩;rw [dif_pos hex];obtain ⟨k,hk⟩:=hex.choose_spec;have h1:=zec n (max n k) (Nat.le_max_left _ _) f args σ _ h;have h2:=zec k (max n k) (Nat.le_max_right _ _) f args σ _ hk;rw [h1] at h2;exact h2.symm
def Ev(P:Nat→Prop):Prop:=∃ n₀,∀ n,n₀≤n→P n
theorem Ev.mono{P Q:Nat→Prop}(h:Ev P)(hpq:∀ n,P n→Q n):Ev Q:=let ⟨a,ha⟩:=h; ⟨a,λ n hn=>hpq n (ha n hn)⟩
theorem Ev.both{P Q:Nat→Prop}(h:Ev P)(h':Ev Q):Ev λ n=>P n∧Q n:=
 let ⟨a,ha⟩:=h; let ⟨b,hb⟩:=h'; ⟨max a b,λ n hn=>⟨ha n (by omega),hb n (by omega)⟩⟩
theorem z0r{f:Nat}{args:List V}{σ:St}{r:Out×St}(h:zl cx f args σ=some r):Ev λ n=>we cx n f args σ=some r:=
 let ⟨k,hk⟩:=lim_ex h; ⟨k,λ n hn=>zec k n hn f args σ r hk⟩
theorem zga{σ:St}{t f:Nat}{args:List V}{xs:List Nat}{K:Oc→De→List Nat→Option R}{r:R}(h:vf cx (zl cx) σ t f args xs K=some r):Ev λ n=>vf cx (we cx n) σ t f args xs K=some r:=by
 unfold vf at h ⊢;simp only at h ⊢;obtain ⟨hc,h⟩:=zd h;obtain ⟨hd,h⟩:=zd h;rw [hc,hd];simp only [zh,p5];cases hq:zl cx f (V.renL (xb (wy σ 1000 (V.idsL args++xs) [])) args) (y9 σ (wy σ 1000 (V.idsL args++xs) []) 0 (wy σ 1000 (V.idsL args++xs) [])) with
 | none=>rw [hq] at h; cases h
 | some p=>
  rw [hq] at h;exact (z0r hq).mono λ n hn=>by rw [hn]; exact h
theorem Ev.all{P:Prop}(h:P):Ev λ _=>P:=⟨0,λ _ _=>h⟩
theorem zht{m nt:Nat}{o:Oper}{fr:Fr}{σ:St}{p:Tri}(h:qx cx m nt (zl cx) o fr σ=some p):Ev λ n=>qx cx m nt (we cx n) o fr σ=some p:=by
 unfold qx at h ⊢;obtain ⟨dst,op,type,pos,after,guard⟩:=o;cases op
 case makeFunc fn first caps=>cases fn <;> exact .all h
 case makeMap t r=>cases r <;> exact .all h
 case call c=>
  obtain ⟨callee,cargs,ctypes⟩:=c;cases callee with
  | value f=>
   simp only [xl] at h ⊢;obtain ⟨v,hv,h⟩:=za h;simp only [hv,zc];split at h
   ·obtain ⟨l,hl,h⟩:=za h;simp only [hl];exact zga h
   ·cases hgr:(cx.grow _).isSome <;> rw [hgr] at h <;> simp only [p5,p6] at h ⊢
    rotate_left
    ·exact .all h
    cases hsm:(zfd cx.P _&&List.isEmpty _) <;> rw [hsm] at h <;> simp only [p5,p6] at h ⊢
    rotate_left
    ·obtain ⟨l,hl,h⟩:=za h;simp only [hl];exact .all h
    cases hgv:cx.gives _ <;> rw [hgv] at h
    ·cases hnil:(cx.keep _&&zgx cargs.toList) <;> rw [hnil] at h
     ·obtain ⟨l,hl,h⟩:=za h;simp only [hl,p6];exact zga h
     ·obtain ⟨l,hl,h⟩:=za h;obtain ⟨hc,h⟩:=zd h;simp only [hl,p5,p6,hc,zh];exact zga h
    ·obtain ⟨l,hl,h⟩:=za h;obtain ⟨hc,h⟩:=zd h;simp only [hl,p5,hc,zh];exact zga h
   ·cases h
  | invoke r nm=>exact .all h
  | builtin b=>cases b <;> exact .all h
 all_goals exact .all h
theorem zle{ops : List Oper}{o : Oper}{fr : Fr}{yes no : Fr → Option R}{yes' no' : Nat → Fr → Option R}{r : R}(hy : ∀ fr, yes fr = some r → Ev λ n => yes' n fr = some r)
    (hn : ∀ fr, no fr = some r → Ev λ n => no' n fr = some r) (h : zah ops o fr yes no = some r) : Ev λ n => zah ops o fr (yes' n) (no' n) = some r := by
  unfold zah at h ⊢;split at h
  · exact hy _ h
  · split at h
    · exact hn _ h
    · split at h
      · have key : ∀ (b want : Bool) (p q : Fr), (bif b then (bif want then yes p else no p) else (bif want then no q else yes q)) = some r →
            Ev λ n => (bif b then (bif want then yes' n p else no' n p) else (bif want then no' n q else yes' n q)) = some r := by
          intro b want p q h;cases b <;> cases want <;> first | exact hy _ h | exact hn _ h
        exact key _ _ _ _ h
      · exact hn _ h
      · cases h
theorem zbi{m nt:Nat}{ops:List Oper}{K:Ex→Fr→St→Option R}{K':Nat→Ex→Fr→St→Option R}{r:R}(hK:∀ e fr σ,K e fr σ=some r→Ev λ n=>K' n e fr σ=some r) :
  ∀ (l:List Oper) (fr:Fr) (σ:St),qw cx m nt (zl cx) ops l fr σ K=some r→Ev λ n=>qw cx m nt (we cx n) ops l fr σ (K' n)=some r
 | [],fr,σ,h=>hK _ _ _ h
 | o::l,fr,σ,h=>by
  unfold qw at h ⊢;obtain ⟨hd,h⟩:=zd h;rw [hd];simp only [zh,p5];refine zle (λ fr h=>?_) (λ fr h=>zbi hK l _ _ h) h;obtain ⟨p,hp,h⟩:=za h;obtain ⟨oc,δ,fp⟩:=p;cases oc with
  | val v=>exact ((zht hp).both (zbi hK l _ _ h)).mono λ n hn=>by simp only [hn.1,zc]; exact hn.2
  | pan v=>exact ((zht hp).both (hK _ _ _ h)).mono λ n hn=>by simp only [hn.1,zc]; exact hn.2
theorem zbj{m nt:Nat}{ops:List Oper}{pre:List Nat}{K:Ex→Fr→St→Option R}{K':Nat→Ex→Fr→St→Option R}{r:R}(hK:∀ e fr σ,K e fr σ=some r→Ev λ n=>K' n e fr σ=some r) :
  ∀ (l:List Oper) (i:Nat) (log:List Log) (dead:Option (Nat×V)) (fr:Fr) (σ:St),x1 cx m nt (zl cx) ops pre i l log dead fr σ K=some r→Ev λ n=>x1 cx m nt (we cx n) ops pre i l log dead fr σ (K' n)=some r
 | [],i,log,none,fr,σ,h=>by simp only [x1] at h ⊢; exact hK _ _ _ h
 | [],i,log,some (k,v),fr,σ,h=>by
  simp only [x1] at h ⊢;obtain ⟨hc,h⟩:=zd h;rw [hc];exact hK _ _ _ h
 | o::l,i,log,dead,fr,σ,h=>by
  simp only [x1] at h ⊢;cases hd:zhz pre i dead
  ·rw [hd,p6] at h;simp only [p6];obtain ⟨hc,h⟩:=zd h;rw [hc];simp only [zh,p5];refine zle (λ fr h=>?_) (λ fr h=>zbj hK l _ _ _ _ _ h) h;obtain ⟨p,hp,h⟩:=za h;obtain ⟨hm,h⟩:=zd h;obtain ⟨oc,δ,fp⟩:=p;cases oc with
   | val v=>exact ((zht hp).both (zbj hK l _ _ _ _ _ h)).mono λ n hn=>by simp only [hn.1,zc,hm,p5]; exact hn.2
   | pan v=>
    cases dead with
    | none=>exact ((zht hp).both (zbj hK l _ _ _ _ _ h)).mono λ n hn=>by simp only [hn.1,zc,hm,p5]; exact hn.2
    | some q=>cases h
  ·rw [hd,p5] at h;simp only [p5];exact zbj hK l _ _ _ _ _ h
theorem zni{nt:Nat}{σ:St}{fr:Fr}{q:Pend}{K:Fr→St→Option R}{K':Nat→Fr→St→Option R}{r:R}(hK:∀ fr σ,K fr σ=some r→Ev λ n=>K' n fr σ=some r)(h:zc1 cx nt σ fr q K=some r) :
  Ev λ n=>zc1 cx nt σ fr q (K' n)=some r:=by
 have key:∃ fr' σ',K fr' σ'=some r∧∀ K'':Fr→St→Option R,K'' fr' σ'=some r→zc1 cx nt σ fr q K''=some r:=by
  unfold zc1 at h ⊢;obtain ⟨hc,h⟩:=zd h;rw [hc];simp only [zh,p5];split at h
  case h_2=>cases h
  obtain ⟨hc,h⟩:=zd h;simp only [hc,p5];obtain ⟨s,hs,h⟩:=za h;obtain ⟨pl,hpl,h⟩:=za h;obtain ⟨jv,hjv,h⟩:=za h;obtain ⟨v,hv,h⟩:=za h;obtain ⟨y,hy,h⟩:=za h;simp only [hs,hpl,hjv,hv,hy,zc];split at h
  case h_2=>cases h
  split at h
  case h_2=>cases h
  obtain ⟨hc,h⟩:=zd h;simp only [*,p5];obtain ⟨sz',ps,hd,h9⟩:=zei h;obtain ⟨hc',h10⟩:=zd h9;refine ⟨_,_,h10,λ K'' hK''=>?_⟩;unfold dataOf at hd ⊢;split at hd <;> first | (cases hd; done) | skip
  all_goals (cases hd; simp only [hc',p5]; exact hK'')
 obtain ⟨fr',σ',h1,h2⟩:=key;exact (hK _ _ h1).mono λ n hn=>h2 _ hn
theorem zs0{nt:Nat}{ops:List Oper}{k:Nat}{fr:Fr}{σ:St}{K:List Oper→Fr→St→Option R}{K':Nat→List Oper→Fr→St→Option R}{r:R}(hK:∀ l fr σ,K l fr σ=some r→Ev λ n=>K' n l fr σ=some r)
  (h:zai cx nt ops k fr σ K=some r):Ev λ n=>zai cx nt ops k fr σ (K' n)=some r:=by
 unfold zai at h ⊢;split at h
 case h_2=>cases h
 obtain ⟨q,hq,h⟩:=za h;simp only [hq,zc];exact zni (λ fr σ h=>hK _ _ _ h) h
theorem zsy{nt:Nat}{ops:List Oper}{k:Nat}{fr:Fr}{σ:St}{K:Fr→St→Option R}{K':Nat→Fr→St→Option R}{r:R}(hK:∀ fr σ,K fr σ=some r→Ev λ n=>K' n fr σ=some r)(h:zbh cx nt ops k fr σ K=some r):Ev λ n=>zbh cx nt ops k fr σ (K' n)=some r:=by
 unfold zbh at h ⊢;split at h
 case h_2=>cases h
 obtain ⟨q,hq,h⟩:=za h;simp only [hq,zc];refine zni (λ fr σ h=>?_) h;split at h
 case h_2=>cases h
 obtain ⟨hc,h⟩:=zd h;obtain ⟨pv,hpv,h⟩:=za h;obtain ⟨v,hv,h⟩:=za h;simp only [hc,hpv,hv,zc,p5,zh];split at h
 case h_2=>cases h
 split at h
 case h_2=>cases h
 rename_i hido;obtain ⟨hc,h⟩:=zd h;simp only [hido,hc,p5];exact hK _ _ h
theorem zha{m f key:Nat}{fr:Fr}{σ:St}{K:Fr→St→Option R}{K':Nat→Fr→St→Option R}{r:R}(hK:∀ fr σ,K fr σ=some r→Ev λ n=>K' n fr σ=some r)(h:tidy cx m f key fr σ K=some r) :
  Ev λ n=>tidy cx m f key fr σ (K' n)=some r:=by
 unfold tidy at h ⊢;simp only at h ⊢;obtain ⟨hc,h⟩:=zd h;rw [hc];exact hK _ _ h
theorem zed{f m nt N:Nat}:∀ (c:Code) {K:Ex→Fr→St→Option R} {K':Nat→Ex→Fr→St→Option R} {r:R} {fr:Fr} {σ:St},
  (∀ e fr σ,K e fr σ=some r→Ev λ n=>K' n e fr σ=some r)→z7 cx f m nt (zl cx) N c fr σ K=some r→Ev λ n=>z7 cx f m nt (we cx n) n c fr σ (K' n)=some r:=by
 intro c
 induction c with
 | skip=>intro K K' r fr σ hK h; exact hK _ _ _ h
 | label l=>intro K K' r fr σ hK h; exact hK _ _ _ h
 | exit id=>intro K K' r fr σ hK h; exact hK _ _ _ h
 | goto l=>intro K K' r fr σ hK h; exact hK _ _ _ h
 | ret=>intro K K' r fr σ hK h; exact hK _ _ _ h
 | refuse why=>intro K K' r fr σ hK h; cases h
 | rangeFunc f params assign body _ _=>intro K K' r fr σ hK h; cases h
 | region id ops draw=>
  intro K K' r fr σ hK h;cases draw
  ·simp only [z7] at h ⊢;generalize cx.pend f id=pk at h ⊢;cases pk with
   | none=>exact zbi hK _ _ _ h
   | some k=>
    refine zbi (K':=λ n e fr σ=>_) (λ e fr σ h=>?_) _ _ _ h;cases e with
    | normal=>exact zs0 (λ l fr σ h=>zbi hK _ _ _ h) h
    | _=>exact hK _ _ _ h
  ·simp only [z7] at h ⊢;generalize cx.pend f id=pk at h ⊢;cases pk with
   | none=>
    obtain ⟨hc,h⟩:=zd h;rw [hc];exact zbj hK _ _ _ _ _ _ h
   | some k=>
    simp only at h ⊢;obtain ⟨hc1,h⟩:=zd h;obtain ⟨hc,h⟩:=zd h;rw [hc1,hc];refine zbj (K':=λ n e fr σ=>_) (λ e fr σ h=>?_) _ _ _ _ _ _ h;cases e with
    | normal=>exact zsy (λ fr σ h=>hK _ _ _ h) h
    | _=>exact hK _ _ _ h
 | seq x y ihx ihy=>
  intro K K' r fr σ hK h;refine ihx (λ e fr σ h=>?_) h;cases e with
  | normal=>exact ihy hK h
  | _=>exact hK _ _ _ h
 | cond c x y ihx ihy=>
  intro K K' r fr σ hK h;simp only [z7] at h ⊢;obtain ⟨v,hv,h⟩:=za h;obtain ⟨b,rfl,h⟩:=zh4 h;simp only [hv,zc,asB];cases b
  ·exact ihy hK h
  ·exact ihx hK h
 | block id c ih=>
  intro K K' r fr σ hK h;refine ih (λ e fr σ h=>?_) h;cases e with
  | normal=>exact zha (λ fr σ h=>hK _ _ _ h) h
  | exit i=>
   simp only at h ⊢;cases hb:Nat.beq i id <;> rw [hb] at h
   ·exact hK _ _ _ h
   ·exact zha (λ fr σ h=>hK _ _ _ h) h
  | _=>exact hK _ _ _ h
 | loop c ih=>
  intro K K' r fr σ hK h;simp only [z7] at h ⊢;refine zha (λ fr σ h=>?_) h
  have key:∀ (k:Nat),∀ (fr:Fr) (σ:St),iter (z7 cx f m nt (zl cx) N c) (tidy cx m f (2 * yd c+1)) k fr σ K=some r →
    Ev λ n=>∀ k',k≤k'→iter (z7 cx f m nt (we cx n) n c) (tidy cx m f (2 * yd c+1)) k' fr σ (K' n)=some r:=by
   intro k
   induction k with
   | zero=>intro fr σ h; cases h
   | succ k ihk=>
    intro fr σ h;simp only [iter] at h;have h1:Ev λ n=>∀ k',k≤k'→iter (z7 cx f m nt (we cx n) n c) (tidy cx m f (2 * yd c+1)) (k'+1) fr σ (K' n)=some r:=by
     -- one number of rounds for all
     have:=ih (K:=λ e fr σ=>match e with
      | .normal=>tidy cx m f (2 * yd c+1) fr σ λ fr σ=>iter (z7 cx f m nt (zl cx) N c) (tidy cx m f (2 * yd c+1)) k fr σ K
      | e=>K e fr σ)
      (K':=λ n e fr σ=>match e with
      | .normal=>tidy cx m f (2 * yd c+1) fr σ λ fr σ=>iter (z7 cx f m nt (we cx n) n c) (tidy cx m f (2 * yd c+1)) k fr σ (K' n)
      | e=>K' n e fr σ) (r:=r) (fr:=fr) (σ:=σ) (λ e fr σ h=>by
       cases e with
       | normal=>exact zha (λ fr σ h=>(ihk fr σ h).mono λ n hn=>hn k (Nat.le_refl k)) h
       | _=>exact hK _ _ _ h) h
     refine this.mono λ n hn k' hk'=>?_;simp only [iter]
     have hmono:∀ (k k':Nat),k≤k'→∀ (fr:Fr) (σ:St),iter (z7 cx f m nt (we cx n) n c) (tidy cx m f (2 * yd c+1)) k fr σ (K' n)=some r →
       iter (z7 cx f m nt (we cx n) n c) (tidy cx m f (2 * yd c+1)) k' fr σ (K' n)=some r:=by
      intro k
      induction k with
      | zero=>intro k' _ fr σ h; cases h
      | succ k ihk=>
       intro k' hle fr σ h;obtain ⟨k',rfl⟩:∃ j,k'=j+1:=⟨k' - 1,by omega⟩
       simp only [iter] at h ⊢;refine zap (λ _ _ _ _ _ h=>h) (Nat.le_refl _) c (λ e fr σ h=>?_) h;cases e with
       | normal=>exact zb9 (λ fr σ h=>ihk k' (by omega) _ _ h) h
       | _=>exact h
     refine zap (λ _ _ _ _ _ h=>h) (Nat.le_refl _) c (λ e fr σ h=>?_) hn;cases e with
     | normal=>exact zb9 (λ fr σ h=>hmono k k' hk' _ _ h) h
     | _=>exact h
    refine h1.mono λ n hn k' hk'=>?_;obtain ⟨k',rfl⟩:∃ j,k'=j+1:=⟨k' - 1,by omega⟩
    exact hn k' (by omega)
  obtain ⟨a,ha⟩:=key N fr σ h;exact ⟨max a N,λ n hn=>ha n (by omega) n (by omega)⟩
 | scope c ih=>
  intro K K' r fr σ hK h;refine ih (λ e fr σ h=>?_) h;cases e with
  | goto l=>cases h
  | _=>exact hK _ _ _ h
theorem zoc{f m nt N:Nat}:∀ (as:List Code) {K:Ex→Fr→St→Option R} {K':Nat→Ex→Fr→St→Option R} {r:R} {fr:Fr} {σ:St},
  (∀ e fr σ,K e fr σ=some r→Ev λ n=>K' n e fr σ=some r)→zew cx f m nt (zl cx) N as fr σ K=some r→Ev λ n=>zew cx f m nt (we cx n) n as fr σ (K' n)=some r
 | [],K,K',r,fr,σ,hK,h=>hK _ _ _ h
 | c::as,K,K',r,fr,σ,hK,h=>by
  simp only [zew] at h ⊢;refine zed c (λ e fr σ h=>?_) h;cases e with
  | normal=>exact zoc as hK h
  | _=>exact hK _ _ _ h
theorem zu7{N g:Nat}{args:List V}{σ σ':St}{u:Option D}(h:za3 cx (zl cx) N g args σ u=some σ'):Ev λ n=>za3 cx (we cx n) n g args σ u=some σ':=by
 unfold za3 at h ⊢;split at h
 ·cases h
 ·rename_i fn hfn;split at h
  ·rename_i id ops c hb;split at h
   ·rename_i o r hops;obtain ⟨t,ht,h⟩:=za h;obtain ⟨hc,h⟩:=zd h;simp only [hops,ht,zc,hc,zh,p5];rw [hops] at h;refine zbi (λ e fr σ h=>?_) _ _ _ h;cases e with
    | normal=>exact zed c (λ _ _ _ h=>.all h) h
    | _=>cases h
   ·cases h
  ·cases h
theorem zi1{N:Nat}{σ:St}{g:Nat}{cap:List V}{u:Option D}{K:De→Option R}{r:R}
  (h:zfn cx (za3 cx (zl cx) N) σ g cap u K=some r):Ev λ n=>zfn cx (za3 cx (we cx n) n) σ g cap u K=some r:=by
 unfold zfn at h ⊢;simp only at h ⊢;obtain ⟨hc,h⟩:=zd h;rw [hc];simp only [zh,p5];cases hq:za3 cx (zl cx) N g (V.renL (xb (wy σ 1000 (V.idsL cap) [])) cap) (y9 σ (wy σ 1000 (V.idsL cap) []) 0 (wy σ 1000 (V.idsL cap) [])) u with
 | none=>rw [hq] at h; cases h
 | some p=>rw [hq] at h; exact (zu7 hq).mono λ n hn=>by rw [hn]; exact h
theorem zxj{N f m:Nat}{res:List ResultVar}{g:Nat}{cap:List V}{e:Ex}{fr:Fr}{σ:St}{r:Out×St}
  (h:zln cx (za3 cx (zl cx) N) f m res g cap e fr σ=some r):Ev λ n=>zln cx (za3 cx (we cx n) n) f m res g cap e fr σ=some r:=by
 unfold zln at h ⊢;split at h
 ·exact zi1 h
 ·exact zi1 h
 ·exact zi1 h
 ·cases h
theorem zvc{f m nt N:Nat}{res:List ResultVar}{c:Code}{fr:Fr}{σ:St}{r:Out×St}
  (h:zfi cx f m nt res (zl cx) N c fr σ=some r):Ev λ n=>zfi cx f m nt res (we cx n) n c fr σ=some r:=by
 unfold zfi at h ⊢;split at h
 ·cases h
 ·rename_i as id ops t b hsp;refine zoc as (K':=λ n e fr σ=>_) (λ e fr σ h=>?_) h;cases e with
  | normal=>
   refine zbi (K':=λ n e fr σ=>_) (λ e fr σ h=>?_) _ _ _ h;cases e with
   | normal=>
    simp only at h ⊢;obtain ⟨fv,hfv,h⟩:=za h;simp only [hfv,zc];split at h
    ·obtain ⟨ht,h⟩:=zd h;simp only [ht,zh,p5];exact zed b (λ e fr σ h=>zxj h) h
    ·cases h
   | _=>exact .all h
  | _=>exact .all h
theorem zqw{N f:Nat}{args:List V}{σ:St}{r:Out×St}(h:v8 cx (zl cx) N f args σ=some r):zl cx f args σ=some r:=by
 have:Ev λ n=>v8 cx (we cx n) n f args σ=some r:=by
  unfold v8 at h ⊢;split at h
  ·exact .all h
  split at h
  ·cases h
  ·rename_i fn hfn;split at h
   ·cases h
   ·rename_i c hc;cases hd:cx.dfr f <;> rw [hd] at h
    ·exact zed c (λ e fr σ h=>.all h) h
    ·exact zvc h
 obtain ⟨a,ha⟩:=this;exact zk1 (n:=a+1) (by rw [zlk]; exact ha a (Nat.le_refl a))
end
section
variable {α R:Type} {cx:Cx} {σ:St}
theorem zpw(site t:Nat)(s x:V)(b:Bool)(F:V→De→List Nat→Option α)(K:α→Option R):zc (zc7 cx σ site t s x b F) K=zc7 cx σ site t s x b λ a b c=>zc (F a b c) K:=by
 unfold zc7;split <;> try rfl
 simp only [zjl,zi,zx];congr 1; funext a l; congr 1; congr 1;split <;> try rfl
 all_goals (split <;> simp only [zi,zt])
theorem zqh(site t:Nat)(x:V)(lo hi mx:Option V)(F:V→De→List Nat→Option α)(K:α→Option R):zc (zd0 cx σ site t x lo hi mx F) K=zd0 cx σ site t x lo hi mx λ a b c=>zc (F a b c) K:=by
 unfold zd0;split <;> try rfl
 ·split <;> simp only [zl9,zt]
 ·simp only [zlw,zi];congr 1; congr 1; funext a l; congr 1;split <;> simp only [zl9,zi,zx]
theorem zu1(t:Nat)(x:V)(F:V→List Nat→Option α)(K:α→Option R):zc (lenV cx σ t x F) K=lenV cx σ t x λ a b=>zc (F a b) K:=by
 unfold lenV;split <;> try rfl
 split <;> rfl
theorem zjs(t:Nat)(x i:V)(F:V→Option α)(K:α→Option R):zc (zbf cx t x i F) K=zbf cx t x i λ a=>zc (F a) K:=by
 unfold zbf;split <;> try rfl
 all_goals
  simp only [zi];congr 1;split <;> simp only [zgw,zam,zi,zt]
theorem zju(s:Nat)(x:V)(f:Nat)(F:V→Option α)(K:α→Option R):zc (zbg cx s x f F) K=zbg cx s x f λ a=>zc (F a) K:=by
 unfold zbg;simp only [zp,zi];congr 1; funext p; congr 1;split <;> rfl
theorem zkm(t:Nat)(v:V)(off:Nat)(F:V→Option α)(K:α→Option R):zc (zhj cx t v off F) K=zhj cx t v off λ a=>zc (F a) K:=by
 unfold zhj;simp only [zi,zx,zcc,zek]
theorem zq5(t:Nat)(x i:V)(F:V→Option α)(K:α→Option R):zc (ziv cx t x i F) K=ziv cx t x i λ a=>zc (F a) K:=by
 unfold ziv;split <;> try rfl
 ·split <;> simp only [zgw,zp,zt]
 ·simp only [zgw,zkm]
theorem zpv(P:Program)(t:Nat)(ok:Bool)(x:V)(F:V→Option α)(K:α→Option R):zc (zh3 P t ok x F) K=zh3 P t ok x λ a=>zc (F a) K:=by
 unfold zh3;rw [zi];split
 ·rw [zx]; rfl
 ·rfl
theorem zuu(l:List V)(F:V→Option α)(K:α→Option R):zc (zuv l F) K=zuv l λ a=>zc (F a) K:=by
 unfold zuv;split <;> rfl
theorem zsu(site g:Nat)(cap:List V)(args:List Operand)(fr:Fr)(F:Oc→De→List Nat→Option α)(K:α→Option R):zc (zgk cx σ site g cap args fr F) K=zgk cx σ site g cap args fr λ a b c=>zc (F a b c) K:=by
 unfold zgk;split <;> try rfl
 simp only [zp];congr 1; funext e; congr 1; funext v;split <;> simp only [zi,zt]
theorem ztd(s t:Nat)(x:V)(F:V→List Nat→Option α)(K:α→Option R):zc (zly cx σ s t x F) K=zly cx σ s t x λ a b=>zc (F a b) K:=by
 unfold zly;split <;> try rfl
 split <;> simp only [zi,zt]
theorem zin{β:Type}(o:Option β)(F:β→Option α)(E:Option α)(K:α→Option R):zc (zkp o F E) K=zkp o (λ b=>zc (F b) K) (zc E K):=by cases o <;> rfl
theorem zpa(t:Nat)(x k:V)(ok:Bool)(F:V→List Nat→Option α)(K:α→Option R):zc (zb4 cx σ t x k ok F) K=zb4 cx σ t x k ok λ a b=>zc (F a b) K:=by
 unfold zb4;split <;> try rfl
 simp only [zp,zmh,zi];congr 1; funext z; congr 1; funext key; congr 1;split <;> try rfl
 ·simp only [zp,zin,zam,zak]
 ·split <;> simp only [zp,zin,zam,zak,zt]
theorem zo8(t:Nat)(x k v:V)(F:De→List Nat→Option α)(K:α→Option R):zc (zb3 cx σ t x k v F) K=zb3 cx σ t x k v λ a b=>zc (F a b) K:=by
 unfold zb3;split <;> try rfl
 split <;> try rfl
 split <;> simp only [zp,zmh,zi,zin,zt]
theorem zjr(site t:Nat)(l c:V)(F:V→De→List Nat→Option α)(K:α→Option R):zc (vj cx σ site t l c F) K=vj cx σ site t l c λ a b d=>zc (F a b d) K:=by
 unfold vj;split <;> simp only [zp,zi,zt]
theorem zr3(v:V)(F:V→De→List Nat→Option α)(K:α→Option R):zc (zgg σ v F) K=zgg σ v λ a b d=>zc (F a b d) K:=by
 unfold zgg;split <;> try rfl
 split <;> simp only [zi,zt]
theorem zva{m nt:Nat}{call:yn}{o:Oper}{fr:Fr}(F:Oc→De→List Nat→Option α)(K:α→Option R):zc (xl cx m nt call o fr σ F) K=xl cx m nt call o fr σ λ a b c=>zc (F a b c) K:=by
 obtain ⟨dst,op,type,pos,after,guard⟩:=o;cases op
 case makeFunc fn first caps=>cases fn <;> simp only [xl,zi,zp,zt,zx]
 case makeMap t r=>cases r <;> simp only [xl,zi,zt]
 case move x | assign x=>
  simp only [xl];split
  ·split <;> try rfl
   split <;> simp only [zx,zsc]
  ·simp only [zp,zx,zr3]
 case buildSlice t n ps=>
  simp only [xl];cases zpd cx nt dst ps.toList <;> cases cx.own nt (dst.getD 0) <;> split <;> simp only [zp,zi,zt,p5,p6]
 case nilCheck x=>
  simp only [xl,zp];congr 1; funext v;split <;> rfl
 case convert s t x=>
  simp only [xl,zp];congr 1; funext v;split
  ·split <;> simp only [zi,zt]
  ·simp only [ztc,ztd,zx]
 case makeInterface t x=>
  simp only [xl];split <;> try rfl
  simp only [zp];congr 1; funext v;split <;> rfl
 case panic x=>
  simp only [xl,zp];congr 1; funext v;split <;> rfl
 case call c=>
  obtain ⟨callee,cargs,ctypes⟩:=c;cases callee with
  | value f=>
   simp only [xl,zp];congr 1; funext v;split
   ·simp only [zp,zg3]
   ·simp only [zx,zp,zi,zg3,zuu,zsu]
   ·rfl
  | invoke r nm=>rfl
  | builtin b=>
   cases b <;> try rfl
   ·simp only [xl];split <;> simp only [zp,zi,zpw,zt]
   ·simp only [xl];split <;> simp only [zp,zu1,zt]
 all_goals first | rfl | (simp only [xl,zp,zi,zx,zt,zpa,zo8,zjr,zrx,zsq,ze7,zmw,zvu,zwa,zus,zqh,zju,zkm,zjs,zq5,zmd,zcc,zpv]; done)
theorem zlj{m nt:Nat}{call:yn}{o:Oper}{fr:Fr}(K:Tri→Option R):zc (qx cx m nt call o fr σ) K=xl cx m nt call o fr σ λ a b c=>K (a,b,c):=by
 unfold qx;rw [zva];rfl
structure CK (R:Type) where
 S:yn
 run:Nat→List V→St→(Out→St→Option R)→Option R
 ok:∀ g a σ K,run g a σ K=(match S g a σ with | some (o,σ')=>K o σ' | none=>none)
def CK.plain{R:Type}(S:yn):CK R:=⟨S,λ g a σ K=>match S g a σ with | some (o,σ')=>K o σ' | none=>none,λ _ _ _ _=>rfl⟩
instance {R:Type}:Coe yn (CK R):=⟨CK.plain⟩
def zi0(cx:Cx)(call:CK R)(σ:St)(t f:Nat)(args:List V)(xs:List Nat)(K:Oc→De→List Nat→Option R):Option R:=
 let ren:=wy σ 1000 (V.idsL args++xs) []
 zh (closedIn σ (V.idsL args++xs) ren) <| zh (cx.dom f (V.renL (xb ren) args)) <| call.run f (V.renL (xb ren) args) (y9 σ ren 0 ren) λ oc σ'=>match oc with
  | .ret v=>qr ren σ σ' 0 ren λ δ=>zem cx.P t (v.ren (za5 ren)) λ v=>K (.val v) δ ren
  | .pan v=>qr ren σ σ' 0 ren λ δ=>K (.pan (v.ren (za5 ren))) δ ren
theorem zvr{call:CK R}{t f:Nat}{args:List V}{xs:List Nat}{K:Oc→De→List Nat→Option R}:zi0 cx call σ t f args xs K=vf cx call.S σ t f args xs K:=by
 unfold zi0 vf;simp only;congr 1;congr 1;rw [call.ok];cases call.S f (V.renL (xb (wy σ 1000 (V.idsL args++xs) [])) args) (y9 σ (wy σ 1000 (V.idsL args++xs) []) 0 (wy σ 1000 (V.idsL args++xs) [])) with
 | none=>rfl
 | some p=>
  obtain ⟨o,s⟩:=p;cases o <;> rfl
def zt9(cx : Cx)(m nt : Nat)(call : CK R)(o : Oper)(fr : Fr)(σ : St)(K : Oc → De → List Nat → Option R) : Option R :=
  match o.op with
  | .call ⟨.value f, cargs, ctypes⟩ => zc (opd fr f) λ fv => (match fv with
        | .mfunc g first => zc (vo cx.P fr cargs.toList ctypes.toList) λ args => zi0 cx call σ o.type g (first.map .d ++ qv (cx.keep g) args) [] K
        | .func g cap => bif (cx.grow g).isSome then zgk cx σ (m + o.dst.getD 0) g cap cargs.toList fr K else bif zfd cx.P g && cap.isEmpty then zc (vo cx.P fr cargs.toList ctypes.toList) λ l => zuv l λ v => K (.val v) [] [] else bif cx.gives g
          then zc (vo cx.P fr cargs.toList ctypes.toList) λ l => zh (z6 σ [(m + o.dst.getD 0, .tok 0)]) (zi0 cx call (vv σ (m + o.dst.getD 0) (.tok 0)) o.type g (qv (cx.keep g) l ++ cap) [m + o.dst.getD 0] λ oc δ fp => K oc ((m + o.dst.getD 0, .tok 0) :: δ) ((m + o.dst.getD 0) :: fp))
          else bif cx.keep g && zgx cargs.toList
          then zc (q8 cx.P fr (m + o.dst.getD 0) cargs.toList ctypes.toList) λ l => zh (z6 σ [(m + o.dst.getD 0, .tok 0)]) (zi0 cx call (vv σ (m + o.dst.getD 0) (.tok 0)) o.type g (l ++ cap) [] λ oc δ fp => K oc ((m + o.dst.getD 0, .tok 0) :: δ) ((m + o.dst.getD 0) :: fp))
          else zc (vo cx.P fr cargs.toList ctypes.toList) λ args => zi0 cx call σ o.type g (qv (cx.keep g) args ++ cap) [] K
        | _ => none)
  | _ => xl cx m nt call.S o fr σ K
theorem zri{m nt:Nat}{call:CK R}{o:Oper}{fr:Fr}{K:Oc→De→List Nat→Option R}:zt9 cx m nt call o fr σ K=xl cx m nt call.S o fr σ K:=by
 obtain ⟨dst,op,type,pos,after,guard⟩:=o;cases op <;> try rfl
 case call c=>
  obtain ⟨callee,cargs,ctypes⟩:=c;cases callee <;> try rfl
  unfold zt9 xl;simp only [zvr];congr 1
def zdd(cx:Cx)(m nt:Nat)(call:CK R)(ops:List Oper):List Oper→Fr→St→(Ex→Fr→St→Option R)→Option R
 | [],fr,σ,K=>K .normal fr σ
 | o::r,fr,σ,K=>zh (zjj nt o.dst) <| zah ops o fr
   (λ fr=>zt9 cx m nt call o fr σ λ oc δ _=>match oc with
    | .val v=>zdd cx m nt call ops r (zcv fr o.dst v) (ze σ δ) K
    | .pan v=>K (.pan v) fr (ze σ δ))
   (λ fr=>zdd cx m nt call ops r (zcv fr o.dst x8) σ K)
theorem zf7{m nt:Nat}{call:CK R}{ops:List Oper}{K:Ex→Fr→St→Option R}:∀ (l:List Oper) (fr:Fr) (σ:St),qw cx m nt call.S ops l fr σ K=zdd cx m nt call ops l fr σ K
 | [],_,_=>rfl
 | o::l,fr,σ=>by
  unfold qw zdd;congr 1;congr 1
  ·funext fr;rw [zlj,zri];congr 1;funext oc δ fp;cases oc with
   | val v=>exact zf7 l _ _
   | pan v=>rfl
  ·funext fr;exact zf7 l _ _
def zb6(cx:Cx)(m nt:Nat)(call:CK R)(ops:List Oper)(pre:List Nat) :
  Nat→List Oper→List Log→Option (Nat×V)→Fr→St→(Ex→Fr→St→Option R)→Option R
 | _,[],_,none,fr,σ,K=>K .normal fr σ
 | _,[],log,some (k,v),_,σ,K=>zh (log.all λ a=>a.w.isEmpty||Nat.beq a.i k||yv pre k a.i) (K (.pan v) [] σ)
 | i,o::r,log,dead,fr,σ,K=>
   bif zhz pre i dead then zb6 cx m nt call ops pre (i+1) r log dead fr σ K
   else zh (zjj nt o.dst) <| zah ops o fr
    (λ fr=>zt9 cx m nt call o fr σ λ oc δ fp=>zh (log.all λ a=>zc8 pre a ⟨i,δ.map (·.1)++fp,δ.map (·.1)⟩) (match oc,dead with
     | .val u,_=>zb6 cx m nt call ops pre (i+1) r (⟨i,δ.map (·.1)++fp,δ.map (·.1)⟩::log) dead (zcv fr o.dst u) (ze σ δ) K
     | .pan v,none=>zb6 cx m nt call ops pre (i+1) r (⟨i,δ.map (·.1)++fp,δ.map (·.1)⟩::log) (some (i,v)) fr (ze σ δ) K
     | .pan _,some _=>none))
    (λ fr=>zb6 cx m nt call ops pre (i+1) r log dead (zcv fr o.dst x8) σ K)
theorem zdp{m nt:Nat}{call:CK R}{ops:List Oper}{pre:List Nat}{K:Ex→Fr→St→Option R}:∀ (l:List Oper) (i:Nat) (log:List Log) (dead:Option (Nat×V)) (fr:Fr) (σ:St),
  x1 cx m nt call.S ops pre i l log dead fr σ K=zb6 cx m nt call ops pre i l log dead fr σ K
 | [],_,_,none,_,_=>rfl
 | [],_,_,some _,_,_=>rfl
 | o::l,i,log,dead,fr,σ=>by
  unfold x1 zb6;rw [zdp l];congr 1;congr 1;congr 1
  ·funext fr;rw [zlj,zri];congr 1;funext oc δ fp;congr 1;cases oc with
   | val v=>exact zdp l _ _ _ _ _
   | pan v=>
    cases dead with
    | none=>exact zdp l _ _ _ _ _
    | some q=>rfl
  ·funext fr;exact zdp l _ _ _ _ _
end
section
variable {R:Type} {cx:Cx}
def xk(cx:Cx)(f m nt:Nat)(call:CK R)(n:Nat):Code→Fr→St→(Ex→Fr→St→Option R)→Option R
 | .skip,fr,σ,K=>K .normal fr σ
 | .label _,fr,σ,K=>K .normal fr σ
 | .region id ops false,fr,σ,K=>(match cx.pend f id with
   | none=>zdd cx m nt call ops.toList ops.toList fr σ K
   | some k=>zdd cx m nt call ops.toList (ops.toList.take k) fr σ λ e fr σ=>match e with
     | .normal=>zai cx nt ops.toList k fr σ λ r fr σ=>zdd cx m nt call ops.toList r fr σ K
     | e=>K e fr σ)
 | .region id ops true,fr,σ,K=>(match cx.pend f id with
   | none=>zh (zef ops.toList (vb ops.toList [])) (zb6 cx m nt call ops.toList (vb ops.toList []) 0 ops.toList [] none fr σ K)
   | some k=>zh (ze6 ops.toList k) <| zh (zef ops.toList (vb ops.toList [])) (zb6 cx m nt call ops.toList (vb ops.toList []) 0 (ops.toList.take k) [] none fr σ λ e fr σ=>match e with
     | .normal=>zbh cx nt ops.toList k fr σ (K .normal)
     | e=>K e fr σ))
 | .seq a b,fr,σ,K=>xk cx f m nt call n a fr σ λ e fr σ=>match e with
   | .normal=>xk cx f m nt call n b fr σ K
   | e=>K e fr σ
 | .cond c a b,fr,σ,K=>zc (opd fr c) λ v=>asB v λ t=>bif t then xk cx f m nt call n a fr σ K else xk cx f m nt call n b fr σ K
 | .block id c,fr,σ,K=>xk cx f m nt call n c fr σ λ e fr σ=>match e with
   | .normal=>tidy cx m f (2 * id) fr σ (K .normal)
   | .exit id'=>bif Nat.beq id' id then tidy cx m f (2 * id) fr σ (K .normal) else K (.exit id') fr σ
   | e=>K e fr σ
 | .loop c,fr,σ,K=>tidy cx m f (2 * yd c+1) fr σ λ fr σ=>
   iter (xk cx f m nt call n c) (tidy cx m f (2 * yd c+1)) n fr σ K
 | .exit id,fr,σ,K=>K (.exit id) fr σ
 | .goto l,fr,σ,K=>K (.goto l) fr σ
 | .ret,fr,σ,K=>K .ret fr σ
 | .scope c,fr,σ,K=>xk cx f m nt call n c fr σ λ e fr σ=>match e with
   | .goto _=>none
   | e=>K e fr σ
 | _,_,_,_=>none
theorem zfj{f m nt n:Nat}{call:CK R}:∀ (c:Code) (fr:Fr) (σ:St) (K:Ex→Fr→St→Option R),z7 cx f m nt call.S n c fr σ K=xk cx f m nt call n c fr σ K:=by
 intro c
 induction c with
 | skip=>intros; rfl
 | label l=>intros; rfl
 | exit id=>intros; rfl
 | goto l=>intros; rfl
 | ret=>intros; rfl
 | refuse why=>intros; rfl
 | rangeFunc f params assign body _ _=>intros; rfl
 | region id ops draw=>
  intro fr σ K;cases draw
  ·unfold z7 xk;cases cx.pend f id with
   | none=>exact zf7 _ _ _
   | some k=>
    simp only [zf7];rfl
  ·unfold z7 xk;cases cx.pend f id with
   | none=>simp only [zdp]
   | some k=>
    simp only [zdp];rfl
 | seq x y ihx ihy=>
  intro fr σ K;unfold z7 xk;rw [ihx];congr 1;funext e fr σ;cases e <;> first | rfl | exact ihy _ _ _
 | cond c x y ihx ihy=>
  intro fr σ K;unfold z7 xk;simp only [ihx,ihy]
 | block id c ih=>
  intro fr σ K;unfold z7 xk;rw [ih];congr 1
 | loop c ih=>
  intro fr σ K;unfold z7 xk;congr 1;funext fr σ;have e:(λ (fr:Fr) (σ:St) (K:Ex→Fr→St→Option R)=>z7 cx f m nt call.S n c fr σ K)=λ fr σ K=>xk cx f m nt call n c fr σ K:=by
   funext fr σ K;exact ih fr σ K
  exact congrArg (λ body=>iter body (tidy cx m f (2 * yd c+1)) n fr σ K) e
 | scope c ih=>
  intro fr σ K;unfold z7 xk;rw [ih];congr 1
def zpj(cx:Cx)(f m nt:Nat)(call:CK R)(n:Nat):List Code→Fr→St→(Ex→Fr→St→Option R)→Option R
 | [],fr,σ,K=>K .normal fr σ
 | a::r,fr,σ,K=>xk cx f m nt call n a fr σ λ e fr σ=>match e with
   | .normal=>zpj cx f m nt call n r fr σ K
   | e=>K e fr σ
theorem zt7{f m nt n:Nat}{call:CK R}:∀ (as:List Code) (fr:Fr) (σ:St) (K:Ex→Fr→St→Option R),zew cx f m nt call.S n as fr σ K=zpj cx f m nt call n as fr σ K
 | [],_,_,_=>rfl
 | a::as,fr,σ,K=>by
  unfold zew zpj;rw [zfj];congr 1;funext e fr σ;cases e <;> first | rfl | exact zt7 as _ _ _
def zpi(cx:Cx)(call:yn)(n g:Nat)(args:List V)(σ:St)(u:Option D):Option St:=
 match cx.P.funcs[g]? with
 | none=>none
 | some fn=>
  match fn.body with
  | some (.seq (.region _ ops false) c)=>
   (match ops.toList with
    | o::r=>zc (zhi o) λ t=>zh (Nat.blt t fn.ntmps&&fn.results.isEmpty) <|
     zdd cx σ.length fn.ntmps (CK.plain call) ops.toList r ((t,.d (z0a u))::vw 0 args) σ λ e fr σ'=>match e with
      | .normal=>xk cx g σ.length fn.ntmps (CK.plain call) n c fr σ' λ e _ σ'=>(match e with | .normal | .ret=>qc σ.length σ' (List.range σ.length) | _=>none)
      | _=>none
    | []=>none)
  | _=>none
theorem zy9{call:yn}{n:Nat}:za3 cx call n=zpi cx call n:=by
 funext g args σ u;unfold za3 zpi;have e:∀ {R:Type},(CK.plain call:CK R).S=call:=rfl;simp only [←zf7,←zfj,e];rfl
def zs2(cx:Cx)(f m nt:Nat)(res:List ResultVar)(call:CK (Out×St))(n:Nat)(c:Code)(fr:Fr)(σ:St):Option (Out×St):=
 match zdz c with
 | none=>none
 | some (as,_,ops,t,b)=>
  zpj cx f m nt call n as fr σ λ e fr σ=>match e with
   | .normal=>zdd cx m nt call ops.toList ops.toList.dropLast fr σ λ e fr σ=>(match e with
     | .normal=>zc (zf fr t) λ fv=>(match fv with
       | .func g cap=>zh (!q6 b) (xk cx f m nt call n b fr σ (zln cx (zpi cx call.S n) f m res g cap))
       | _=>none)
     | e=>zg0 cx f m res e fr σ)
   | e=>zg0 cx f m res e fr σ
theorem zzb{f m nt n:Nat}{res:List ResultVar}{call:CK (Out×St)}{c:Code}{fr:Fr}{σ:St}:zfi cx f m nt res call.S n c fr σ=zs2 cx f m nt res call n c fr σ:=by
 unfold zfi zs2;simp only [zt7,zf7,zfj,zy9];rfl
def zu(cx:Cx)(call:CK (Out×St))(n f:Nat)(args:List V)(σ:St):Option (Out×St):=
 match cx.nat f args σ with
 | some r=>some r
 | none=>
 match cx.P.funcs[f]? with
 | none=>none
 | some fn=>
  match fn.body with
  | none=>none
  | some c=>bif cx.dfr f then zs2 cx f σ.length fn.ntmps fn.results.toList call n c (vw 0 args) σ
   else xk cx f σ.length fn.ntmps call n c (vw 0 args) σ (zg0 cx f σ.length fn.results.toList)
theorem zrd{call:CK (Out×St)}{n f:Nat}{args:List V}{σ:St}:v8 cx call.S n f args σ=zu cx call n f args σ:=by
 unfold v8 zu;simp only [zzb,zfj];rfl
theorem zw{call:CK (Out×St)}(hk:knows cx call.S (zl cx)){N f:Nat}{args:List V}{σ:St}{r:Out×St}(h:zu cx call N f args σ=some r):zl cx f args σ=some r:=
 zqw (N:=N) (zfg hk (Nat.le_refl N) f args σ r (by rw [zrd]; exact h))
theorem w8{call:yn}(hk:knows cx call (zl cx)){N f:Nat}{args:List V}{σ:St}{r:Out×St}(h:zu cx (CK.plain call) N f args σ=some r):zl cx f args σ=some r:=
 zw (call:=CK.plain call) hk h
end
section
variable {R:Type}
def codeOf(cx:Cx)(f:Nat):Code:=match cx.P.funcs[f]? with | some fn=>(match fn.body with | some c=>c | none=>.skip) | none=>.skip
def zux(cx:Cx)(f:Nat):Nat:=match cx.P.funcs[f]? with | some fn=>fn.ntmps | none=>0
def zzq(cx:Cx)(f:Nat):List ResultVar:=match cx.P.funcs[f]? with | some fn=>fn.results.toList | none=>[]
def findLoop(r:Nat):Code→Option Code
 | .loop c=>bif Nat.beq (yd c) r then some c else findLoop r c
 | .seq a b=>(match findLoop r a with | some c=>some c | none=>findLoop r b)
 | .cond _ a b=>(match findLoop r a with | some c=>some c | none=>findLoop r b)
 | .block _ c=>findLoop r c
 | .scope c=>findLoop r c
 | _=>none
def zzv(cx:Cx)(f r:Nat):Code:=match findLoop r (codeOf cx f) with | some c=>c | none=>.skip
def LP(cx:Cx)(call:CK R)(n f m r k:Nat)(fr:Fr)(σ:St)(K:Ex→Fr→St→Option R):Option R:=
 iter (xk cx f m (zux cx f) call n (zzv cx f r)) (tidy cx m f (2 * r+1)) k fr σ K
def zro(cx:Cx)(f m nt:Nat)(call:CK R)(n r:Nat):Code→(Ex→Fr→St→Option R)→Option (Ex→Fr→St→Option R)
 | .loop c,K=>bif Nat.beq (yd c) r then some K else none
 | .seq a b,K=>(match zro cx f m nt call n r a (λ e fr σ=>match e with
   | .normal=>xk cx f m nt call n b fr σ K
   | e=>K e fr σ) with | some k=>some k | none=>zro cx f m nt call n r b K)
 | .cond _ a b,K=>(match zro cx f m nt call n r a K with | some k=>some k | none=>zro cx f m nt call n r b K)
 | .block id c,K=>zro cx f m nt call n r c λ e fr σ=>match e with
   | .normal=>tidy cx m f (2 * id) fr σ (K .normal)
   | .exit id'=>bif Nat.beq id' id then tidy cx m f (2 * id) fr σ (K .normal) else K (.exit id') fr σ
   | e=>K e fr σ
 | .scope c,K=>zro cx f m nt call n r c λ e fr σ=>match e with
   | .goto _=>none
   | e=>K e fr σ
 | _,_=>none
def AK(cx:Cx)(call:CK R)(n f m r:Nat)(K:Ex→Fr→St→Option R):Ex→Fr→St→Option R:=
 match zro cx f m (zux cx f) call n r (codeOf cx f) K with | some k=>k | none=>λ _ _ _=>none
def inK(cx:Cx)(call:CK R)(n f m r k:Nat)(K:Ex→Fr→St→Option R):Ex→Fr→St→Option R:=λ e fr σ=>
 match e with
 | .normal=>tidy cx m f (2 * r+1) fr σ λ fr σ=>LP cx call n f m r k fr σ K
 | e=>K e fr σ
def AL(cx:Cx)(call:CK R)(n f m r r':Nat)(K:Ex→Fr→St→Option R):Ex→Fr→St→Option R:=
 match zro cx f m (zux cx f) call n r' (zzv cx f r) K with | some k=>k | none=>λ _ _ _=>none
def EK(cx:Cx)(f m:Nat):Ex→Fr→St→Option (Out×St):=zg0 cx f m (zzq cx f)
end
section
variable {R:Type}
def qi(r:Nat):Code→Option (List Oper)
 | .region id ops _=>bif Nat.beq id r then some ops.toList else none
 | .loop c=>qi r c
 | .seq a b=>(match qi r a with | some c=>some c | none=>qi r b)
 | .cond _ a b=>(match qi r a with | some c=>some c | none=>qi r b)
 | .block _ c=>qi r c
 | .scope c=>qi r c
 | _=>none
def zki(cx:Cx)(f r:Nat):List Oper:=match qi r (codeOf cx f) with | some l=>l | none=>[]
def ztb(cx:Cx)(f m nt:Nat)(call:CK R)(n r:Nat):Code→(Ex→Fr→St→Option R)→Option (Ex→Fr→St→Option R)
 | .region id _ _,K=>bif Nat.beq id r then some K else none
 | .seq a b,K=>(match ztb cx f m nt call n r a (λ e fr σ=>match e with
   | .normal=>xk cx f m nt call n b fr σ K
   | e=>K e fr σ) with | some k=>some k | none=>ztb cx f m nt call n r b K)
 | .cond _ a b,K=>(match ztb cx f m nt call n r a K with | some k=>some k | none=>ztb cx f m nt call n r b K)
 | .block id c,K=>ztb cx f m nt call n r c λ e fr σ=>match e with
   | .normal=>tidy cx m f (2 * id) fr σ (K .normal)
   | .exit id'=>bif Nat.beq id' id then tidy cx m f (2 * id) fr σ (K .normal) else K (.exit id') fr σ
   | e=>K e fr σ
 | .scope c,K=>ztb cx f m nt call n r c λ e fr σ=>match e with
   | .goto _=>none
   | e=>K e fr σ
 | _,_=>none
def AR(cx:Cx)(call:CK R)(n f m r:Nat)(K:Ex→Fr→St→Option R):Ex→Fr→St→Option R:=
 match ztb cx f m (zux cx f) call n r (codeOf cx f) K with | some k=>k | none=>λ _ _ _=>none
def OPS(cx:Cx)(call:CK R)(n f m r j:Nat)(fr:Fr)(σ:St)(K:Ex→Fr→St→Option R):Option R:=
 zdd cx m (zux cx f) call (zki cx f r) ((zki cx f r).drop j) fr σ K
def DRW(cx:Cx)(call:CK R)(n f m r j:Nat)(log:List Log)(fr:Fr)(σ:St)(K:Ex→Fr→St→Option R):Option R:=
 zb6 cx m (zux cx f) call (zki cx f r) (vb (zki cx f r) []) j ((zki cx f r).drop j) log none fr σ K
end
end Go.Vai
end

/-
  Calls of functions: the whole. To: Places in the code by name: behind some of a region's operations.
-/
import Derived.Test.YtmolcgfhgdhgoaaGreatDoorVaiPart5
import Derived.ProofKit
import Derived.OpenShut
import Derived.Deep.DeepHandedRow
import Derived.MakeChecks
set_option linter.all false
noncomputable section
namespace Go.Vai
section
variable {R:Type} {cx:Cx} {m nt:Nat} {w w₀:World} {σ σ' σ₀:St} {μ μ₀:Mu}
def ziy(tmps:Array Value):ResultVar→Sem Value
 | .tmp t=>pure (tmps.getD t undef)
 | .cell a t=>do loadVar t (←asAddr (tmps.getD a undef))
theorem RV.isPtr{v:Value}{x:V}{t:Nat}{K:V→List Nat→Option R}{r:R}(hv:RV w σ μ v x)(h:zcv cx σ t x K=some r):∃ a,v=.pointer (some a):=by
 unfold zcv at h;replace h:=(zd h).2;cases hv with
 | ptr id off b hc hb=>exact ⟨_,rfl⟩
 | eptr x b o off xs hc hh=>exact ⟨_,rfl⟩
 | gptr g off=>exact ⟨_,rfl⟩
 | wptr=>exact ⟨_,rfl⟩
 | _=>cases h
theorem zpb(hi:Inv cx w σ μ){fr:Fr}{tmps:Array Value}(hf:FR w σ μ tmps fr):∀ (l:List ResultVar) {K:List V→Option R} {r:R},resV cx fr σ l K=some r →
  ∃ vs,K vs=some r∧∃ us,(l.mapM (ziy tmps)).run cx.P w=.ok us w∧RVs w σ μ us vs
 | [],K,r,h=>⟨[],h,[],by simp,rfl,by simp⟩
 | .tmp t::l,K,r,h=>by
  simp only [resV] at h;obtain ⟨v,hv,h⟩:=zb h;obtain ⟨vs,hK,us,hr,h1,h2⟩:=zpb hi hf l h;refine ⟨v::vs,hK,tmps.getD t undef::us,?_,by simp [h1],λ i x y hx hy=>?_⟩
  ·rw [List.mapM_cons,Sem.run_bind];simp only [ziy,Sem.run_pure,Result.andThen_ok,Sem.run_bind,hr]
  ·cases i with
   | zero=>simp only [List.getElem?_cons_zero,Option.some.injEq] at hx hy; subst hx; subst hy; exact hf t v hv
   | succ i=>exact h2 i x y (by simpa using hx) (by simpa using hy)
 | .cell a t::l,K,r,h=>by
  simp only [resV] at h;obtain ⟨p,hp,h⟩:=zb h;have hpr:=hf a p hp;obtain ⟨ad,had⟩:=hpr.isPtr h;obtain ⟨v,fp,h,v',hrun,hv⟩:=zra hi hpr h;obtain ⟨vs,hK,us,hr,h1,h2⟩:=zpb hi hf l h;have hrun':(loadVar t ad).run cx.P w=.ok v' w:=by
   rw [had] at hrun;simpa [Instr.loadAt,Instr.sureAddr] using hrun
  refine ⟨v::vs,hK,v'::us,?_,by simp [h1],λ i x y hx hy=>?_⟩
  ·rw [List.mapM_cons,Sem.run_bind];simp only [ziy,Sem.run_bind,had,asAddr,Sem.run_pure,Result.andThen_ok,hrun',hr]
  ·cases i with
   | zero=>simp at hx hy; subst hx; subst hy; exact hv
   | succ i=>exact h2 i x y (by simpa using hx) (by simpa using hy)
def zg0:List Value→Value
 | [v]=>v
 | us=>.tuple us.toArray
theorem zjp{fn:Func}{tmps:Array Value}{P:Program}{us:List Value}(h:(fn.results.toList.mapM (ziy tmps)).run P w=.ok us w) :
  (results fn tmps).run P w=.ok (zg0 us) w:=by
 have e:results fn tmps=(fn.results.mapM (ziy tmps) >>= λ vs=>pure (if h:vs.size=1 then vs[0] else .tuple vs)):=by
  unfold results;congr 1
 have h':(fn.results.mapM (ziy tmps)).run P w=.ok us.toArray w:=by
  rw [Array.mapM_eq_mapM_toList,Sem.run_map,h]; rfl
 rw [e,Sem.run_bind,h',Result.andThen_ok]
 match us with
 | []=>simp [zg0]
 | [v]=>simp [zg0]
 | v::u::us=>simp [zg0]
theorem zjq{us:List Value}{vs:List V}(h:RVs w σ μ us vs):RV w σ μ (zg0 us) (zfk vs):=by
 have tup:RV w σ μ (.tuple us.toArray) (.tup vs):=.tup _ _ (by simpa using h.1) λ i x y hx hy=>h.2 i x y (by simpa using hx) hy
 match us,vs,h.1 with
 | [],[],_=>exact tup
 | [u],[v],_=>exact h.2 0 u v rfl rfl
 | _::_::_,_::_::_,_=>exact tup
theorem zdj:∀ (k:Nat) (l:List V) (t:Nat) (v:V),zf (vy k l) t=some v→∃ i,t=k+i∧l[i]?=some v
 | _,[],_,_,h=>by cases h
 | k,u::l,t,v,h=>by
  simp only [vy,zf] at h;cases hb:Nat.beq k t <;> rw [hb] at h
  ·obtain ⟨i,h1,h2⟩:=zdj (k+1) l t v h;exact ⟨i+1,by omega,by simpa using h2⟩
  ·obtain rfl:=po hb;cases h;exact ⟨0,rfl,rfl⟩
def Fin(cx:Cx)(w:World)(σ:St)(μ:Mu)(out:Out)(σ':St):Ending→World→Prop:=λ e w'=>
 ((∀ k o,zf σ' k=some o→k<σ.length∧∀ i∈o.ids,i<σ.length)∧(∀ i∈(match out with | .ret v=>v.ids | .pan v=>v.ids),i<σ.length)) ∧
 ∃ μ',After cx w σ μ w' σ' μ' ∧
  match out,e with
  | .ret v,.returned x=>RV w' σ' μ' x v
  | .pan v,.panicked chain=>∃ x,chain=[{ v:=x,recovered:=false }]∧RV w' σ' μ' x v
  | _,_=>False
theorem zll(hσ₀:∀ id o,zf σ id=some o→id<σ.length){w₁:World}{τ:St}{μ₁:Mu}(haf:After cx w σ μ w₁ τ μ₁){v u:V}{τ':St}(hu:v.leave σ.length τ=some u)(hτ:qf σ.length τ (List.range σ.length)=some τ') :
  (∀ k o,zf τ' k=some o→k<σ.length∧∀ i∈o.ids,i<σ.length)∧(∀ i∈u.ids,i<σ.length)∧After cx w σ μ w₁ τ' μ₁∧∀ x,RV w₁ τ μ₁ x v→RV w₁ τ' μ₁ x u:=by
 have hl:=Left.of hτ;refine ⟨λ k o ho=>?_,V.leave_ids _ _ _ _ hu,hl.after hσ₀ haf,λ x hx=>zlm hl haf.inv hx hu⟩;obtain ⟨p,_,hp,hlt⟩:=hl.back ho;exact ⟨hlt,zjs hp⟩
theorem zf9(hσ₀:∀ id o,zf σ id=some o→id<σ.length){w₁:World}{τ:St}{μ₁:Mu}{out:Out}{us:List Value}{vs:List V}(haf:After cx w σ μ w₁ τ μ₁)(hrvs:RVs w₁ τ μ₁ us vs)
  (h:zdp σ.length τ vs=some (out,σ')):Fin cx w σ μ out σ' (.returned (zg0 us)) w₁:=by
 unfold zdp at h;split at h
 ·rename_i u τ' hu hτ;cases h;obtain ⟨g1,g2,g3,g4⟩:=zll hσ₀ haf hu hτ;exact ⟨⟨g1,g2⟩,μ₁,g3,g4 _ (zjq hrvs)⟩
 ·cases h
theorem zpg{l:List V}:∀ i∈(zfk l).ids,i∈V.idsL l:=by
 intro i hi
 match l with
 | []=>exact hi
 | [v]=>simp only [zfk] at hi; simpa [V.idsL] using hi
 | v::u::l=>exact hi
theorem zx3(hσ₀:∀ id o,zf σ id=some o→id<σ.length){w₁:World}{τ:St}{μ₁:Mu}{out:Out}{us:List Value}{vs:List V}(haf:After cx w σ μ w₁ τ μ₁)(hrvs:RVs w₁ τ μ₁ us vs)
  (h:zpt σ.length τ vs=some (out,σ')):Fin cx w σ μ out σ' (.returned (zg0 us)) w₁:=by
 unfold zpt at h;split at h
 ·rename_i sz l g rest;split at h
  ·rename_i n hg hq;cases hc:(Nat.ble σ.length g&&Nat.blt 0 σ.length&&decide (n=l.length)&&Nat.blt 0 n) <;> rw [hc] at h
   ·exact zf9 hσ₀ haf hrvs h
   rw [p5] at h;simp only [pq,decide_eq_true_eq] at hc;obtain ⟨⟨⟨h1,h2⟩,h3⟩,h4⟩:=hc;have hgm : ¬ g<σ.length:=by have:σ.length≤g:=p4 h1; omega
   have hm:0<σ.length:=by simpa using h2
   have hn:0<n:=by simpa using h4
   split at h
   ·rename_i r s hr hs;cases h;have hl:=Left.of hs;have hl2:=Left2.of hl (show σ.length - 1<σ.length by omega) hgm hq hg hn (μ:=μ₁)
    obtain ⟨k1,k2⟩:=zaq hr;refine ⟨⟨λ k o ho=>?_,λ i hi=>?_⟩,_,hl2.after hσ₀ haf,?_⟩
    ·rw [zk] at ho;by_cases e:σ.length - 1=k
     ·rw [if_pos e] at ho; cases ho;exact ⟨by omega,by simp [Ob.ids]⟩
     ·rw [if_neg e] at ho;obtain ⟨p,_,hp,hlt⟩:=hl.back ho;exact ⟨hlt,zjs hp⟩
    ·have:=zpg i hi;simp only [V.idsL,V.ids,List.mem_append,List.mem_singleton] at this;rcases this with rfl | h
     ·omega
     ·exact V.leaveL_ids _ _ _ _ hr i h
    ·refine zjq ⟨?_,λ i x y hx hy=>?_⟩
     ·have:=hrvs.1;simp only [p7] at this ⊢;rw [k1]; exact this
     ·cases i with
      | zero=>
       have h0:=hrvs.2 0 x _ hx rfl;simp only [List.getElem?_cons_zero,Option.some.injEq] at hy;subst hy;cases h0 with
       | sl _ _ _ _ n' hd ht hn' he=>
        rw [hg] at ht; cases ht;refine .sl _ _ _ _ n (hd.stays hl2.stays) hl2.q1 hn' λ e=>?_;have:=he e;unfold tail at this ⊢;rw [hl2.mu];exact this
      | succ i=>
       simp only [List.getElem?_cons_succ] at hy;obtain ⟨z,hz⟩:=yo (l:=rest) (i:=i) (by rw [←k1]; exact (pr.1 hy).1)
       exact zi5 hl2 haf.inv (hrvs.2 (i+1) x z hx (by simpa using hz)) (k2 i z y hz hy)
   ·cases h
  ·exact zf9 hσ₀ haf hrvs h
 ·exact zf9 hσ₀ haf hrvs h
theorem zp0(hσ₀:∀ id o,zf σ id=some o→id<σ.length){w₁:World}{τ:St}{μ₁:Mu}{fn:Func}{f:Nat}{tmps:Array Value}{fr:Fr}{out:Out}(haf:After cx w σ μ w₁ τ μ₁)(hf:FR w₁ τ μ₁ tmps fr)
  (h:zg9 cx f σ.length fn.results.toList .ret fr τ=some (out,σ')):∃ v,(results fn tmps).run cx.P w₁=.ok v w₁∧Fin cx w σ μ out σ' (.returned v) w₁:=by
 simp only [zg9] at h;obtain ⟨vs,h,us,hr,hrvs⟩:=zpb haf.inv hf _ h;refine ⟨_,zjp hr,?_⟩;cases hg:cx.gives f <;> rw [hg] at h
 ·exact zf9 hσ₀ haf hrvs h
 ·exact zx3 hσ₀ haf hrvs h
theorem zp1(hσ₀:∀ id o,zf σ id=some o→id<σ.length){w₁:World}{τ:St}{μ₁:Mu}{fn:Func}{f:Nat}{a:Act}{fr:Fr}{out:Out}{e:Ex}{x:Exit}(hx:ze2 w₁ τ μ₁ e x)(hnow:Now cx nt [] w σ μ a w₁ τ μ₁ fr)
  (h:zg9 cx f σ.length fn.results.toList e fr τ=some (out,σ')):bodyPostD cx.P fn (Fin cx w σ μ out σ') x a w₁:=by
 cases e with
 | normal=>
  cases x <;> first | exact hx.elim | skip
  show Leaves _ _ _ _ a.defers _ _;rw [hnow.defers];exact zp0 (f:=f) hσ₀ hnow.after hnow.fr h
 | ret=>
  cases x <;> first | exact hx.elim | skip
  show Leaves _ _ _ _ a.defers _ _;rw [hnow.defers];exact zp0 (f:=f) hσ₀ hnow.after hnow.fr h
 | pan v=>
  cases x <;> first | exact hx.elim | skip
  show Leaves _ _ _ _ a.defers _ _;rw [hnow.defers];simp only [zg9] at h;split at h
  ·rename_i u τ' hu hτ;cases h;obtain ⟨g1,g2,g3,g4⟩:=zll hσ₀ hnow.after hu hτ;obtain ⟨y,hy,hr⟩:=hx;exact ⟨⟨g1,g2⟩,μ₁,g3,y,hy,g4 y hr⟩
  ·cases h
 | _=>cases h
theorem zuy{P:Program}{o:Oper}{a:Act}{next next':Act→World→Prop}{Q:Exit→Act→World→Prop}(h:∀ a w,next a w→next' a w){r:Result Next}(hr:o.upon P a next Q r):o.upon P a next' Q r:=by
 unfold Oper.upon at hr ⊢;split at hr
 ·exact h _ _ hr
 ·exact h _ _ hr
 ·exact h _ _ hr
 ·refine Calls.mono hr λ e w he=>?_;cases e with
  | returned v=>exact h _ _ he
  | panicked ch=>exact he
  | outgrown=>exact he
 ·exact Rows.mono hr λ v w he=>h _ _ he
 ·exact hr
 ·exact hr.elim
theorem zf6{P:Program}{ops:Array Oper}{Q:Exit→Act→List Frame→World→Prop}{cs:List Frame}(hout : ¬ LetsOut λ e a w=>Q e a cs w) :
  ∀ (l:List Nat) (a:Act) (w:World),wpOps P ops (λ e a w=>Q e a cs w) l a w→wpOpsS P ops Q l a cs w
 | [],a,w,h=>h
 | i::l,a,w,h=>by
  simp only [wpOps] at h;simp only [wpOpsS];cases ho:ops[i]? with
  | none=>
   simp only [ho] at h ⊢;exact zf6 hout l a w h
  | some o=>
   simp only [ho] at h ⊢;by_cases hw:Region.wanted o (yielded ops a.tmps)=true
   ·rw [if_pos hw] at h ⊢;rcases h with h | ⟨_,h⟩
    ·unfold Oper.wp at h;split
     ·rename_i w' hr;rw [hr] at h;exact h.elim
     ·exact zuy (λ a w h=>zf6 hout l a w h) h
    ·exact (hout h).elim
   ·rw [if_neg hw] at h ⊢;exact zf6 hout l _ w h
theorem zm9{o:Oper}{t:Nat}(h:zhw o=some t):∃ ty pos aft,o=⟨some t,.call ⟨.builtin .recover,#[],#[]⟩,ty,pos,aft,none⟩:=by
 obtain ⟨dst,op,ty,pos,aft,guard⟩:=o;unfold zhw at h;cases op <;> first | (cases h; done) | skip
 rename_i c;obtain ⟨callee,args,tys⟩:=c;cases callee <;> first | (cases h; done) | skip
 rename_i b;cases b <;> first | (cases h; done) | skip
 simp only at h;cases hc:(args.isEmpty&&tys.isEmpty&&guard.isNone) <;> rw [hc] at h
 ·cases h
 ·simp only [pq,Option.isNone_iff_eq_none] at hc;obtain ⟨⟨h1,h2⟩,h3⟩:=hc;have h1':args = #[]:=by simpa using h1
  have h2':tys = #[]:=by simpa using h2
  subst h1' h2' h3;have h':dst=some t:=h;subst h';exact ⟨_,_,_,rfl⟩
theorem zpc{o:Oper}{t:Nat}(h:zf8 o=some t):∃ ty pos aft,o=⟨none,.defer ⟨.value (.tmp t),#[],#[]⟩,ty,pos,aft,none⟩:=by
 obtain ⟨dst,op,ty,pos,aft,guard⟩:=o;unfold zf8 at h;cases op <;> first | (cases h; done) | skip
 rename_i c;obtain ⟨callee,args,tys⟩:=c;cases callee <;> first | (cases h; done) | skip
 rename_i x;cases x <;> first | (cases h; done) | skip
 rename_i t';simp only at h;cases hc:(args.isEmpty&&tys.isEmpty&&guard.isNone&&dst.isNone) <;> rw [hc] at h
 ·cases h
 ·simp only [pq,Option.isNone_iff_eq_none] at hc;obtain ⟨⟨⟨h1,h2⟩,h3⟩,h4⟩:=hc;have h1':args = #[]:=by simpa using h1
  have h2':tys = #[]:=by simpa using h2
  subst h1' h2' h3 h4;cases h;exact ⟨_,_,_,rfl⟩
def zko(w:World)(own:Own)(u:Option D)(m:FrameMode):Prop:=
 match u with
 | none=>m=.returning
 | some x=>∃ v,m=.panicking [{ v:=v,recovered:=false }]∧RD w own v x
theorem zx6{call:Nat→List V→St→Option (Out×St)}(hcall:vu cx call)(hn:y4 cx.P)(hmix:cx.P.follows .mixedOrders=true){n g:Nat}{args:List V}{u:Option D}{m:FrameMode}{vs:List Value}
  (h:za6 cx call n g args σ u=some σ') (hi:Inv cx w σ μ) (hcan:Canon σ) (hall:RVs w σ μ vs args) (hm:zko w (zp σ μ) u m) :
  (∃ fn,cx.P.funcs[g]?=some fn∧fn.body.isNone=false)∧(∀ k o,zf σ' k=some o→k<σ.length∧∀ i∈o.ids,i<σ.length) ∧
  CallsD cx.P g vs.toArray m w λ e m' w'=>(∃ v,e=.returned v)∧settle m'=.returning∧∃ μ',After cx w σ μ w' σ' μ':=by
 have hσ₀:∀ id o,zf σ id=some o→id<σ.length:=λ id o ho=>(hcan id o ho).1;unfold za6 at h;split at h
 ·cases h
 rename_i fn hfn;split at h
 case h_2=>cases h
 rename_i id ops c hb;split at h
 case h_2=>cases h
 rename_i o r hops;obtain ⟨t,hrc,h1⟩:=zb h;clear h;obtain ⟨hc,hev⟩:=zd h1;clear h1;obtain ⟨ty,pos,aft,rfl⟩:=zm9 hrc;rw [pq] at hc;have ht:t<fn.ntmps:=p4 hc.1;have hres:fn.results = #[]:=by simpa using hc.2
 let facts:Prop:=∀ k o,zf σ' k=some o→k<σ.length∧∀ i∈o.ids,i<σ.length
 have hrun:CallsD cx.P g vs.toArray m w λ e m' w'=>facts∧(∃ v,e=.returned v)∧settle m'=.returning∧∃ μ',After cx w σ μ w' σ' μ':=by
  refine callsD_of_wpS hfn hb λ c₀ cs hmode=>?_;have hsize:ops.size=r.length+1:=by rw [←Array.length_toList,hops]; rfl
  have ho:ops[0]?=some ⟨some t,.call ⟨.builtin .recover,#[],#[]⟩,ty,pos,aft,none⟩:=by
   rw [←Array.getElem?_toList,hops]; rfl
  refine wpS_seq (wpS_region ?_);rw [show List.range ops.size=0::(List.range ops.size).drop 1 by rw [hsize,List.range_succ_eq_map]; rfl]
  simp only [wpOpsS,ho];rw [if_pos (by simp [Region.wanted])]
  have hrec:(execOp ({ tmps:=vs.toArray++Array.replicate (fn.ntmps - vs.toArray.size) undef,defers:=[] }:Act).eval ⟨some t,.call ⟨.builtin .recover,#[],#[]⟩,ty,pos,aft,none⟩).run cx.P w=.ok .recover w:=by
   simp [execOp,resolve,invoke,builtin,Sem.run_bind]
  rw [hrec]
  -- behind the recovery
  have behind:∀ (m':FrameMode) (v:Value),settle m'=.returning→RV w σ μ v (.d (z00 u)) →
    wpOpsS cx.P ops (Exit.thenS (c.wpS cx.P (bodyPostS cx.P fn c₀ cs λ e m' w'=>facts∧(∃ v,e=.returned v)∧settle m'=.returning∧∃ μ',After cx w σ μ w' σ' μ'))
     (bodyPostS cx.P fn c₀ cs λ e m' w'=>facts∧(∃ v,e=.returned v)∧settle m'=.returning∧∃ μ',After cx w σ μ w' σ' μ')) ((List.range ops.size).drop 1)
     (({ tmps:=vs.toArray++Array.replicate (fn.ntmps - vs.toArray.size) undef,defers:=[] }:Act).put (some t) v) ({ c₀ with mode:=m' }::cs) w:=by
   intro m' v hset hv
   -- the end
   have fin:∀ (e:Ex) (fr:Fr) (τ:St),(match e with | .normal | .ret=>qf σ.length τ (List.range σ.length) | _=>none)=some σ'→∀ (x:Exit) (a:Act) (w₁:World) (μ₁:Mu),ze2 w₁ τ μ₁ e x →
     Now cx fn.ntmps [] w σ μ a w₁ τ μ₁ fr→bodyPostS cx.P fn c₀ cs (λ e m' w'=>facts∧(∃ v,e=.returned v)∧settle m'=.returning∧∃ μ',After cx w σ μ w' σ' μ') x a ({ c₀ with mode:=m' }::cs) w₁:=by
    intro e fr τ h x a w₁ μ₁ hx hnow
    have ret:qf σ.length τ (List.range σ.length)=some σ'→a.defers=[]∧∃ u',({ c₀ with mode:=m' }:Frame)::cs = { c₀ with mode:=u' }::cs∧∃ v,(results fn a.tmps).run cx.P w₁=.ok v w₁ ∧
      (facts∧(∃ q,Ending.returned v=.returned q)∧settle u'=.returning∧∃ μ',After cx w σ μ w₁ σ' μ'):=by
     intro h;obtain ⟨g1,_,g3,_⟩:=zll hσ₀ hnow.after (v:=.tup []) (u:=.tup []) (by rfl) h
     exact ⟨hnow.defers,m',rfl,_,zjp (us:=[]) (by rw [hres]; simp),g1,⟨_,rfl⟩,hset,μ₁,g3⟩
    cases e with
    | normal=>cases x <;> first | exact hx.elim | exact ret h
    | ret=>cases x <;> first | exact hx.elim | exact ret h
    | _=>cases h
   refine zf6 ?_ _ _ _ ?_
   ·rintro ⟨a',w',u',_,⟨q,hq⟩,_⟩;cases hq
   ·have key:=zeh (cx:=cx) (nt:=fn.ntmps) (ds:=[]) (w₀:=w) (σ₀:=σ) (μ₀:=μ) (m:=σ.length) hcall hn (arr:=ops) (tl:=[]) (r:=σ')
     (Q:=λ e a wq=>Exit.thenS (c.wpS cx.P (bodyPostS cx.P fn c₀ cs λ e m' w'=>facts∧(∃ v,e=.returned v)∧settle m'=.returning∧∃ μ',After cx w σ μ w' σ' μ'))
      (bodyPostS cx.P fn c₀ cs λ e m' w'=>facts∧(∃ v,e=.returned v)∧settle m'=.returning∧∃ μ',After cx w σ μ w' σ' μ') e a ({ c₀ with mode:=m' }::cs) wq)
     ?_ ?_ r 1 (by rw [hops]; simp) _ _ hev (({ tmps:=vs.toArray++Array.replicate (fn.ntmps - vs.toArray.size) undef,defers:=[] }:Act).put (some t) v) w μ ?_
    ·exact key
    ·intro fr τ h a w₁ μ₁ hnow i hi;have:ops.size≤i:=by have:=congrArg List.length hi; simp at this; omega
     rw [List.drop_eq_nil_of_le (by simpa using this)]
     show c.wpS _ _ _ _ _;exact wpS_of_wp (zjb (w₀:=w) (μ₀:=μ) hcall hn hmix hσ₀ c h (λ e fr τ hK x a w₂ μ₂ hx hnow=>fin e fr τ hK x a w₂ μ₂ hx hnow) hnow)
    ·intro v fr τ h; cases h
    ·refine ⟨After.refl hi,?_,?_,rfl⟩
     ·have base:FR w σ μ (vs.toArray++Array.replicate (fn.ntmps - vs.toArray.size) undef) (vy 0 args):=by
       intro s q hs;obtain ⟨i,rfl,hq⟩:=zdj 0 args s q hs;rw [Nat.zero_add];have hlt:i<vs.length:=by rw [hall.1]; exact (pr.1 hq).1
       have:(vs.toArray++Array.replicate (fn.ntmps - vs.toArray.size) undef).getD i undef=vs[i]:=by
        simp [Array.getD_eq_getD_getElem?,Array.getElem?_append,hlt]
       rw [this];exact hall.2 i _ q (by simp) hq
      exact FR.put (dst:=some t) (nt:=fn.ntmps) (a:={ tmps:=vs.toArray++Array.replicate (fn.ntmps - vs.toArray.size) undef,defers:=[] }) base hc.1 (by simp; omega) hv
     ·rw [va]; simp; omega
  cases u with
  | none=>
   have hmr:c₀.mode=.returning:=hmode.trans hm;simp only [recoverD,hmr];have:=behind .returning .nilIface rfl (.d _ _ .nilIface);rw [show ({ c₀ with mode:=.returning }:Frame)=c₀ by cases c₀; simp only at hmr; rw [hmr]] at this
   exact this
  | some x=>
   obtain ⟨v,hmv,hv⟩:=hm;have hmr:c₀.mode=.panicking [{ v:=v,recovered:=false }]:=hmode.trans hmv;simp only [recoverD,hmr];exact behind _ v (by simp [settle]) (.d _ _ hv)
 obtain ⟨e,u',w',fr,⟨hfacts,_⟩,_⟩:=hrun { (default:Frame) with mode:=m } [] rfl;exact ⟨⟨fn,hfn,by rw [hb]; rfl⟩,hfacts,hrun.mono λ e u' w' h=>h.2⟩
end
section
variable {R:Type} {cx:Cx} {m nt:Nat} {w w₀:World} {σ σ' σ₀:St} {μ μ₀:Mu}
theorem zyn{call:Nat→List V→St→Option (Out×St)}(hcall:vu cx call)(hn:y4 cx.P)(hmix:cx.P.follows .mixedOrders=true){n g:Nat}{cap:List V}{u:Option D}{um:FrameMode}{vs:List Value}
  {K:De→Option R} {r:R} (h:zfu cx (za6 cx call n) σ g cap u K=some r) (hi:Inv cx w σ μ) (hv:RVs w σ μ vs cap) (hm:zko w (zp σ μ) u um) :
  ∃ δ,K δ=some r∧(∃ fn,cx.P.funcs[g]?=some fn∧fn.body.isNone=false) ∧
   CallsD cx.P g vs.toArray um w λ e m' w'=>(∃ v,e=.returned v)∧settle m'=.returning∧∃ μ',After cx w σ μ w' (ze σ δ) μ':=by
 unfold zfu at h;simp only at h;generalize hren:w6 σ 1000 (V.idsL cap) []=ren at h;obtain ⟨hc,h⟩:=zd h;obtain ⟨hnd,hargs,hcl⟩:=zdl hc;obtain ⟨hlen,hinv,hcanon,hvs,hargs',hfull,hown⟩:=zuv hi hv hnd hargs hcl;split at h
 case h_2=>cases h
 rename_i σ' hrec;obtain ⟨hfn,hσ',hrun⟩:=zx6 hcall hn hmix hrec hinv hcanon hvs (by rw [hown]; exact hm)
 rw [hlen] at hσ';obtain ⟨δ,h1,h2,h3⟩:=zcj ren 0 h;refine ⟨δ,h1,hfn,hrun.mono λ e m' w' ⟨he,hs,μ1,haf⟩=>⟨he,hs,_,(zr5 hi hnd hcl h2 h3 hσ' haf).1⟩⟩
theorem zz4{call:Nat→List V→St→Option (Out×St)}(hcall:vu cx call)(hn:y4 cx.P)(hmix:cx.P.follows .mixedOrders=true)(hσ₀:∀ id o,zf σ id=some o→id<σ.length)
  {n g f:Nat} {cap:List V} {cs:Array Value} {fn:Func} {a:Act} {fr:Fr} {τ:St} {w₁:World} {μ₁:Mu} {out:Out} {e:Ex} {x:Exit} (hx:ze2 w₁ τ μ₁ e x)
  (haf:After cx w σ μ w₁ τ μ₁) (hf:FR w₁ τ μ₁ a.tmps fr) (hd:a.defers=[{ target:=.fn (.func g) cs,args:=#[] }]) (hcap:RVs w₁ τ μ₁ cs.toList cap)
  (h:zlz cx (za6 cx call n) f σ.length fn.results.toList g cap e fr τ=some (out,σ')):bodyPostD cx.P fn (Fin cx w σ μ out σ') x a w₁:=by
 have go:∀ (u:Option D) (um:FrameMode),um ≠ .run→zko w₁ (zp τ μ₁) u um→zfu cx (za6 cx call n) τ g cap u (λ δ=>zg9 cx f σ.length fn.results.toList .ret fr (ze τ δ))=some (out,σ') →
   Leaves cx.P fn a.tmps (Fin cx w σ μ out σ') a.defers um w₁:=by
  intro u um hum hu h;obtain ⟨δ,hK,⟨fn',hfn,hbody⟩,hcalls⟩:=zyn hcall hn hmix h haf.inv hcap hu;rw [hd];refine leaves_cons (f:=g) (args:=(#[]++cs)) hum ?_ ?_
  ·show (callFunc g (#[]++cs)).run cx.P w₁=_;exact zea hn hfn hbody
  ·rw [show (#[]++cs)=cs.toList.toArray by simp]
   refine hcalls.mono λ e m' w' ⟨⟨v,he⟩,hs,μ',haf'⟩=>?_;subst he;show Leaves _ _ _ _ [] (settle m') w';rw [hs];exact zp0 hσ₀ (haf.trans haf') (haf'.frs haf.inv hf) hK
 unfold zlz at h;split at h
 ·cases x <;> first | exact hx.elim | exact go none .returning (by simp) rfl h
 ·cases x <;> first | exact hx.elim | exact go none .returning (by simp) rfl h
 ·rename_i t y;cases x <;> first | exact hx.elim | skip
  rename_i chain;obtain ⟨v,rfl,hv⟩:=hx;cases hv with | d _ _ hv=>?_
  exact go (some (.iface t y)) (.panicking [{ v:=v,recovered:=false }]) (by simp) ⟨v,rfl,hv⟩ h
 ·cases h
theorem zqq:∀ (c:Code) {as:List Code} {id:Nat} {ops:Array Oper} {t:Nat} {b:Code},zd5 c=some (as,id,ops,t,b) →
  (∃ o,ops.toList.getLast?=some o∧zf8 o=some t)∧c=as.foldr Code.seq (.seq (.region id ops false) b):=by
 intro c
 induction c with
 | seq x y ihx ihy=>
  intro as id ops t b h
  have other:(match zd5 y with | some (l,q)=>some (x::l,q) | none=>none)=some (as,id,ops,t,b) →
    (∃ o,ops.toList.getLast?=some o∧zf8 o=some t)∧Code.seq x y=as.foldr Code.seq (.seq (.region id ops false) b):=by
   intro h;cases hs:zd5 y with
   | none=>rw [hs] at h; cases h
   | some p=>
    obtain ⟨l,id',ops',t',b'⟩:=p;rw [hs] at h;cases h;have ih:=ihy hs;exact ⟨ih.1,by rw [List.foldr_cons,←ih.2]⟩
  cases x with
  | region id' ops' draw=>
   cases draw with
   | true=>exact other h
   | false=>
    simp only [zd5] at h;cases hl:ops'.toList.getLast? with
    | none=>rw [hl] at h; exact other h
    | some o=>
     rw [hl] at h;simp only at h;cases hp:zf8 o with
     | none=>rw [hp] at h; exact other h
     | some t'=>rw [hp] at h; cases h; exact ⟨⟨o,hl,hp⟩,rfl⟩
  | _=>exact other h
 | _=>intro as id ops t b h; cases h
theorem zrt{call:Nat→List V→St→Option (Out×St)}(hcall:vu cx call)(hn:y4 cx.P)(hmix:cx.P.follows .mixedOrders=true)(hσ₀:∀ id o,zf σ₀ id=some o→id<m){f n:Nat}{ds:List Deferred}{tl:Code}
  {K:Ex→Fr→St→Option R} {r:R} {Q:Exit→Act→World→Prop}
  (hN:∀ fr σ,K .normal fr σ=some r→∀ a w μ,Now cx nt ds w₀ σ₀ μ₀ a w σ μ fr→tl.wp cx.P Q a w)
  (hQ:∀ e fr σ,e ≠ .normal→K e fr σ=some r→∀ x a w μ,ze2 w σ μ e x→Now cx nt ds w₀ σ₀ μ₀ a w σ μ fr→Q x a w) :
  ∀ (as:List Code) {fr:Fr} {σ:St},ze3 cx f m nt call n as fr σ K=some r→∀ {a w μ},Now cx nt ds w₀ σ₀ μ₀ a w σ μ fr→(as.foldr Code.seq tl).wp cx.P Q a w
 | [],fr,σ,h,a,w,μ,hnow=>hN _ _ h _ _ _ hnow
 | c::as,fr,σ,h,a,w,μ,hnow=>by
  simp only [ze3] at h;refine wp_seq (zjb hcall hn hmix hσ₀ c h (λ e fr σ hK x a w μ hx hnow=>?_) hnow);cases e with
  | normal=>cases x <;> first | exact zrt hcall hn hmix hσ₀ hN hQ as hK hnow | exact hx.elim
  | exit i=>cases x <;> first | exact hQ _ _ _ (by simp) hK _ _ _ μ hx hnow | exact hx.elim
  | goto l=>cases x <;> first | exact hQ _ _ _ (by simp) hK _ _ _ μ hx hnow | exact hx.elim
  | ret=>cases x <;> first | exact hQ _ _ _ (by simp) hK _ _ _ μ hx hnow | exact hx.elim
  | pan v=>cases x <;> first | exact hQ _ _ _ (by simp) hK _ _ _ μ hx hnow | exact hx.elim
theorem zx8{call:Nat→List V→St→Option (Out×St)}(hcall:vu cx call)(hn:y4 cx.P)(hmix:cx.P.follows .mixedOrders=true)(hσ₀:∀ id o,zf σ id=some o→id<σ.length)
  {n f:Nat} {fn:Func} {c:Code} {fr:Fr} {a:Act} {out:Out} (hnow:Now cx fn.ntmps [] w σ μ a w σ μ fr)
  (h:zfq cx f σ.length fn.ntmps fn.results.toList call n c fr σ=some (out,σ')):c.wp cx.P (bodyPostD cx.P fn (Fin cx w σ μ out σ')) a w:=by
 unfold zfq at h;split at h
 ·cases h
 rename_i as id ops t b hsp;obtain ⟨⟨o,hl,hp⟩,rfl⟩:=zqq c hsp;obtain ⟨ty,pos,aft,rfl⟩:=zpc hp;refine zrt hcall hn hmix hσ₀ (λ fr τ hK a w₁ μ₁ hnow=>?_) (λ e fr τ he hK x a w₁ μ₁ hx hnow=>?_) as h hnow
 ·simp only at hK;have hne:ops.toList ≠ []:=by intro e; rw [e] at hl; cases hl
  have hops:ops.toList=ops.toList.dropLast++[⟨none,.defer ⟨.value (.tmp t),#[],#[]⟩,ty,pos,aft,none⟩]:=by
   have h1:=List.dropLast_concat_getLast hne;rw [List.getLast?_eq_some_getLast hne] at hl;rw [Option.some.inj hl] at h1;exact h1.symm
  refine wp_seq (wp_region ?_)
  have key:=zeh (cx:=cx) (nt:=fn.ntmps) (ds:=[]) (w₀:=w) (σ₀:=σ) (μ₀:=μ) (m:=σ.length) hcall hn (arr:=ops) (tl:=[⟨none,.defer ⟨.value (.tmp t),#[],#[]⟩,ty,pos,aft,none⟩])
   (Q:=Exit.then (b.wp cx.P (bodyPostD cx.P fn (Fin cx w σ μ out σ'))) (bodyPostD cx.P fn (Fin cx w σ μ out σ'))) ?_ ?_ ops.toList.dropLast 0 (by rw [List.drop_zero]; exact hops) fr τ hK a w₁ μ₁ hnow
  ·simpa using key
  ·intro fr τ hK a w₁ μ₁ hnow i hi;simp only at hK;obtain ⟨fv,hfv,hK⟩:=zb hK;split at hK
   case h_2=>cases hK
   rename_i g cap;obtain ⟨htidy,hK⟩:=zd hK;have hsize:ops.size=i+1:=by have:=congrArg List.length hi; simp at this; omega
   have ho:ops[i]?=some ⟨none,.defer ⟨.value (.tmp t),#[],#[]⟩,ty,pos,aft,none⟩:=by
    have:=congrArg (·[0]?) hi;simpa using this
   rw [show (List.range ops.size).drop i=[i] by rw [hsize,List.drop_eq_getElem_cons (by simp)]; simp]
   simp only [wpOps,ho];rw [if_pos (by simp [Region.wanted])]
   left;have hr:=hnow.fr t _ hfv;generalize hq:a.tmps.getD t undef=q at hr;cases hr with | func _ cs _ hcl hch=>?_
   have hrun:(execOp a.eval ⟨none,.defer ⟨.value (.tmp t),#[],#[]⟩,ty,pos,aft,none⟩).run cx.P w₁=.ok (.defer { target:=.fn (.func g) cs,args:=#[] }) w₁:=by
    have he:a.eval (.tmp t)=.func (.func g) #[] cs:=by simpa [Act.eval] using hq
    simp only [execOp,resolve,he,Deferred.ofValue];simp [Sem.run_bind]
   unfold Oper.wp;rw [hrun,Oper.upon_defer];have hcap:RVs w₁ τ μ₁ cs.toList cap:=⟨by simpa using hcl,λ i x y hx hy=>hch i x y (by simpa using hx) hy⟩
   have hinv:=hnow.after.inv
   refine zlx (w₀:=w₁) (σ₀:=τ) (μ₀:=μ₁) (ds:=[{ target:=.fn (.func g) cs,args:=#[] }]) (nt:=fn.ntmps) hcall hn hmix b (λ ht=>by rw [ht] at htidy; cases htidy) hK (λ e fr τ' hK x a w₂ μ₂ hx hnow'=>?_) (μ:=μ₁)
    ⟨After.refl hinv,hnow.fr,hnow.size,by show _::a.defers=_; rw [hnow.defers]⟩
   exact zz4 hcall hn hmix hσ₀ hx (hnow.after.trans hnow'.after) hnow'.fr hnow'.defers (hcap.map λ v x _ hv=>hnow'.after.rv hinv hv) hK
  ·intro v fr τ hK x a w₁ μ₁ hx hnow;cases x <;> first | exact hx.elim | skip
   exact zp1 (e:=.pan v) hσ₀ hx hnow hK
 ·cases e with
  | normal=>exact absurd rfl he
  | _=>exact zp1 hσ₀ hx hnow hK
theorem zx7(hn:y4 cx.P)(hmix:cx.P.follows .mixedOrders=true)(hnat:vu cx cx.nat):∀ n,vu cx (xz cx n):=by
 intro n
 induction n with
 | zero=>exact ⟨hnat.1,λ f args σ out σ' h=>by cases h⟩
 | succ n ih=>
  refine ⟨hnat.1,?_⟩;intro f args σ out σ' h w μ vs hi hcan hids hall hvs;simp only [xz,qc] at h;split at h
  ·rename_i r hr;cases h;exact hnat.2 f args σ out σ' hr w μ vs hi hcan hids hall hvs
  split at h
  ·cases h
  rename_i fn hfn;split at h
  ·cases h
  rename_i c hc;have hσ₀:∀ id o,zf σ id=some o→id<σ.length:=λ id o ho=>(hcan id o ho).1;have hbody:fn.body.isNone=false:=by rw [hc]; rfl
  have hbegin:Now cx fn.ntmps [] w σ μ { tmps:=vs.toArray++Array.replicate (fn.ntmps - vs.toArray.size) undef,defers:=[] } w σ μ (vy 0 args):=by
   refine ⟨After.refl hi,?_,?_,rfl⟩
   ·intro t v ht;obtain ⟨i,rfl,hv⟩:=zdj 0 args t v ht;rw [Nat.zero_add];have hlt:i<vs.length:=by rw [hvs.1]; exact (pr.1 hv).1
    have:(vs.toArray++Array.replicate (fn.ntmps - vs.toArray.size) undef).getD i undef=vs[i]:=by
     simp [Array.getD_eq_getD_getElem?,Array.getElem?_append,hlt]
    rw [this];exact hvs.2 i _ v (by simp) hv
   ·simp; omega
  have hrun:Calls cx.P f vs.toArray w (Fin cx w σ μ out σ'):=by
   cases hd:cx.dfr f <;> rw [hd] at h
   ·exact calls_of_wp_defers hfn hc (zjb (w₀:=w) (μ₀:=μ) (nt:=fn.ntmps) ih hn hmix hσ₀ c h (λ e fr τ hK x a w₁ μ₁ hx hnow=>zp1 hσ₀ hx hnow hK) hbegin)
   ·exact calls_of_wp_defers hfn hc (zx8 ih hn hmix hσ₀ hbegin h)
  obtain ⟨e,w',fr,⟨hfacts,_⟩,_⟩:=hrun [];exact ⟨⟨fn,hfn,hbody⟩,hfacts.1,hfacts.2,hrun.mono λ e w' h=>by
   obtain ⟨μ',haf,hm⟩:=h.2;exact ⟨μ',haf,by cases out <;> cases e <;> exact hm⟩⟩
end
open Go.ChangeShapes Go.WideShapes Go.ChangeAt Go.RowKit
section
variable {H:Type}
def noOwn:Own:=λ _ _=>False
def zg2(P:Program):Nat→List Field→Nat→Bool
 | off,[],n=>Nat.beq off n
 | off,f::fs,n=>Nat.beq f.offset off&&zg2 P (off+P.cellsOf f.type) fs n
def zbw(r:TypeId→DataW H→Option (List D)):List Field→List (DataW H)→Option (List D)
 | [],[]=>some []
 | f::fs,p::ps=>(match r f.type p,zbw r fs ps with | some a,some b=>some (a++b) | _,_=>none)
 | _,_=>none
def zcs(r:DataW H→Option (List D)):List (DataW H)→Option (List D)
 | []=>some []
 | p::ps=>(match r p,zcs r ps with | some a,some b=>some (a++b) | _,_=>none)
def elemOf(agg:Bool)(cs:List D):D:=bif agg then .agg cs else cs.headD .nilIface
def zfh(agg:Bool)(r:DataW H→Option (List D)):List (DataW H)→Option (List D)
 | []=>some []
 | p::ps=>(match r p,zfh agg r ps with | some a,some b=>some (elemOf agg a::b) | _,_=>none)
def zbg(P:Program):Nat→TypeId→DataW H→Option (List D)
 | 0,_,_=>none
 | n+1,t,d=>
  match P.underlying t,d with
  | some .bool,.lit (.bool b)=>some [.bool b]
  | some (.int k),.lit (.int _ z)=>some [.int k z]
  | some .string,.lit (.string s)=>some [.str s]
  | some (.pointer _),.nil=>some [.nilptr]
  | some (.slice e),.nil=>some [.sl (P.cellsOf e) []]
  | some (.slice e),.slice els _=>bif Nat.beq (P.cellsOf e) 0 then none else (zfh (xv P e) (zbg P n e) els).map λ l=>[.sl (P.cellsOf e) l]
  | some (.struct fs),.agg ps=>bif zg2 P 0 fs.toList (P.cellsOf t) then zbw (zbg P n) fs.toList ps else none
  | some (.array m e),.agg ps=>bif Nat.beq ps.length m&&Nat.beq (m * P.cellsOf e) (P.cellsOf t) then zcs (zbg P n e) ps else none
  | _,_=>none
variable {enc:TypeId×Value→H} {P:Program} {w:World} {base:Nat} {spare:Nat→Bool} {held:Bool}
theorem RDs.append{own:Own}{vs ws:List Value}{l k:List D}(h:RDs w own vs l)(h':RDs w own ws k):RDs w own (vs++ws) (l++k):=by
 refine ⟨by simp [h.1,h'.1],λ i x y hx hy=>?_⟩
 by_cases hi:i<vs.length
 ·rw [List.getElem?_append_left hi] at hx;rw [List.getElem?_append_left (by rw [←h.1]; exact hi)] at hy
  exact h.2 i x y hx hy
 ·rw [List.getElem?_append_right (by omega)] at hx
  rw [List.getElem?_append_right (by rw [←h.1]; omega)] at hy
  rw [←h.1] at hy;exact h'.2 _ x y hx hy
theorem RDs.one{own:Own}{v:Value}{d:D}(h:RD w own v d):RDs w own [v] [d]:=⟨rfl,λ i x y hx hy=>by
 cases i with
 | zero=>simp at hx hy; subst hx; subst hy; exact h
 | succ i=>simp at hx⟩
theorem zva{n:Nat}{t:TypeId}{d:DataW H}{ds:List D}(ha:xv P t=false)(h:zbg P n t d=some ds):∃ y,ds=[y]∧y.cells=[y]:=by
 cases n with
 | zero=>cases h
 | succ n=>
  unfold xv at ha;simp only [zbg] at h;split at h <;> first | (cases h; exact ⟨_,rfl,rfl⟩) | skip
  ·cases hb:Nat.beq (P.cellsOf _) 0 <;> rw [hb] at h
   ·obtain ⟨l,_,rfl⟩:=Option.map_eq_some_iff.1 h;exact ⟨_,rfl,rfl⟩
   ·cases h
  ·rename_i hu; rw [hu] at ha; cases ha
  ·rename_i hu; rw [hu] at ha; cases ha
  ·cases h
theorem zfg{n:Nat}{m:Nat}{cs:List Value}(hp:∀ {t cs x ds},DataW.trod enc P w base spare held m t cs=some x→zbg P n t x.1=some ds→RDs w noOwn cs ds∧∀ c∈cs,c.oneCell'=true) :
  ∀ (fs:List Field) (xs:List (DataW H×List MemPlace)) (off:Nat) (ds:List D),xs.length=fs.length→off≤cs.length→zg2 P off fs cs.length=true →
   (∀ (i:Nat) f,fs[i]?=some f→DataW.trod enc P w base spare held m f.type ((cs.drop f.offset).take (P.cellsOf f.type))=xs[i]?) →
   zbw (zbg P n) fs (xs.map (·.1))=some ds→RDs w noOwn (cs.drop off) ds∧∀ c∈cs.drop off,c.oneCell'=true
 | [],xs,off,ds,hl,hle,ho,_,h=>by
  obtain rfl:=List.eq_nil_of_length_eq_zero hl;simp only [List.map_nil,zbw] at h;cases h;have:off=cs.length:=po ho;rw [List.drop_eq_nil_of_le (by omega)]
  exact ⟨⟨rfl,by simp⟩,by simp⟩
 | f::fs,xs,off,ds,hl,hle,ho,ht,h=>by
  match xs,hl with
  | x::xs,hl=>
   simp only [List.map_cons,zbw] at h;split at h
   ·rename_i a b h1 h2;cases h;simp only [zg2,pq] at ho;obtain ⟨ho1,ho2⟩:=ho;have ho1:=po ho1;have hx:=ht 0 f rfl;simp only [List.getElem?_cons_zero] at hx;rw [ho1] at hx;obtain ⟨g1,g2⟩:=hp hx h1;have hle2:off+P.cellsOf f.type≤cs.length:=by
     -- the offsets rise to the end
     have key:∀ (l:List Field) (o:Nat),zg2 P o l cs.length=true→o≤cs.length:=by
      intro l
      induction l with
      | nil=>intro o ho; exact Nat.le_of_eq (po ho)
      | cons f l ih=>
       intro o ho;simp only [zg2,pq] at ho;have:=ih _ ho.2;omega
     exact key fs _ ho2
    obtain ⟨k1,k2⟩:=zfg hp fs xs _ b (by simpa using hl) hle2 ho2 (λ i f' hf'=>by simpa using ht (i+1) f' (by simpa using hf')) h2
    have hsplit:cs.drop off=(cs.drop off).take (P.cellsOf f.type)++cs.drop (off+P.cellsOf f.type):=by
     rw [←List.drop_drop,List.take_append_drop]
    rw [hsplit];exact ⟨g1.append k1,λ c hc=>(List.mem_append.1 hc).elim (g2 c) (k2 c)⟩
   ·cases h
theorem zgo{n m:Nat}{e:TypeId}{cs:List Value}(hp:∀ {t cs x ds},DataW.trod enc P w base spare held m t cs=some x→zbg P n t x.1=some ds→RDs w noOwn cs ds∧∀ c∈cs,c.oneCell'=true) :
  ∀ (xs:List (DataW H×List MemPlace)) (k:Nat) (ds:List D),(k+xs.length) * P.cellsOf e=cs.length →
   (∀ (i:Nat),i<xs.length→DataW.trod enc P w base spare held m e ((cs.drop ((k+i) * P.cellsOf e)).take (P.cellsOf e))=xs[i]?) →
   zcs (zbg P n e) (xs.map (·.1))=some ds→RDs w noOwn (cs.drop (k * P.cellsOf e)) ds∧∀ c∈cs.drop (k * P.cellsOf e),c.oneCell'=true
 | [],k,ds,hl,_,h=>by
  simp only [List.map_nil,zcs] at h;cases h;rw [List.drop_eq_nil_of_le (by simp at hl; omega)]
  exact ⟨⟨rfl,by simp⟩,by simp⟩
 | x::xs,k,ds,hl,ht,h=>by
  simp only [List.map_cons,zcs] at h;split at h
  ·rename_i a b h1 h2;cases h;have hx:=ht 0 (by simp)
   simp only [List.getElem?_cons_zero,Nat.add_zero] at hx;obtain ⟨g1,g2⟩:=hp hx h1;obtain ⟨k1,k2⟩:=zgo hp xs (k+1) b (by rw [←hl]; congr 1; simp; omega) (λ i hi=>by
    have:=ht (i+1) (by simpa using hi)
    rw [show k+1+i=k+(i+1) by omega]
    simpa using this) h2
   have hsplit:cs.drop (k * P.cellsOf e)=(cs.drop (k * P.cellsOf e)).take (P.cellsOf e)++cs.drop ((k+1) * P.cellsOf e):=by
    rw [Nat.succ_mul,←List.drop_drop,List.take_append_drop]
   rw [hsplit];exact ⟨g1.append k1,λ c hc=>(List.mem_append.1 hc).elim (g2 c) (k2 c)⟩
  ·cases h
theorem zgp{agg:Bool}{r:DataW H→Option (List D)}:∀ {ps:List (DataW H)} {l:List D},zfh agg r ps=some l→l.length=ps.length∧∀ (i:Nat) p y,ps[i]?=some p→l[i]?=some y→∃ ds,r p=some ds∧y=elemOf agg ds
 | [],l,h=>by simp only [zfh] at h; cases h; simp
 | p::ps,l,h=>by
  simp only [zfh] at h;split at h
  ·rename_i a b h1 h2;cases h;obtain ⟨g1,g2⟩:=zgp h2;refine ⟨by simp [g1],λ i q y hq hy=>?_⟩
   cases i with
   | zero=>simp at hq hy; subst hq; subst hy; exact ⟨a,h1,rfl⟩
   | succ i=>exact g2 i q y (by simpa using hq) (by simpa using hy)
  ·cases h
theorem zy0:∀ (n m:Nat) (t:TypeId) (cs:List Value) (x:DataW H×List MemPlace) (ds:List D),DataW.trod enc P w base spare held m t cs=some x→zbg P n t x.1=some ds →
  RDs w noOwn cs ds∧∀ c∈cs,c.oneCell'=true:=by
 intro n
 induction n with
 | zero=>intro m t cs x ds _ h; cases h
 | succ n ih=>
  intro m t cs x ds hx h;obtain ⟨d,pl⟩:=x;simp only [zbg] at h;split at h
  ·rename_i b hu;obtain ⟨b',h1,h2⟩:=DataW.trod_bool hu hx;subst h1; cases h2; cases h;exact ⟨RDs.one (.bool _),by simp [Value.oneCell']⟩
  ·rename_i k k' z hu;obtain ⟨z',h1,h2,_⟩:=DataW.trod_int hu hx;subst h1; cases h2; cases h;exact ⟨RDs.one (.int _ _),by simp [Value.oneCell']⟩
  ·rename_i s hu;obtain ⟨s',h1,h2,_⟩:=DataW.trod_string hu hx;subst h1; cases h2; cases h;refine ⟨RDs.one ?_,by simp [Value.oneCell']⟩
   have:s'=y8 s'.data.toList:=by simp [y8]
   conv=>arg 3; rw [this]
   exact .str _
  ·rename_i e hu;rcases DataW.trod_pointer hu hx with ⟨h1,h2⟩ | ⟨a,cs',y,n',_,h1,h2,_⟩
   ·subst h1; cases h;exact ⟨RDs.one .nilptr,by simp [Value.oneCell']⟩
   ·cases h2
  ·rename_i e hu;rcases DataW.trod_slice hu hx with ⟨h1,h2⟩ | ⟨a,len,cap,elems,rest,n',_,h1,h2,_⟩
   ·subst h1; cases h;exact ⟨RDs.one (.sl0 none 0 _),by simp [Value.oneCell']⟩
   ·cases h2
  ·rename_i e els sp hu;cases hb:Nat.beq (P.cellsOf e) 0 <;> rw [hb] at h
   ·rw [p6] at h;obtain ⟨l,hl,rfl⟩:=Option.map_eq_some_iff.1 h;rcases DataW.trod_slice hu hx with ⟨h1,h2⟩ | ⟨a,len,cap,elems,rest,n',_,h1,h2,hba,hle,_,hlen,hel,_⟩
    ·cases h2
    ·subst h1;simp only [Prod.mk.injEq,DataW.slice.injEq] at h2;obtain ⟨⟨rfl,rfl⟩,_⟩:=h2;have hc0:P.cellsOf e ≠ 0:=λ e0=>by rw [e0] at hb; cases hb
     refine ⟨RDs.one ?_,by simp [Value.oneCell']⟩
     obtain ⟨hl1,hl2⟩:=zgp hl;simp only [pm,hlen] at hl1;by_cases h0:len=0
     ·subst h0;obtain rfl:=List.eq_nil_of_length_eq_zero hl1;exact .sl0 (some a) cap _
     ·have hpos:0<P.cellsOf e:=by omega
      have hcells:∀ i,i<len→∃ cs' y,w.cells? base (a.add (i * P.cellsOf e)) (P.cellsOf e)=some cs'∧DataW.trod enc P w base spare held n' e cs'=some y∧elems[i]?=some y:=by
       intro i hi;have h1:=hel i hi;obtain ⟨y,hy⟩:=yo (l:=elems) (i:=i) (by omega)
       rw [hy] at h1;obtain ⟨cs',h2,h3⟩:=Option.bind_eq_some_iff.1 h1;exact ⟨cs',y,h2,h3,hy⟩
      have hspot:a.spot=none:=by
       obtain ⟨cs',y,h1,_,_⟩:=hcells 0 (by omega)
       obtain ⟨_,h2,h3⟩:=World.cells?_some h1;have h4:=h3 0 hpos;obtain ⟨c,hc⟩:=yo (l:=cs') (i:=0) (by omega)
       rw [hc] at h4;have h5:=World.cell?_spot h4;simpa [Addr.add] using h5
      obtain ⟨b,o,spot⟩:=a;simp only at hspot;subst hspot;have hadd:∀ i,(⟨b,o,none⟩:Addr).add i=⟨b,o+i,none⟩:=λ i=>by
       unfold Addr.add;split
       ·rename_i h; subst h; rfl
       ·rfl
      have helem:∀ i y,l[i]?=some y→∃ cs' ds',i<len∧cs'.length=P.cellsOf e∧(∀ j,j<P.cellsOf e→w.cell? ⟨b,o+(i * P.cellsOf e+j),none⟩=cs'[j]?)∧RDs w noOwn cs' ds'∧(∀ c∈cs',c.oneCell'=true)∧y.cells=ds':=by
       intro i y hy;have hi:i<len:=by have:=(pr.1 hy).1; omega
       obtain ⟨cs',z,h1,h2,h3⟩:=hcells i hi;obtain ⟨ds',h4,h5⟩:=hl2 i z.1 y (by simp [h3]) hy
       obtain ⟨_,h6,h7⟩:=World.cells?_some h1;obtain ⟨h8,h9⟩:=ih n' e cs' z ds' h2 h4;refine ⟨cs',ds',hi,h6,λ j hj=>?_,h8,h9,?_⟩
       ·have:=h7 j hj;rw [hadd,show (⟨b,o+i * P.cellsOf e,none⟩:Addr).add j=⟨b,o+i * P.cellsOf e+j,none⟩ by
         unfold Addr.add;split
         ·rename_i h; subst h; rfl
         ·rfl] at this
        rw [←Nat.add_assoc];exact this
       ·rw [h5];cases ha:xv P e
        ·obtain ⟨y',h10,h11⟩:=zva ha h4;rw [h10];exact h11
        ·rfl
      refine .sl b o len cap (P.cellsOf e) l (λ k=>(w.cell? ⟨b,o+k,none⟩).getD undef) hl1.symm hle (λ y hy=>?_) (λ k hk=>?_) (λ i j y c hy hc=>?_)
      ·obtain ⟨i,hi⟩:=List.getElem?_of_mem hy;obtain ⟨cs',ds',_,h2,_,h4,_,h6⟩:=helem i y hi;rw [h6,←h4.1,h2]
      ·have hi:k / P.cellsOf e<len:=Nat.div_lt_of_lt_mul (by rw [Nat.mul_comm]; exact hk)
       obtain ⟨y,hy⟩:=yo (l:=l) (i:=k / P.cellsOf e) (by omega)
       obtain ⟨cs',ds',_,h2,h3,h4,h5,h6⟩:=helem _ y hy;have hj:k % P.cellsOf e<P.cellsOf e:=Nat.mod_lt _ hpos;have hk':k / P.cellsOf e * P.cellsOf e+k % P.cellsOf e=k:=by rw [Nat.mul_comm]; exact Nat.div_add_mod k _
       have h7:=h3 _ hj;rw [hk'] at h7;obtain ⟨c,hc⟩:=yo (l:=cs') (i:=k % P.cellsOf e) (by omega)
       rw [hc] at h7;refine ⟨by rw [h7]; rfl,λ h=>h,?_⟩
       rw [h7];exact h5 c (pz hc)
      ·obtain ⟨cs',ds',_,h2,h3,h4,h5,h6⟩:=helem i y hy;have hj:j<P.cellsOf e:=by
        have:=(pr.1 hc).1;rw [h6,←h4.1,h2] at this;exact this
       have h7:=h3 j hj;obtain ⟨c',hc'⟩:=yo (l:=cs') (i:=j) (by omega)
       rw [hc'] at h7;rw [h7];exact h4.2 j c' c hc' (h6 ▸ hc)
   ·cases h
  ·rename_i fs ps hu;cases hb:zg2 P 0 fs.toList (P.cellsOf t) <;> rw [hb] at h
   ·cases h
   ·rw [p5] at h;obtain ⟨xs,n',_,h2,hlen,hxs,hf⟩:=DataW.trod_struct hu hx;cases h2;have:=zfg (n:=n) (m:=n') (cs:=cs) (λ {t cs x ds} h1 h2=>ih n' t cs x ds h1 h2) fs.toList xs 0 ds (by simpa using hxs) (by simp) (by rw [hlen]; exact hb) (λ i f hfi=>hf i f (by simpa using hfi)) h
    simpa using this
  ·rename_i k e ps hu;cases hb:(Nat.beq ps.length k&&Nat.beq (k * P.cellsOf e) (P.cellsOf t)) <;> rw [hb] at h
   ·cases h
   ·rw [p5] at h;rw [pq] at hb;obtain ⟨xs,n',hcs,h2,hlen,hxs,hf⟩:=DataW.trod_array hu hx;cases h2
    have:=zgo (n:=n) (m:=n') (e:=e) (cs:=cs) (λ {t cs x ds} h1 h2=>ih n' t cs x ds h1 h2) xs 0 ds
     (by rw [Nat.zero_add,hlen,hxs]; exact po hb.2) (λ i hi=>by rw [Nat.zero_add]; exact hf i (hxs ▸ hi)) h
    simpa using this
  ·cases h
end
section
variable {cx:Cx} {W W':World}
def mu0:Mu:=⟨λ _=>{ blk:=none },noOwn⟩
theorem z2u:zp [] mu0=noOwn:=by
 funext b i;apply propext;constructor
 ·rintro (h | ⟨id,o,h,_⟩)
  ·exact h
  ·cases h
 ·exact λ h=>h.elim
def zrk(P:Program)(glob:Nat→Option D)(laid:List (String×DataW Unit)):Prop:=
 ∀ g x,glob g=some x→∃ n d,(n,d)∈laid∧P.globalNamed n=some g∧(((P.globals[g]?).map (·.type)).bind λ t=>zbg P 20 t d)=some x.cells
theorem zjt{P:Program}{w:World}:∀ {laid:List (String×DataW Unit)} {ps:List MemPlace},DataW.LaidVars P w laid ps→∀ n d,(n,d)∈laid→∀ g t ds,P.globalNamed n=some g→(P.globals[g]?).map (·.type)=some t →
  zbg P 20 t d=some ds→∃ cs:Array Value,(∀ i,w.cell? ⟨g,i,none⟩=cs[i]?)∧RDs w noOwn cs.toList ds∧∀ c∈cs.toList,c.oneCell'=true
 | [],ps,_,n,d,hm,_,_,_,_,_,_=>by cases hm
 | (n₀,d₀)::laid,ps,h,n,d,hm,g,t,ds,hg,ht,hp=>by
  obtain ⟨g',t',cs,fuel,p,q,h1,h2,h3,h4,h5,_⟩:=h;rcases List.mem_cons.1 hm with he | hm
  ·cases he;rw [hg] at h1; cases h1;rw [ht] at h2; cases h2;obtain ⟨k1,k2⟩:=zy0 20 _ _ _ _ _ h4 hp;exact ⟨cs,World.var?_cell hg h3,k1,k2⟩
  ·exact zjt h5 n d hm g t ds hg ht hp
theorem inv0{laid:List (String×DataW Unit)}(hplain:(laid.all λ x=>x.2.handleName?.isNone)=true)(hs:zrk cx.P cx.glob laid)(hL:laidMetH cx.P laid W):Inv cx W [] mu0:=by
 rw [MakeChecks.laidMetH_plain _ _ _ hplain] at hL;obtain ⟨ps,hv,_⟩:=hL;refine ⟨λ id o h=>(by cases h),λ id id' o o' b i h=>(by cases h),?_,λ id o b i h=>(by cases h),λ b i (h:False)=>h.elim,λ r es clock i _ (h:False)=>h.elim⟩
 intro g x hg;rw [z2u];obtain ⟨n,d,h1,h2,h34⟩:=hs g x hg;obtain ⟨t,h3,h4⟩:=Option.bind_eq_some_iff.1 h34;obtain ⟨cs,hc,hr,ho⟩:=zjt hv n d h1 g t _ h2 h3 h4;have hlen:cs.size=x.cells.length:=by simpa using hr.1
 refine ⟨λ j=>cs.getD j undef,λ j hj=>?_,λ j c hjc=>?_⟩
 ·have hlt:j<cs.size:=by omega
  have e:cs.getD j undef=cs[j]:=by simp [Array.getD_eq_getD_getElem?,hlt]
  rw [hc];simp only [e];exact ⟨by simp [hlt],λ h=>h,ho _ (by simp)⟩
 ·have hlt:j<cs.size:=by have:=(pr.1 hjc).1; omega
  have e:cs.getD j undef=cs[j]:=by simp [Array.getD_eq_getD_getElem?,hlt]
  simp only [e];exact hr.2 j _ c (by simp [hlt]) hjc
theorem kept_but(h:Kept W noOwn W'):W.keptBut W' (λ _=>False):=by
 refine ⟨h.os,h.output,λ i hi=>?_⟩;rw [h.blk i hi λ _ h=>h];cases hw:W.heap[i]? with
 | none=>rfl
 | some o=>cases o <;> first | exact ⟨rfl,rfl,rfl,λ _ _=>rfl⟩ | exact .inr ⟨rfl,rfl⟩ | rfl
theorem law_callsN{f n:Nat}{ds:List D}{args:List Value}{x:D}(hnat:vu cx cx.nat)(hn:y4 cx.P)(hmix:cx.P.follows .mixedOrders=true)(hi:Inv cx W [] mu0)(hargs:RDs W noOwn args ds)
  (h:xz cx n f (ds.map .d) []=some (.ret (.d x),[])):Calls cx.P f args.toArray W λ e W'=>∃ v,e=.returned v∧RD W' noOwn v x∧Kept W noOwn W':=by
 have hv:RVs W [] mu0 args (ds.map .d):=by
  refine ⟨by simpa using hargs.1,λ i v y hx hy=>?_⟩
  rw [List.getElem?_map,Option.map_eq_some_iff] at hy;obtain ⟨d,hd,rfl⟩:=hy;refine .d _ _ ?_;rw [z2u];exact hargs.2 i v d hx hd
 have hids:∀ i∈V.idsL (ds.map .d),i<([]:St).length:=by
  intro i hi;have:V.idsL (ds.map .d)=[]:=by
   clear h hv hargs hi
   induction ds with
   | nil=>rfl
   | cons d ds ih=>simp [V.idsL,V.ids,ih]
  rw [this] at hi; cases hi
 obtain ⟨_,_,_,hc⟩:=(zx7 hn hmix hnat n).2 f _ [] _ _ h W mu0 args hi (λ k o h=>(by cases h)) hids (λ k hk=>(by cases hk)) hv
 refine hc.mono λ e W' ⟨μ',haf,hm⟩=>?_;cases e with
 | returned v=>
  have hm:RV W' [] μ' v (.d x):=hm;have hfr:zp [] μ'=noOwn:=by
   funext b i;apply propext;constructor
   ·rintro (h | ⟨id,o,h,_⟩)
    ·rw [haf.fr] at h; exact h
    ·cases h
   ·exact λ h=>h.elim
  refine ⟨v,rfl,?_,?_⟩
  ·cases hm with | d _ _ hd=>rw [hfr] at hd; exact hd
  ·have hk:=haf.goes.kept;have hmine:Mine [] mu0=noOwn:=by
    funext b i;apply propext;constructor
    ·rintro ⟨id,o,h,_⟩; cases h
    ·exact λ h=>h.elim
   rw [hmine] at hk;exact hk
 | panicked chain=>exact hm.elim
 | outgrown=>exact hm.elim
end
section
variable {R:Type} {cx:Cx}
def knows(cx:Cx)(call call':yu):Prop:=∀ f args σ r,cx.dom f args=true→call f args σ=some r→call' f args σ=some r
theorem zet{call call':yu}(hk:knows cx call call'){σ:St}{t f:Nat}{args:List V}{xs:List Nat}{K:Oc→De→List Nat→Option R}{r:R}(h:vi cx call σ t f args xs K=some r):vi cx call' σ t f args xs K=some r:=by
 unfold vi at h ⊢;simp only at h ⊢;obtain ⟨hc,h⟩:=zd h;obtain ⟨hd,h⟩:=zd h;rw [hc,hd];simp only [zh,p5];cases hq:call f (V.renL (xe (w6 σ 1000 (V.idsL args++xs) [])) args) (xd σ (w6 σ 1000 (V.idsL args++xs) []) 0 (w6 σ 1000 (V.idsL args++xs) [])) with
 | none=>rw [hq] at h; cases h
 | some p=>rw [hq] at h; rw [hk _ _ _ _ hd hq]; exact h
theorem zoo{call call':yu}(hk:knows cx call call'){m nt:Nat}{o:Oper}{fr:Fr}{σ:St}{p:Tri}(h:q6 cx m nt call o fr σ=some p):q6 cx m nt call' o fr σ=some p:=by
 unfold q6 at h ⊢;obtain ⟨dst,op,type,pos,after,guard⟩:=o;cases op
 case makeFunc fn first caps=>cases fn <;> exact h
 case makeMap t r=>cases r <;> exact h
 case call c=>
  obtain ⟨callee,cargs,ctypes⟩:=c;cases callee with
  | value f=>
   simp only [xo] at h ⊢;obtain ⟨v,hv,h⟩:=zb h;simp only [hv,za];split at h
   ·obtain ⟨l,hl,h⟩:=zb h;simp only [hl];exact zet hk h
   ·cases hgr:(cx.grow _).isSome <;> rw [hgr] at h <;> simp only [p5,p6] at h ⊢
    rotate_left
    ·exact h
    cases hsm:(zfl cx.P _&&List.isEmpty _) <;> rw [hsm] at h <;> simp only [p5,p6] at h ⊢
    rotate_left
    ·obtain ⟨l,hl,h⟩:=zb h;simp only [hl];exact h
    cases hgv:cx.gives _ <;> rw [hgv] at h
    ·cases hnil:(cx.keep _&&zg6 cargs.toList) <;> rw [hnil] at h
     ·obtain ⟨l,hl,h⟩:=zb h;simp only [hl,p6];exact zet hk h
     ·obtain ⟨l,hl,h⟩:=zb h;obtain ⟨hc,h⟩:=zd h;simp only [hl,p5,p6,hc,zh];exact zet hk h
    ·obtain ⟨l,hl,h⟩:=zb h;obtain ⟨hc,h⟩:=zd h;simp only [hl,p5,hc,zh];exact zet hk h
   ·cases h
  | invoke r nm=>exact h
  | builtin b=>cases b <;> exact h
 all_goals exact h
theorem zjv{ops:List Oper}{o:Oper}{fr:Fr}{yes no yes' no':Fr→Option R}{r:R}(hy:∀ fr,yes fr=some r→yes' fr=some r)(hn:∀ fr,no fr=some r→no' fr=some r)
  (h:zak ops o fr yes no=some r):zak ops o fr yes' no'=some r:=by
 unfold zak at h ⊢;split at h
 ·exact hy _ h
 ·split at h
  ·exact hn _ h
  ·split at h
   ·have key:∀ (b want:Bool) (p q:Fr),(bif b then (bif want then yes p else no p) else (bif want then no q else yes q))=some r→(bif b then (bif want then yes' p else no' p) else (bif want then no' q else yes' q))=some r:=by
     intro b want p q h;cases b <;> cases want <;> first | exact hy _ h | exact hn _ h
    exact key _ _ _ _ h
   ·exact hn _ h
   ·cases h
theorem zam{call call':yu}(hk:knows cx call call'){m nt:Nat}{ops:List Oper}{K K':Ex→Fr→St→Option R}{r:R}(hK:∀ e fr σ,K e fr σ=some r→K' e fr σ=some r) :
  ∀ (l:List Oper) (fr:Fr) (σ:St),qz cx m nt call ops l fr σ K=some r→qz cx m nt call' ops l fr σ K'=some r
 | [],fr,σ,h=>hK _ _ _ h
 | o::l,fr,σ,h=>by
  unfold qz at h ⊢;obtain ⟨hd,h⟩:=zd h;rw [hd];simp only [zh,p5];refine zjv (λ fr h=>?_) (λ fr h=>zam hk hK l _ _ h) h;obtain ⟨p,hp,h⟩:=zb h;simp only [zoo hk hp,za];obtain ⟨oc,δ,fp⟩:=p;cases oc with
  | val v=>exact zam hk hK l _ _ h
  | pan v=>exact hK _ _ _ h
theorem zar{call call':yu}(hk:knows cx call call'){m nt:Nat}{ops:List Oper}{pre:List Nat}{K K':Ex→Fr→St→Option R}{r:R}(hK:∀ e fr σ,K e fr σ=some r→K' e fr σ=some r) :
  ∀ (l:List Oper) (i:Nat) (log:List Log) (dead:Option (Nat×V)) (fr:Fr) (σ:St),x4 cx m nt call ops pre i l log dead fr σ K=some r→x4 cx m nt call' ops pre i l log dead fr σ K'=some r
 | [],i,log,none,fr,σ,h=>by simp only [x4] at h ⊢; exact hK _ _ _ h
 | [],i,log,some (k,v),fr,σ,h=>by
  simp only [x4] at h ⊢;obtain ⟨hc,h⟩:=zd h;rw [hc];exact hK _ _ _ h
 | o::l,i,log,dead,fr,σ,h=>by
  simp only [x4] at h ⊢;cases hd:zic pre i dead
  ·rw [hd,p6] at h;rw [p6];obtain ⟨hc,h⟩:=zd h;rw [hc];simp only [zh,p5];refine zjv (λ fr h=>?_) (λ fr h=>zar hk hK l _ _ _ _ _ h) h;obtain ⟨p,hp,h⟩:=zb h;obtain ⟨hm,h⟩:=zd h;simp only [zoo hk hp,za];simp only [hm,p5];obtain ⟨oc,δ,fp⟩:=p;cases oc with
   | val v=>exact zar hk hK l _ _ _ _ _ h
   | pan v=>
    cases dead with
    | none=>exact zar hk hK l _ _ _ _ _ h
    | some q=>exact h
  ·rw [hd,p5] at h;rw [p5];exact zar hk hK l _ _ _ _ _ h
theorem zkz{nt:Nat}{σ:St}{fr:Fr}{q:Pend}{K K':Fr→St→Option R}{r:R}(hK:∀ fr σ,K fr σ=some r→K' fr σ=some r)(h:zc6 cx nt σ fr q K=some r):zc6 cx nt σ fr q K'=some r:=by
 unfold zc6 at h ⊢;obtain ⟨hc,h⟩:=zd h;rw [hc];simp only [zh,p5];split at h
 case h_2=>cases h
 obtain ⟨hc,h⟩:=zd h;simp only [hc,p5];obtain ⟨s,hs,h⟩:=zb h;obtain ⟨pl,hpl,h⟩:=zb h;obtain ⟨jv,hjv,h⟩:=zb h;obtain ⟨v,hv,h⟩:=zb h;obtain ⟨y,hy,h⟩:=zb h;simp only [hs,hpl,hjv,hv,hy,za];split at h
 case h_2=>cases h
 split at h
 case h_2=>cases h
 obtain ⟨hc,h⟩:=zd h;simp only [*,p5];obtain ⟨sz',ps,hd,h9⟩:=zeo h;obtain ⟨hc',h10⟩:=zd h9;unfold dataOf at hd ⊢;split at hd <;> first | (cases hd; done) | skip
 all_goals (cases hd; simp only [hc',p5]; exact hK _ _ h10)
theorem zru{nt:Nat}{ops:List Oper}{k:Nat}{fr:Fr}{σ:St}{K K':List Oper→Fr→St→Option R}{r:R}(hK:∀ l fr σ,K l fr σ=some r→K' l fr σ=some r)(h:zal cx nt ops k fr σ K=some r):zal cx nt ops k fr σ K'=some r:=by
 unfold zal at h ⊢;split at h
 case h_2=>cases h
 obtain ⟨q,hq,h⟩:=zb h;simp only [hq,za];exact zkz (λ fr σ h=>hK _ _ _ h) h
theorem zrs{nt:Nat}{ops:List Oper}{k:Nat}{fr:Fr}{σ:St}{K K':Fr→St→Option R}{r:R}(hK:∀ fr σ,K fr σ=some r→K' fr σ=some r)(h:zbm cx nt ops k fr σ K=some r):zbm cx nt ops k fr σ K'=some r:=by
 unfold zbm at h ⊢;split at h
 case h_2=>cases h
 obtain ⟨q,hq,h⟩:=zb h;simp only [hq,za];refine zkz (λ fr σ h=>?_) h;split at h
 case h_2=>cases h
 obtain ⟨hc,h⟩:=zd h;obtain ⟨pv,hpv,h⟩:=zb h;obtain ⟨v,hv,h⟩:=zb h;simp only [hc,hpv,hv,za,p5,zh];split at h
 case h_2=>cases h
 split at h
 case h_2=>cases h
 rename_i hido;obtain ⟨hc,h⟩:=zd h;simp only [hido,hc,p5];exact hK _ _ h
theorem zcd{m f key:Nat}{fr:Fr}{σ:St}{K K':Fr→St→Option R}{r:R}(hK:∀ fr σ,K fr σ=some r→K' fr σ=some r)(h:tidy cx m f key fr σ K=some r):tidy cx m f key fr σ K'=some r:=by
 unfold tidy at h ⊢;simp only at h ⊢;obtain ⟨hc,h⟩:=zd h;rw [hc];exact hK _ _ h
theorem zas{call call':yu}(hk:knows cx call call'){f m nt n n':Nat}(hn:n≤n'):∀ (c:Code) {K K':Ex→Fr→St→Option R} {r:R} {fr:Fr} {σ:St},
  (∀ e fr σ,K e fr σ=some r→K' e fr σ=some r)→yb cx f m nt call n c fr σ K=some r→yb cx f m nt call' n' c fr σ K'=some r:=by
 intro c
 induction c with
 | skip=>intro K K' r fr σ hK h; exact hK _ _ _ h
 | label l=>intro K K' r fr σ hK h; exact hK _ _ _ h
 | exit id=>intro K K' r fr σ hK h; exact hK _ _ _ h
 | goto l=>intro K K' r fr σ hK h; exact hK _ _ _ h
 | ret=>intro K K' r fr σ hK h; exact hK _ _ _ h
 | refuse why=>intro K K' r fr σ hK h; cases h
 | rangeFunc f params assign body _ _=>intro K K' r fr σ hK h; cases h
 | region id ops draw=>
  intro K K' r fr σ hK h;cases draw
  ·simp only [yb] at h ⊢;split at h
   ·exact zam hk hK _ _ _ h
   ·rename_i k hk';refine zam hk (λ e fr σ h=>?_) _ _ _ h;cases e with
    | normal=>exact zru (λ l fr σ h=>zam hk hK _ _ _ h) h
    | _=>exact hK _ _ _ h
  ·simp only [yb] at h ⊢;split at h
   ·obtain ⟨hc,h⟩:=zd h;rw [hc];exact zar hk hK _ _ _ _ _ _ h
   ·rename_i k hk';obtain ⟨hc1,h⟩:=zd h;obtain ⟨hc,h⟩:=zd h;rw [hc1,hc];refine zar hk (λ e fr σ h=>?_) _ _ _ _ _ _ h;cases e with
    | normal=>exact zrs (λ fr σ h=>hK _ _ _ h) h
    | _=>exact hK _ _ _ h
 | seq x y ihx ihy=>
  intro K K' r fr σ hK h;refine ihx (λ e fr σ h=>?_) h;cases e with
  | normal=>exact ihy hK h
  | _=>exact hK _ _ _ h
 | cond c x y ihx ihy=>
  intro K K' r fr σ hK h;simp only [yb] at h ⊢;obtain ⟨v,hv,h⟩:=zb h;obtain ⟨b,rfl,h⟩:=zih h;simp only [hv,za,asB];cases b
  ·exact ihy hK h
  ·exact ihx hK h
 | block id c ih=>
  intro K K' r fr σ hK h;refine ih (λ e fr σ h=>?_) h;cases e with
  | normal=>exact zcd (λ fr σ h=>hK _ _ _ h) h
  | exit i=>
   simp only at h ⊢;cases hb:Nat.beq i id <;> rw [hb] at h
   ·exact hK _ _ _ h
   ·exact zcd (λ fr σ h=>hK _ _ _ h) h
  | _=>exact hK _ _ _ h
 | loop c ih=>
  intro K K' r fr σ hK h;simp only [yb] at h ⊢;refine zcd (λ fr σ h=>?_) h
  have key:∀ (k k':Nat),k≤k'→∀ (fr:Fr) (σ:St),iter (yb cx f m nt call n c) (tidy cx m f (2 * yf c+1)) k fr σ K=some r →
    iter (yb cx f m nt call' n' c) (tidy cx m f (2 * yf c+1)) k' fr σ K'=some r:=by
   intro k
   induction k with
   | zero=>intro k' _ fr σ h; cases h
   | succ k ihk=>
    intro k' hle fr σ h;obtain ⟨k',rfl⟩:∃ j,k'=j+1:=⟨k' - 1,by omega⟩
    simp only [iter] at h ⊢;refine ih (λ e fr σ h=>?_) h;cases e with
    | normal=>exact zcd (λ fr σ h=>ihk k' (by omega) _ _ h) h
    | _=>exact hK _ _ _ h
  exact key n n' hn fr σ h
 | scope c ih=>
  intro K K' r fr σ hK h;refine ih (λ e fr σ h=>?_) h;cases e with
  | goto l=>cases h
  | _=>exact hK _ _ _ h
theorem zlw(n f:Nat)(args:List V)(σ:St):xz cx (n+1) f args σ=qc cx (xz cx n) n f args σ:=rfl
theorem zlu{call call':yu}(hk:knows cx call call'){f m nt n n':Nat}(hn:n≤n'):∀ (as:List Code) {K K':Ex→Fr→St→Option R} {r:R} {fr:Fr} {σ:St},
  (∀ e fr σ,K e fr σ=some r→K' e fr σ=some r)→ze3 cx f m nt call n as fr σ K=some r→ze3 cx f m nt call' n' as fr σ K'=some r
 | [],K,K',r,fr,σ,hK,h=>hK _ _ _ h
 | c::as,K,K',r,fr,σ,hK,h=>by
  simp only [ze3] at h ⊢;refine zas hk hn c (λ e fr σ h=>?_) h;cases e with
  | normal=>exact zlu hk hn as hK h
  | _=>exact hK _ _ _ h
theorem zte{call call':yu}(hk:knows cx call call'){n n':Nat}(hn:n≤n'){g:Nat}{args:List V}{σ σ':St}{u:Option D}(h:za6 cx call n g args σ u=some σ'):za6 cx call' n' g args σ u=some σ':=by
 unfold za6 at h ⊢;split at h
 ·cases h
 ·rename_i fn hfn;split at h
  ·rename_i id ops c hb;split at h
   ·rename_i o r hops;obtain ⟨t,ht,h⟩:=zb h;obtain ⟨hc,h⟩:=zd h;simp only [hops,ht,za,hc,zh,p5];rw [hops] at h;refine zam hk (λ e fr σ h=>?_) _ _ _ h;cases e with
    | normal=>exact zas hk hn c (λ _ _ _ h=>h) h
    | _=>cases h
   ·cases h
  ·cases h
theorem zhd{rec rec':Nat→List V→St→Option D→Option St}(hr:∀ g args σ u r,rec g args σ u=some r→rec' g args σ u=some r){σ:St}{g:Nat}{cap:List V}{u:Option D}{K:De→Option R}{r:R}
  (h:zfu cx rec σ g cap u K=some r):zfu cx rec' σ g cap u K=some r:=by
 unfold zfu at h ⊢;simp only at h ⊢;obtain ⟨hc,h⟩:=zd h;rw [hc];simp only [zh,p5];cases hq:rec g (V.renL (xe (w6 σ 1000 (V.idsL cap) [])) cap) (xd σ (w6 σ 1000 (V.idsL cap) []) 0 (w6 σ 1000 (V.idsL cap) [])) u with
 | none=>rw [hq] at h; cases h
 | some p=>rw [hq] at h; rw [hr _ _ _ _ _ hq]; exact h
theorem zv1{rec rec':Nat→List V→St→Option D→Option St}(hr:∀ g args σ u r,rec g args σ u=some r→rec' g args σ u=some r){f m:Nat}{res:List ResultVar}{g:Nat}{cap:List V}{e:Ex}{fr:Fr}{σ:St}{r:Out×St}
  (h:zlz cx rec f m res g cap e fr σ=some r):zlz cx rec' f m res g cap e fr σ=some r:=by
 unfold zlz at h ⊢;split at h
 ·exact zhd hr h
 ·exact zhd hr h
 ·exact zhd hr h
 ·cases h
theorem ztg{call call':yu}(hk:knows cx call call'){f m nt n n':Nat}(hn:n≤n'){res:List ResultVar}{c:Code}{fr:Fr}{σ:St}{r:Out×St}
  (h:zfq cx f m nt res call n c fr σ=some r):zfq cx f m nt res call' n' c fr σ=some r:=by
 unfold zfq at h ⊢;split at h
 ·cases h
 ·rename_i as id ops t b hsp;refine zlu hk hn as (λ e fr σ h=>?_) h;cases e with
  | normal=>
   refine zam hk (λ e fr σ h=>?_) _ _ _ h;cases e with
   | normal=>
    simp only at h ⊢;obtain ⟨fv,hfv,h⟩:=zb h;simp only [hfv,za];split at h
    ·obtain ⟨ht,h⟩:=zd h;simp only [ht,zh,p5];exact zas hk hn b (λ e fr σ h=>zv1 (λ _ _ _ _ _ h=>zte hk hn h) h) h
    ·cases h
   | _=>exact h
  | _=>exact h
theorem zfo{call call':yu}(hk:knows cx call call'){n n':Nat}(hn:n≤n'):∀ f args σ r,qc cx call n f args σ=some r→qc cx call' n' f args σ=some r:=by
 intro f args σ r h;unfold qc at h ⊢;split at h
 ·exact h
 split at h
 ·cases h
 ·rename_i fn hfn;split at h
  ·cases h
  ·rename_i c hc;cases hd:cx.dfr f <;> rw [hd] at h
   ·exact zas hk hn c (λ _ _ _ h=>h) h
   ·exact ztg hk hn h
theorem zei:∀ (n n':Nat),n≤n'→∀ f args σ r,xz cx n f args σ=some r→xz cx n' f args σ=some r
 | 0,_,_=>λ f args σ r h=>by cases h
 | n+1,0,h=>absurd h (by omega)
 | n+1,n'+1,h=>λ f args σ r hr=>by
  rw [zlw] at hr ⊢;exact zfo (λ f args σ r _ h=>zei n n' (by omega) f args σ r h) (by omega) f args σ r hr
end
section
variable {R:Type} {cx:Cx}
def zl(cx:Cx):yu:=λ f args σ=>
 open Classical in if h:∃ r n,xz cx n f args σ=some r then some h.choose else none
theorem lim_ex{f:Nat}{args:List V}{σ:St}{r:Out×St}(h:zl cx f args σ=some r):∃ n,xz cx n f args σ=some r:=by
 unfold zl at h;split at h
 ·rename_i hex;obtain ⟨n,hn⟩:=hex.choose_spec;cases h;exact ⟨n,hn⟩
 ·cases h
theorem zdf{f n:Nat}{args:List V}{σ:St}{r:Out×St}(h:xz cx n f args σ=some r):zl cx f args σ=some r:=by
 unfold zl;have hex:∃ r n,xz cx n f args σ=some r:=⟨r,n,h⟩;rw [dif_pos hex];obtain ⟨k,hk⟩:=hex.choose_spec;have h1:=zei n (max n k) (Nat.le_max_left _ _) f args σ _ h;have h2:=zei k (max n k) (Nat.le_max_right _ _) f args σ _ hk;rw [h1] at h2;exact h2.symm
def Ev(P:Nat→Prop):Prop:=∃ n₀,∀ n,n₀≤n→P n
theorem Ev.mono{P Q:Nat→Prop}(h:Ev P)(hpq:∀ n,P n→Q n):Ev Q:=let ⟨a,ha⟩:=h; ⟨a,λ n hn=>hpq n (ha n hn)⟩
theorem Ev.both{P Q:Nat→Prop}(h:Ev P)(h':Ev Q):Ev λ n=>P n∧Q n:=
 let ⟨a,ha⟩:=h; let ⟨b,hb⟩:=h'; ⟨max a b,λ n hn=>⟨ha n (by omega),hb n (by omega)⟩⟩
theorem z1g{f:Nat}{args:List V}{σ:St}{r:Out×St}(h:zl cx f args σ=some r):Ev λ n=>xz cx n f args σ=some r:=
 let ⟨k,hk⟩:=lim_ex h; ⟨k,λ n hn=>zei k n hn f args σ r hk⟩
theorem zgg{σ:St}{t f:Nat}{args:List V}{xs:List Nat}{K:Oc→De→List Nat→Option R}{r:R}(h:vi cx (zl cx) σ t f args xs K=some r):Ev λ n=>vi cx (xz cx n) σ t f args xs K=some r:=by
 unfold vi at h ⊢;simp only at h ⊢;obtain ⟨hc,h⟩:=zd h;obtain ⟨hd,h⟩:=zd h;rw [hc,hd];simp only [zh,p5];cases hq:zl cx f (V.renL (xe (w6 σ 1000 (V.idsL args++xs) [])) args) (xd σ (w6 σ 1000 (V.idsL args++xs) []) 0 (w6 σ 1000 (V.idsL args++xs) [])) with
 | none=>rw [hq] at h; cases h
 | some p=>
  rw [hq] at h;exact (z1g hq).mono λ n hn=>by rw [hn]; exact h
theorem Ev.all{P:Prop}(h:P):Ev λ _=>P:=⟨0,λ _ _=>h⟩
theorem zh6{m nt:Nat}{o:Oper}{fr:Fr}{σ:St}{p:Tri}(h:q6 cx m nt (zl cx) o fr σ=some p):Ev λ n=>q6 cx m nt (xz cx n) o fr σ=some p:=by
 unfold q6 at h ⊢;obtain ⟨dst,op,type,pos,after,guard⟩:=o;cases op
 case makeFunc fn first caps=>cases fn <;> exact .all h
 case makeMap t r=>cases r <;> exact .all h
 case call c=>
  obtain ⟨callee,cargs,ctypes⟩:=c;cases callee with
  | value f=>
   simp only [xo] at h ⊢;obtain ⟨v,hv,h⟩:=zb h;simp only [hv,za];split at h
   ·obtain ⟨l,hl,h⟩:=zb h;simp only [hl];exact zgg h
   ·cases hgr:(cx.grow _).isSome <;> rw [hgr] at h <;> simp only [p5,p6] at h ⊢
    rotate_left
    ·exact .all h
    cases hsm:(zfl cx.P _&&List.isEmpty _) <;> rw [hsm] at h <;> simp only [p5,p6] at h ⊢
    rotate_left
    ·obtain ⟨l,hl,h⟩:=zb h;simp only [hl];exact .all h
    cases hgv:cx.gives _ <;> rw [hgv] at h
    ·cases hnil:(cx.keep _&&zg6 cargs.toList) <;> rw [hnil] at h
     ·obtain ⟨l,hl,h⟩:=zb h;simp only [hl,p6];exact zgg h
     ·obtain ⟨l,hl,h⟩:=zb h;obtain ⟨hc,h⟩:=zd h;simp only [hl,p5,p6,hc,zh];exact zgg h
    ·obtain ⟨l,hl,h⟩:=zb h;obtain ⟨hc,h⟩:=zd h;simp only [hl,p5,hc,zh];exact zgg h
   ·cases h
  | invoke r nm=>exact .all h
  | builtin b=>cases b <;> exact .all h
 all_goals exact .all h
theorem zlr{ops : List Oper}{o : Oper}{fr : Fr}{yes no : Fr → Option R}{yes' no' : Nat → Fr → Option R}{r : R}(hy : ∀ fr, yes fr = some r → Ev λ n => yes' n fr = some r)
    (hn : ∀ fr, no fr = some r → Ev λ n => no' n fr = some r) (h : zak ops o fr yes no = some r) : Ev λ n => zak ops o fr (yes' n) (no' n) = some r := by
  unfold zak at h ⊢;split at h
  · exact hy _ h
  · split at h
    · exact hn _ h
    · split at h
      · have key : ∀ (b want : Bool) (p q : Fr), (bif b then (bif want then yes p else no p) else (bif want then no q else yes q)) = some r →
            Ev λ n => (bif b then (bif want then yes' n p else no' n p) else (bif want then no' n q else yes' n q)) = some r := by
          intro b want p q h;cases b <;> cases want <;> first | exact hy _ h | exact hn _ h
        exact key _ _ _ _ h
      · exact hn _ h
      · cases h
theorem zbn{m nt:Nat}{ops:List Oper}{K:Ex→Fr→St→Option R}{K':Nat→Ex→Fr→St→Option R}{r:R}(hK:∀ e fr σ,K e fr σ=some r→Ev λ n=>K' n e fr σ=some r) :
  ∀ (l:List Oper) (fr:Fr) (σ:St),qz cx m nt (zl cx) ops l fr σ K=some r→Ev λ n=>qz cx m nt (xz cx n) ops l fr σ (K' n)=some r
 | [],fr,σ,h=>hK _ _ _ h
 | o::l,fr,σ,h=>by
  unfold qz at h ⊢;obtain ⟨hd,h⟩:=zd h;rw [hd];simp only [zh,p5];refine zlr (λ fr h=>?_) (λ fr h=>zbn hK l _ _ h) h;obtain ⟨p,hp,h⟩:=zb h;obtain ⟨oc,δ,fp⟩:=p;cases oc with
  | val v=>exact ((zh6 hp).both (zbn hK l _ _ h)).mono λ n hn=>by simp only [hn.1,za]; exact hn.2
  | pan v=>exact ((zh6 hp).both (hK _ _ _ h)).mono λ n hn=>by simp only [hn.1,za]; exact hn.2
theorem zbo{m nt:Nat}{ops:List Oper}{pre:List Nat}{K:Ex→Fr→St→Option R}{K':Nat→Ex→Fr→St→Option R}{r:R}(hK:∀ e fr σ,K e fr σ=some r→Ev λ n=>K' n e fr σ=some r) :
  ∀ (l:List Oper) (i:Nat) (log:List Log) (dead:Option (Nat×V)) (fr:Fr) (σ:St),x4 cx m nt (zl cx) ops pre i l log dead fr σ K=some r→Ev λ n=>x4 cx m nt (xz cx n) ops pre i l log dead fr σ (K' n)=some r
 | [],i,log,none,fr,σ,h=>by simp only [x4] at h ⊢; exact hK _ _ _ h
 | [],i,log,some (k,v),fr,σ,h=>by
  simp only [x4] at h ⊢;obtain ⟨hc,h⟩:=zd h;rw [hc];exact hK _ _ _ h
 | o::l,i,log,dead,fr,σ,h=>by
  simp only [x4] at h ⊢;cases hd:zic pre i dead
  ·rw [hd,p6] at h;simp only [p6];obtain ⟨hc,h⟩:=zd h;rw [hc];simp only [zh,p5];refine zlr (λ fr h=>?_) (λ fr h=>zbo hK l _ _ _ _ _ h) h;obtain ⟨p,hp,h⟩:=zb h;obtain ⟨hm,h⟩:=zd h;obtain ⟨oc,δ,fp⟩:=p;cases oc with
   | val v=>exact ((zh6 hp).both (zbo hK l _ _ _ _ _ h)).mono λ n hn=>by simp only [hn.1,za,hm,p5]; exact hn.2
   | pan v=>
    cases dead with
    | none=>exact ((zh6 hp).both (zbo hK l _ _ _ _ _ h)).mono λ n hn=>by simp only [hn.1,za,hm,p5]; exact hn.2
    | some q=>cases h
  ·rw [hd,p5] at h;simp only [p5];exact zbo hK l _ _ _ _ _ h
theorem znr{nt:Nat}{σ:St}{fr:Fr}{q:Pend}{K:Fr→St→Option R}{K':Nat→Fr→St→Option R}{r:R}(hK:∀ fr σ,K fr σ=some r→Ev λ n=>K' n fr σ=some r)(h:zc6 cx nt σ fr q K=some r) :
  Ev λ n=>zc6 cx nt σ fr q (K' n)=some r:=by
 have key:∃ fr' σ',K fr' σ'=some r∧∀ K'':Fr→St→Option R,K'' fr' σ'=some r→zc6 cx nt σ fr q K''=some r:=by
  unfold zc6 at h ⊢;obtain ⟨hc,h⟩:=zd h;rw [hc];simp only [zh,p5];split at h
  case h_2=>cases h
  obtain ⟨hc,h⟩:=zd h;simp only [hc,p5];obtain ⟨s,hs,h⟩:=zb h;obtain ⟨pl,hpl,h⟩:=zb h;obtain ⟨jv,hjv,h⟩:=zb h;obtain ⟨v,hv,h⟩:=zb h;obtain ⟨y,hy,h⟩:=zb h;simp only [hs,hpl,hjv,hv,hy,za];split at h
  case h_2=>cases h
  split at h
  case h_2=>cases h
  obtain ⟨hc,h⟩:=zd h;simp only [*,p5];obtain ⟨sz',ps,hd,h9⟩:=zeo h;obtain ⟨hc',h10⟩:=zd h9;refine ⟨_,_,h10,λ K'' hK''=>?_⟩;unfold dataOf at hd ⊢;split at hd <;> first | (cases hd; done) | skip
  all_goals (cases hd; simp only [hc',p5]; exact hK'')
 obtain ⟨fr',σ',h1,h2⟩:=key;exact (hK _ _ h1).mono λ n hn=>h2 _ hn
theorem ztf{nt:Nat}{ops:List Oper}{k:Nat}{fr:Fr}{σ:St}{K:List Oper→Fr→St→Option R}{K':Nat→List Oper→Fr→St→Option R}{r:R}(hK:∀ l fr σ,K l fr σ=some r→Ev λ n=>K' n l fr σ=some r)
  (h:zal cx nt ops k fr σ K=some r):Ev λ n=>zal cx nt ops k fr σ (K' n)=some r:=by
 unfold zal at h ⊢;split at h
 case h_2=>cases h
 obtain ⟨q,hq,h⟩:=zb h;simp only [hq,za];exact znr (λ fr σ h=>hK _ _ _ h) h
theorem ztd{nt:Nat}{ops:List Oper}{k:Nat}{fr:Fr}{σ:St}{K:Fr→St→Option R}{K':Nat→Fr→St→Option R}{r:R}(hK:∀ fr σ,K fr σ=some r→Ev λ n=>K' n fr σ=some r)(h:zbm cx nt ops k fr σ K=some r):Ev λ n=>zbm cx nt ops k fr σ (K' n)=some r:=by
 unfold zbm at h ⊢;split at h
 case h_2=>cases h
 obtain ⟨q,hq,h⟩:=zb h;simp only [hq,za];refine znr (λ fr σ h=>?_) h;split at h
 case h_2=>cases h
 obtain ⟨hc,h⟩:=zd h;obtain ⟨pv,hpv,h⟩:=zb h;obtain ⟨v,hv,h⟩:=zb h;simp only [hc,hpv,hv,za,p5,zh];split at h
 case h_2=>cases h
 split at h
 case h_2=>cases h
 rename_i hido;obtain ⟨hc,h⟩:=zd h;simp only [hido,hc,p5];exact hK _ _ h
theorem zho{m f key:Nat}{fr:Fr}{σ:St}{K:Fr→St→Option R}{K':Nat→Fr→St→Option R}{r:R}(hK:∀ fr σ,K fr σ=some r→Ev λ n=>K' n fr σ=some r)(h:tidy cx m f key fr σ K=some r) :
  Ev λ n=>tidy cx m f key fr σ (K' n)=some r:=by
 unfold tidy at h ⊢;simp only at h ⊢;obtain ⟨hc,h⟩:=zd h;rw [hc];exact hK _ _ h
theorem zej{f m nt N:Nat}:∀ (c:Code) {K:Ex→Fr→St→Option R} {K':Nat→Ex→Fr→St→Option R} {r:R} {fr:Fr} {σ:St},
  (∀ e fr σ,K e fr σ=some r→Ev λ n=>K' n e fr σ=some r)→yb cx f m nt (zl cx) N c fr σ K=some r→Ev λ n=>yb cx f m nt (xz cx n) n c fr σ (K' n)=some r:=by
 intro c
 induction c with
 | skip=>intro K K' r fr σ hK h; exact hK _ _ _ h
 | label l=>intro K K' r fr σ hK h; exact hK _ _ _ h
 | exit id=>intro K K' r fr σ hK h; exact hK _ _ _ h
 | goto l=>intro K K' r fr σ hK h; exact hK _ _ _ h
 | ret=>intro K K' r fr σ hK h; exact hK _ _ _ h
 | refuse why=>intro K K' r fr σ hK h; cases h
 | rangeFunc f params assign body _ _=>intro K K' r fr σ hK h; cases h
 | region id ops draw=>
  intro K K' r fr σ hK h;cases draw
  ·simp only [yb] at h ⊢;generalize cx.pend f id=pk at h ⊢;cases pk with
   | none=>exact zbn hK _ _ _ h
   | some k=>
    refine zbn (K':=λ n e fr σ=>_) (λ e fr σ h=>?_) _ _ _ h;cases e with
    | normal=>exact ztf (λ l fr σ h=>zbn hK _ _ _ h) h
    | _=>exact hK _ _ _ h
  ·simp only [yb] at h ⊢;generalize cx.pend f id=pk at h ⊢;cases pk with
   | none=>
    obtain ⟨hc,h⟩:=zd h;rw [hc];exact zbo hK _ _ _ _ _ _ h
   | some k=>
    simp only at h ⊢;obtain ⟨hc1,h⟩:=zd h;obtain ⟨hc,h⟩:=zd h;rw [hc1,hc];refine zbo (K':=λ n e fr σ=>_) (λ e fr σ h=>?_) _ _ _ _ _ _ h;cases e with
    | normal=>exact ztd (λ fr σ h=>hK _ _ _ h) h
    | _=>exact hK _ _ _ h
 | seq x y ihx ihy=>
  intro K K' r fr σ hK h;refine ihx (λ e fr σ h=>?_) h;cases e with
  | normal=>exact ihy hK h
  | _=>exact hK _ _ _ h
 | cond c x y ihx ihy=>
  intro K K' r fr σ hK h;simp only [yb] at h ⊢;obtain ⟨v,hv,h⟩:=zb h;obtain ⟨b,rfl,h⟩:=zih h;simp only [hv,za,asB];cases b
  ·exact ihy hK h
  ·exact ihx hK h
 | block id c ih=>
  intro K K' r fr σ hK h;refine ih (λ e fr σ h=>?_) h;cases e with
  | normal=>exact zho (λ fr σ h=>hK _ _ _ h) h
  | exit i=>
   simp only at h ⊢;cases hb:Nat.beq i id <;> rw [hb] at h
   ·exact hK _ _ _ h
   ·exact zho (λ fr σ h=>hK _ _ _ h) h
  | _=>exact hK _ _ _ h
 | loop c ih=>
  intro K K' r fr σ hK h;simp only [yb] at h ⊢;refine zho (λ fr σ h=>?_) h
  have key:∀ (k:Nat),∀ (fr:Fr) (σ:St),iter (yb cx f m nt (zl cx) N c) (tidy cx m f (2 * yf c+1)) k fr σ K=some r →
    Ev λ n=>∀ k',k≤k'→iter (yb cx f m nt (xz cx n) n c) (tidy cx m f (2 * yf c+1)) k' fr σ (K' n)=some r:=by
   intro k
   induction k with
   | zero=>intro fr σ h; cases h
   | succ k ihk=>
    intro fr σ h;simp only [iter] at h;have h1:Ev λ n=>∀ k',k≤k'→iter (yb cx f m nt (xz cx n) n c) (tidy cx m f (2 * yf c+1)) (k'+1) fr σ (K' n)=some r:=by
     -- one number of rounds for all
     have:=ih (K:=λ e fr σ=>match e with
      | .normal=>tidy cx m f (2 * yf c+1) fr σ λ fr σ=>iter (yb cx f m nt (zl cx) N c) (tidy cx m f (2 * yf c+1)) k fr σ K
      | e=>K e fr σ)
      (K':=λ n e fr σ=>match e with
      | .normal=>tidy cx m f (2 * yf c+1) fr σ λ fr σ=>iter (yb cx f m nt (xz cx n) n c) (tidy cx m f (2 * yf c+1)) k fr σ (K' n)
      | e=>K' n e fr σ) (r:=r) (fr:=fr) (σ:=σ) (λ e fr σ h=>by
       cases e with
       | normal=>exact zho (λ fr σ h=>(ihk fr σ h).mono λ n hn=>hn k (Nat.le_refl k)) h
       | _=>exact hK _ _ _ h) h
     refine this.mono λ n hn k' hk'=>?_;simp only [iter]
     have hmono:∀ (k k':Nat),k≤k'→∀ (fr:Fr) (σ:St),iter (yb cx f m nt (xz cx n) n c) (tidy cx m f (2 * yf c+1)) k fr σ (K' n)=some r →
       iter (yb cx f m nt (xz cx n) n c) (tidy cx m f (2 * yf c+1)) k' fr σ (K' n)=some r:=by
      intro k
      induction k with
      | zero=>intro k' _ fr σ h; cases h
      | succ k ihk=>
       intro k' hle fr σ h;obtain ⟨k',rfl⟩:∃ j,k'=j+1:=⟨k' - 1,by omega⟩
       simp only [iter] at h ⊢;refine zas (λ _ _ _ _ _ h=>h) (Nat.le_refl _) c (λ e fr σ h=>?_) h;cases e with
       | normal=>exact zcd (λ fr σ h=>ihk k' (by omega) _ _ h) h
       | _=>exact h
     refine zas (λ _ _ _ _ _ h=>h) (Nat.le_refl _) c (λ e fr σ h=>?_) hn;cases e with
     | normal=>exact zcd (λ fr σ h=>hmono k k' hk' _ _ h) h
     | _=>exact h
    refine h1.mono λ n hn k' hk'=>?_;obtain ⟨k',rfl⟩:∃ j,k'=j+1:=⟨k' - 1,by omega⟩
    exact hn k' (by omega)
  obtain ⟨a,ha⟩:=key N fr σ h;exact ⟨max a N,λ n hn=>ha n (by omega) n (by omega)⟩
 | scope c ih=>
  intro K K' r fr σ hK h;refine ih (λ e fr σ h=>?_) h;cases e with
  | goto l=>cases h
  | _=>exact hK _ _ _ h
theorem zon{f m nt N:Nat}:∀ (as:List Code) {K:Ex→Fr→St→Option R} {K':Nat→Ex→Fr→St→Option R} {r:R} {fr:Fr} {σ:St},
  (∀ e fr σ,K e fr σ=some r→Ev λ n=>K' n e fr σ=some r)→ze3 cx f m nt (zl cx) N as fr σ K=some r→Ev λ n=>ze3 cx f m nt (xz cx n) n as fr σ (K' n)=some r
 | [],K,K',r,fr,σ,hK,h=>hK _ _ _ h
 | c::as,K,K',r,fr,σ,hK,h=>by
  simp only [ze3] at h ⊢;refine zej c (λ e fr σ h=>?_) h;cases e with
  | normal=>exact zon as hK h
  | _=>exact hK _ _ _ h
theorem zvu{N g:Nat}{args:List V}{σ σ':St}{u:Option D}(h:za6 cx (zl cx) N g args σ u=some σ'):Ev λ n=>za6 cx (xz cx n) n g args σ u=some σ':=by
 unfold za6 at h ⊢;split at h
 ·cases h
 ·rename_i fn hfn;split at h
  ·rename_i id ops c hb;split at h
   ·rename_i o r hops;obtain ⟨t,ht,h⟩:=zb h;obtain ⟨hc,h⟩:=zd h;simp only [hops,ht,za,hc,zh,p5];rw [hops] at h;refine zbn (λ e fr σ h=>?_) _ _ _ h;cases e with
    | normal=>exact zej c (λ _ _ _ h=>.all h) h
    | _=>cases h
   ·cases h
  ·cases h
theorem zjf{N:Nat}{σ:St}{g:Nat}{cap:List V}{u:Option D}{K:De→Option R}{r:R}
  (h:zfu cx (za6 cx (zl cx) N) σ g cap u K=some r):Ev λ n=>zfu cx (za6 cx (xz cx n) n) σ g cap u K=some r:=by
 unfold zfu at h ⊢;simp only at h ⊢;obtain ⟨hc,h⟩:=zd h;rw [hc];simp only [zh,p5];cases hq:za6 cx (zl cx) N g (V.renL (xe (w6 σ 1000 (V.idsL cap) [])) cap) (xd σ (w6 σ 1000 (V.idsL cap) []) 0 (w6 σ 1000 (V.idsL cap) [])) u with
 | none=>rw [hq] at h; cases h
 | some p=>rw [hq] at h; exact (zvu hq).mono λ n hn=>by rw [hn]; exact h
theorem zya{N f m:Nat}{res:List ResultVar}{g:Nat}{cap:List V}{e:Ex}{fr:Fr}{σ:St}{r:Out×St}
  (h:zlz cx (za6 cx (zl cx) N) f m res g cap e fr σ=some r):Ev λ n=>zlz cx (za6 cx (xz cx n) n) f m res g cap e fr σ=some r:=by
 unfold zlz at h ⊢;split at h
 ·exact zjf h
 ·exact zjf h
 ·exact zjf h
 ·cases h
theorem zvz{f m nt N:Nat}{res:List ResultVar}{c:Code}{fr:Fr}{σ:St}{r:Out×St}
  (h:zfq cx f m nt res (zl cx) N c fr σ=some r):Ev λ n=>zfq cx f m nt res (xz cx n) n c fr σ=some r:=by
 unfold zfq at h ⊢;split at h
 ·cases h
 ·rename_i as id ops t b hsp;refine zon as (K':=λ n e fr σ=>_) (λ e fr σ h=>?_) h;cases e with
  | normal=>
   refine zbn (K':=λ n e fr σ=>_) (λ e fr σ h=>?_) _ _ _ h;cases e with
   | normal=>
    simp only at h ⊢;obtain ⟨fv,hfv,h⟩:=zb h;simp only [hfv,za];split at h
    ·obtain ⟨ht,h⟩:=zd h;simp only [ht,zh,p5];exact zej b (λ e fr σ h=>zya h) h
    ·cases h
   | _=>exact .all h
  | _=>exact .all h
theorem zrb{N f:Nat}{args:List V}{σ:St}{r:Out×St}(h:qc cx (zl cx) N f args σ=some r):zl cx f args σ=some r:=by
 have:Ev λ n=>qc cx (xz cx n) n f args σ=some r:=by
  unfold qc at h ⊢;split at h
  ·exact .all h
  split at h
  ·cases h
  ·rename_i fn hfn;split at h
   ·cases h
   ·rename_i c hc;cases hd:cx.dfr f <;> rw [hd] at h
    ·exact zej c (λ e fr σ h=>.all h) h
    ·exact zvz h
 obtain ⟨a,ha⟩:=this;exact zdf (n:=a+1) (by rw [zlw]; exact ha a (Nat.le_refl a))
end
section
variable {α R:Type} {cx:Cx} {σ:St}
theorem zqa(site t:Nat)(s x:V)(b:Bool)(F:V→De→List Nat→Option α)(K:α→Option R):za (zdd cx σ site t s x b F) K=zdd cx σ site t s x b λ a b c=>za (F a b c) K:=by
 unfold zdd;split <;> try rfl
 simp only [zj0,zj,zz];congr 1; funext a l; congr 1; congr 1;split <;> try rfl
 all_goals (split <;> simp only [zj,zw])
theorem zqv(site t:Nat)(x:V)(lo hi mx:Option V)(F:V→De→List Nat→Option α)(K:α→Option R):za (zd6 cx σ site t x lo hi mx F) K=zd6 cx σ site t x lo hi mx λ a b c=>za (F a b c) K:=by
 unfold zd6;split <;> try rfl
 ·split <;> simp only [zml,zw]
 ·simp only [zl8,zj];congr 1; congr 1; funext a l; congr 1;split <;> simp only [zml,zj,zz]
theorem zvm(t:Nat)(x:V)(F:V→List Nat→Option α)(K:α→Option R):za (lenV cx σ t x F) K=lenV cx σ t x λ a b=>za (F a b) K:=by
 unfold lenV;split <;> try rfl
 split <;> rfl
theorem zj8(t:Nat)(x i:V)(F:V→Option α)(K:α→Option R):za (zbk cx t x i F) K=zbk cx t x i λ a=>za (F a) K:=by
 unfold zbk;split <;> try rfl
 all_goals
  simp only [zj];congr 1;split <;> simp only [zg5,zap,zj,zw]
theorem zka(s:Nat)(x:V)(f:Nat)(F:V→Option α)(K:α→Option R):za (zbl cx s x f F) K=zbl cx s x f λ a=>za (F a) K:=by
 unfold zbl;simp only [zq,zj];congr 1; funext p; congr 1;split <;> rfl
theorem zk0(t:Nat)(v:V)(off:Nat)(F:V→Option α)(K:α→Option R):za (zhx cx t v off F) K=zhx cx t v off λ a=>za (F a) K:=by
 unfold zhx;simp only [zj,zz,zcg,zeq]
theorem zrj(t:Nat)(x i:V)(F:V→Option α)(K:α→Option R):za (zi9 cx t x i F) K=zi9 cx t x i λ a=>za (F a) K:=by
 unfold zi9;split <;> try rfl
 ·split <;> simp only [zg5,zq,zw]
 ·simp only [zg5,zk0]
theorem zp9(P:Program)(t:Nat)(ok:Bool)(x:V)(F:V→Option α)(K:α→Option R):za (zig P t ok x F) K=zig P t ok x λ a=>za (F a) K:=by
 unfold zig;rw [zj];split
 ·rw [zz]; rfl
 ·rfl
theorem zve(l:List V)(F:V→Option α)(K:α→Option R):za (zvf l F) K=zvf l λ a=>za (F a) K:=by
 unfold zvf;split <;> rfl
theorem zs9(site g:Nat)(cap:List V)(args:List Operand)(fr:Fr)(F:Oc→De→List Nat→Option α)(K:α→Option R):za (zgr cx σ site g cap args fr F) K=zgr cx σ site g cap args fr λ a b c=>za (F a b c) K:=by
 unfold zgr;split <;> try rfl
 simp only [zq];congr 1; funext e; congr 1; funext v;split <;> simp only [zj,zw]
theorem ztt(s t:Nat)(x:V)(F:V→List Nat→Option α)(K:α→Option R):za (zma cx σ s t x F) K=zma cx σ s t x λ a b=>za (F a b) K:=by
 unfold zma;split <;> try rfl
 split <;> simp only [zj,zw]
theorem zi2{β:Type}(o:Option β)(F:β→Option α)(E:Option α)(K:α→Option R):za (zk3 o F E) K=zk3 o (λ b=>za (F b) K) (za E K):=by cases o <;> rfl
theorem zpm(t:Nat)(x k:V)(ok:Bool)(F:V→List Nat→Option α)(K:α→Option R):za (zb8 cx σ t x k ok F) K=zb8 cx σ t x k ok λ a b=>za (F a b) K:=by
 unfold zb8;split <;> try rfl
 simp only [zq,zmu,zj];congr 1; funext z; congr 1; funext key; congr 1;split <;> try rfl
 ·simp only [zq,zi2,zap,zan]
 ·split <;> simp only [zq,zi2,zap,zan,zw]
theorem zpl(t:Nat)(x k v:V)(F:De→List Nat→Option α)(K:α→Option R):za (zb7 cx σ t x k v F) K=zb7 cx σ t x k v λ a b=>za (F a b) K:=by
 unfold zb7;split <;> try rfl
 split <;> try rfl
 split <;> simp only [zq,zmu,zj,zi2,zw]
theorem zj7(site t:Nat)(l c:V)(F:V→De→List Nat→Option α)(K:α→Option R):za (vm cx σ site t l c F) K=vm cx σ site t l c λ a b d=>za (F a b d) K:=by
 unfold vm;split <;> simp only [zq,zj,zw]
theorem zsf(v:V)(F:V→De→List Nat→Option α)(K:α→Option R):za (zgn σ v F) K=zgn σ v λ a b d=>za (F a b d) K:=by
 unfold zgn;split <;> try rfl
 split <;> simp only [zj,zw]
theorem zvx{m nt:Nat}{call:yu}{o:Oper}{fr:Fr}(F:Oc→De→List Nat→Option α)(K:α→Option R):za (xo cx m nt call o fr σ F) K=xo cx m nt call o fr σ λ a b c=>za (F a b c) K:=by
 obtain ⟨dst,op,type,pos,after,guard⟩:=o;cases op
 case makeFunc fn first caps=>cases fn <;> simp only [xo,zj,zq,zw,zz]
 case makeMap t r=>cases r <;> simp only [xo,zj,zw]
 case move x | assign x=>
  simp only [xo];split
  ·split <;> try rfl
   split <;> simp only [zz,zso]
  ·simp only [zq,zz,zsf]
 case buildSlice t n ps=>
  simp only [xo];cases zpq cx nt dst ps.toList <;> cases cx.own nt (dst.getD 0) <;> split <;> simp only [zq,zj,zw,p5,p6]
 case nilCheck x=>
  simp only [xo,zq];congr 1; funext v;split <;> rfl
 case convert s t x=>
  simp only [xo,zq];congr 1; funext v;split
  ·split <;> simp only [zj,zw]
  ·simp only [zts,ztt,zz]
 case makeInterface t x=>
  simp only [xo];split <;> try rfl
  simp only [zq];congr 1; funext v;split <;> rfl
 case panic x=>
  simp only [xo,zq];congr 1; funext v;split <;> rfl
 case call c=>
  obtain ⟨callee,cargs,ctypes⟩:=c;cases callee with
  | value f=>
   simp only [xo,zq];congr 1; funext v;split
   ·simp only [zq,zhc]
   ·simp only [zz,zq,zj,zhc,zve,zs9]
   ·rfl
  | invoke r nm=>rfl
  | builtin b=>
   cases b <;> try rfl
   ·simp only [xo];split <;> simp only [zq,zj,zqa,zw]
   ·simp only [xo];split <;> simp only [zq,zvm,zw]
 all_goals first | rfl | (simp only [xo,zq,zj,zz,zw,zpm,zpl,zj7,zr9,zs5,zff,zm6,zwh,zwy,zvc,zqv,zka,zk0,zj8,zrj,zmq,zcg,zp9]; done)
theorem zlv{m nt:Nat}{call:yu}{o:Oper}{fr:Fr}(K:Tri→Option R):za (q6 cx m nt call o fr σ) K=xo cx m nt call o fr σ λ a b c=>K (a,b,c):=by
 unfold q6;rw [zvx];rfl
structure CK (R:Type) where
 S:yu
 run:Nat→List V→St→(Out→St→Option R)→Option R
 ok:∀ g a σ K,run g a σ K=(match S g a σ with | some (o,σ')=>K o σ' | none=>none)
def CK.plain{R:Type}(S:yu):CK R:=⟨S,λ g a σ K=>match S g a σ with | some (o,σ')=>K o σ' | none=>none,λ _ _ _ _=>rfl⟩
instance {R:Type}:Coe yu (CK R):=⟨CK.plain⟩
def zje(cx:Cx)(call:CK R)(σ:St)(t f:Nat)(args:List V)(xs:List Nat)(K:Oc→De→List Nat→Option R):Option R:=
 let ren:=w6 σ 1000 (V.idsL args++xs) []
 zh (closedIn σ (V.idsL args++xs) ren) <| zh (cx.dom f (V.renL (xe ren) args)) <| call.run f (V.renL (xe ren) args) (xd σ ren 0 ren) λ oc σ'=>match oc with
  | .ret v=>qu ren σ σ' 0 ren λ δ=>zes cx.P t (v.ren (za8 ren)) λ v=>K (.val v) δ ren
  | .pan v=>qu ren σ σ' 0 ren λ δ=>K (.pan (v.ren (za8 ren))) δ ren
theorem zwe{call:CK R}{t f:Nat}{args:List V}{xs:List Nat}{K:Oc→De→List Nat→Option R}:zje cx call σ t f args xs K=vi cx call.S σ t f args xs K:=by
 unfold zje vi;simp only;congr 1;congr 1;rw [call.ok];cases call.S f (V.renL (xe (w6 σ 1000 (V.idsL args++xs) [])) args) (xd σ (w6 σ 1000 (V.idsL args++xs) []) 0 (w6 σ 1000 (V.idsL args++xs) [])) with
 | none=>rfl
 | some p=>
  obtain ⟨o,s⟩:=p;cases o <;> rfl
def zur(cx : Cx)(m nt : Nat)(call : CK R)(o : Oper)(fr : Fr)(σ : St)(K : Oc → De → List Nat → Option R) : Option R :=
  match o.op with
  | .call ⟨.value f, cargs, ctypes⟩ => za (opd fr f) λ fv => (match fv with
        | .mfunc g first => za (vq cx.P fr cargs.toList ctypes.toList) λ args => zje cx call σ o.type g (first.map .d ++ qy (cx.keep g) args) [] K
        | .func g cap => bif (cx.grow g).isSome then zgr cx σ (m + o.dst.getD 0) g cap cargs.toList fr K else bif zfl cx.P g && cap.isEmpty then za (vq cx.P fr cargs.toList ctypes.toList) λ l => zvf l λ v => K (.val v) [] [] else bif cx.gives g
          then za (vq cx.P fr cargs.toList ctypes.toList) λ l => zh (z8 σ [(m + o.dst.getD 0, .tok 0)]) (zje cx call (vx σ (m + o.dst.getD 0) (.tok 0)) o.type g (qy (cx.keep g) l ++ cap) [m + o.dst.getD 0] λ oc δ fp => K oc ((m + o.dst.getD 0, .tok 0) :: δ) ((m + o.dst.getD 0) :: fp))
          else bif cx.keep g && zg6 cargs.toList
          then za (zab cx.P fr (m + o.dst.getD 0) cargs.toList ctypes.toList) λ l => zh (z8 σ [(m + o.dst.getD 0, .tok 0)]) (zje cx call (vx σ (m + o.dst.getD 0) (.tok 0)) o.type g (l ++ cap) [] λ oc δ fp => K oc ((m + o.dst.getD 0, .tok 0) :: δ) ((m + o.dst.getD 0) :: fp))
          else za (vq cx.P fr cargs.toList ctypes.toList) λ args => zje cx call σ o.type g (qy (cx.keep g) args ++ cap) [] K
        | _ => none)
  | _ => xo cx m nt call.S o fr σ K
theorem zrw{m nt:Nat}{call:CK R}{o:Oper}{fr:Fr}{K:Oc→De→List Nat→Option R}:zur cx m nt call o fr σ K=xo cx m nt call.S o fr σ K:=by
 obtain ⟨dst,op,type,pos,after,guard⟩:=o;cases op <;> try rfl
 case call c=>
  obtain ⟨callee,cargs,ctypes⟩:=c;cases callee <;> try rfl
  unfold zur xo;simp only [zwe];congr 1
def zdk(cx:Cx)(m nt:Nat)(call:CK R)(ops:List Oper):List Oper→Fr→St→(Ex→Fr→St→Option R)→Option R
 | [],fr,σ,K=>K .normal fr σ
 | o::r,fr,σ,K=>zh (zjx nt o.dst) <| zak ops o fr
   (λ fr=>zur cx m nt call o fr σ λ oc δ _=>match oc with
    | .val v=>zdk cx m nt call ops r (zc1 fr o.dst v) (ze σ δ) K
    | .pan v=>K (.pan v) fr (ze σ δ))
   (λ fr=>zdk cx m nt call ops r (zc1 fr o.dst wa) σ K)
theorem zgd{m nt:Nat}{call:CK R}{ops:List Oper}{K:Ex→Fr→St→Option R}:∀ (l:List Oper) (fr:Fr) (σ:St),qz cx m nt call.S ops l fr σ K=zdk cx m nt call ops l fr σ K
 | [],_,_=>rfl
 | o::l,fr,σ=>by
  unfold qz zdk;congr 1;congr 1
  ·funext fr;rw [zlv,zrw];congr 1;funext oc δ fp;cases oc with
   | val v=>exact zgd l _ _
   | pan v=>rfl
  ·funext fr;exact zgd l _ _
def zca(cx:Cx)(m nt:Nat)(call:CK R)(ops:List Oper)(pre:List Nat) :
  Nat→List Oper→List Log→Option (Nat×V)→Fr→St→(Ex→Fr→St→Option R)→Option R
 | _,[],_,none,fr,σ,K=>K .normal fr σ
 | _,[],log,some (k,v),_,σ,K=>zh (log.all λ a=>a.w.isEmpty||Nat.beq a.i k||yz pre k a.i) (K (.pan v) [] σ)
 | i,o::r,log,dead,fr,σ,K=>
   bif zic pre i dead then zca cx m nt call ops pre (i+1) r log dead fr σ K
   else zh (zjx nt o.dst) <| zak ops o fr
    (λ fr=>zur cx m nt call o fr σ λ oc δ fp=>zh (log.all λ a=>zde pre a ⟨i,δ.map (·.1)++fp,δ.map (·.1)⟩) (match oc,dead with
     | .val u,_=>zca cx m nt call ops pre (i+1) r (⟨i,δ.map (·.1)++fp,δ.map (·.1)⟩::log) dead (zc1 fr o.dst u) (ze σ δ) K
     | .pan v,none=>zca cx m nt call ops pre (i+1) r (⟨i,δ.map (·.1)++fp,δ.map (·.1)⟩::log) (some (i,v)) fr (ze σ δ) K
     | .pan _,some _=>none))
    (λ fr=>zca cx m nt call ops pre (i+1) r log dead (zc1 fr o.dst wa) σ K)
theorem zdv{m nt:Nat}{call:CK R}{ops:List Oper}{pre:List Nat}{K:Ex→Fr→St→Option R}:∀ (l:List Oper) (i:Nat) (log:List Log) (dead:Option (Nat×V)) (fr:Fr) (σ:St),
  x4 cx m nt call.S ops pre i l log dead fr σ K=zca cx m nt call ops pre i l log dead fr σ K
 | [],_,_,none,_,_=>rfl
 | [],_,_,some _,_,_=>rfl
 | o::l,i,log,dead,fr,σ=>by
  unfold x4 zca;rw [zdv l];congr 1;congr 1;congr 1
  ·funext fr;rw [zlv,zrw];congr 1;funext oc δ fp;congr 1;cases oc with
   | val v=>exact zdv l _ _ _ _ _
   | pan v=>
    cases dead with
    | none=>exact zdv l _ _ _ _ _
    | some q=>rfl
  ·funext fr;exact zdv l _ _ _ _ _
end
section
variable {R:Type} {cx:Cx}
def xn(cx:Cx)(f m nt:Nat)(call:CK R)(n:Nat):Code→Fr→St→(Ex→Fr→St→Option R)→Option R
 | .skip,fr,σ,K=>K .normal fr σ
 | .label _,fr,σ,K=>K .normal fr σ
 | .region id ops false,fr,σ,K=>(match cx.pend f id with
   | none=>zdk cx m nt call ops.toList ops.toList fr σ K
   | some k=>zdk cx m nt call ops.toList (ops.toList.take k) fr σ λ e fr σ=>match e with
     | .normal=>zal cx nt ops.toList k fr σ λ r fr σ=>zdk cx m nt call ops.toList r fr σ K
     | e=>K e fr σ)
 | .region id ops true,fr,σ,K=>(match cx.pend f id with
   | none=>zh (zel ops.toList (vf ops.toList [])) (zca cx m nt call ops.toList (vf ops.toList []) 0 ops.toList [] none fr σ K)
   | some k=>zh (zfe ops.toList k) <| zh (zel ops.toList (vf ops.toList [])) (zca cx m nt call ops.toList (vf ops.toList []) 0 (ops.toList.take k) [] none fr σ λ e fr σ=>match e with
     | .normal=>zbm cx nt ops.toList k fr σ (K .normal)
     | e=>K e fr σ))
 | .seq a b,fr,σ,K=>xn cx f m nt call n a fr σ λ e fr σ=>match e with
   | .normal=>xn cx f m nt call n b fr σ K
   | e=>K e fr σ
 | .cond c a b,fr,σ,K=>za (opd fr c) λ v=>asB v λ t=>bif t then xn cx f m nt call n a fr σ K else xn cx f m nt call n b fr σ K
 | .block id c,fr,σ,K=>xn cx f m nt call n c fr σ λ e fr σ=>match e with
   | .normal=>tidy cx m f (2 * id) fr σ (K .normal)
   | .exit id'=>bif Nat.beq id' id then tidy cx m f (2 * id) fr σ (K .normal) else K (.exit id') fr σ
   | e=>K e fr σ
 | .loop c,fr,σ,K=>tidy cx m f (2 * yf c+1) fr σ λ fr σ=>
   iter (xn cx f m nt call n c) (tidy cx m f (2 * yf c+1)) n fr σ K
 | .exit id,fr,σ,K=>K (.exit id) fr σ
 | .goto l,fr,σ,K=>K (.goto l) fr σ
 | .ret,fr,σ,K=>K .ret fr σ
 | .scope c,fr,σ,K=>xn cx f m nt call n c fr σ λ e fr σ=>match e with
   | .goto _=>none
   | e=>K e fr σ
 | _,_,_,_=>none
theorem zfr{f m nt n:Nat}{call:CK R}:∀ (c:Code) (fr:Fr) (σ:St) (K:Ex→Fr→St→Option R),yb cx f m nt call.S n c fr σ K=xn cx f m nt call n c fr σ K:=by
 intro c
 induction c with
 | skip=>intros; rfl
 | label l=>intros; rfl
 | exit id=>intros; rfl
 | goto l=>intros; rfl
 | ret=>intros; rfl
 | refuse why=>intros; rfl
 | rangeFunc f params assign body _ _=>intros; rfl
 | region id ops draw=>
  intro fr σ K;cases draw
  ·unfold yb xn;cases cx.pend f id with
   | none=>exact zgd _ _ _
   | some k=>
    simp only [zgd];rfl
  ·unfold yb xn;cases cx.pend f id with
   | none=>simp only [zdv]
   | some k=>
    simp only [zdv];rfl
 | seq x y ihx ihy=>
  intro fr σ K;unfold yb xn;rw [ihx];congr 1;funext e fr σ;cases e <;> first | rfl | exact ihy _ _ _
 | cond c x y ihx ihy=>
  intro fr σ K;unfold yb xn;simp only [ihx,ihy]
 | block id c ih=>
  intro fr σ K;unfold yb xn;rw [ih];congr 1
 | loop c ih=>
  intro fr σ K;unfold yb xn;congr 1;funext fr σ;have e:(λ (fr:Fr) (σ:St) (K:Ex→Fr→St→Option R)=>yb cx f m nt call.S n c fr σ K)=λ fr σ K=>xn cx f m nt call n c fr σ K:=by
   funext fr σ K;exact ih fr σ K
  exact congrArg (λ body=>iter body (tidy cx m f (2 * yf c+1)) n fr σ K) e
 | scope c ih=>
  intro fr σ K;unfold yb xn;rw [ih];congr 1
def zpx(cx:Cx)(f m nt:Nat)(call:CK R)(n:Nat):List Code→Fr→St→(Ex→Fr→St→Option R)→Option R
 | [],fr,σ,K=>K .normal fr σ
 | a::r,fr,σ,K=>xn cx f m nt call n a fr σ λ e fr σ=>match e with
   | .normal=>zpx cx f m nt call n r fr σ K
   | e=>K e fr σ
theorem zup{f m nt n:Nat}{call:CK R}:∀ (as:List Code) (fr:Fr) (σ:St) (K:Ex→Fr→St→Option R),ze3 cx f m nt call.S n as fr σ K=zpx cx f m nt call n as fr σ K
 | [],_,_,_=>rfl
 | a::as,fr,σ,K=>by
  unfold ze3 zpx;rw [zfr];congr 1;funext e fr σ;cases e <;> first | rfl | exact zup as _ _ _
def zpw(cx:Cx)(call:yu)(n g:Nat)(args:List V)(σ:St)(u:Option D):Option St:=
 match cx.P.funcs[g]? with
 | none=>none
 | some fn=>
  match fn.body with
  | some (.seq (.region _ ops false) c)=>
   (match ops.toList with
    | o::r=>za (zhw o) λ t=>zh (Nat.blt t fn.ntmps&&fn.results.isEmpty) <|
     zdk cx σ.length fn.ntmps (CK.plain call) ops.toList r ((t,.d (z00 u))::vy 0 args) σ λ e fr σ'=>match e with
      | .normal=>xn cx g σ.length fn.ntmps (CK.plain call) n c fr σ' λ e _ σ'=>(match e with | .normal | .ret=>qf σ.length σ' (List.range σ.length) | _=>none)
      | _=>none
    | []=>none)
  | _=>none
theorem zzz{call:yu}{n:Nat}:za6 cx call n=zpw cx call n:=by
 funext g args σ u;unfold za6 zpw;have e:∀ {R:Type},(CK.plain call:CK R).S=call:=rfl;simp only [←zgd,←zfr,e];rfl
def zth(cx:Cx)(f m nt:Nat)(res:List ResultVar)(call:CK (Out×St))(n:Nat)(c:Code)(fr:Fr)(σ:St):Option (Out×St):=
 match zd5 c with
 | none=>none
 | some (as,_,ops,t,b)=>
  zpx cx f m nt call n as fr σ λ e fr σ=>match e with
   | .normal=>zdk cx m nt call ops.toList ops.toList.dropLast fr σ λ e fr σ=>(match e with
     | .normal=>za (zf fr t) λ fv=>(match fv with
       | .func g cap=>zh (!q9 b) (xn cx f m nt call n b fr σ (zlz cx (zpw cx call.S n) f m res g cap))
       | _=>none)
     | e=>zg9 cx f m res e fr σ)
   | e=>zg9 cx f m res e fr σ
theorem zz1{f m nt n:Nat}{res:List ResultVar}{call:CK (Out×St)}{c:Code}{fr:Fr}{σ:St}:zfq cx f m nt res call.S n c fr σ=zth cx f m nt res call n c fr σ:=by
 unfold zfq zth;simp only [zup,zgd,zfr,zzz];rfl
def zx(cx:Cx)(call:CK (Out×St))(n f:Nat)(args:List V)(σ:St):Option (Out×St):=
 match cx.nat f args σ with
 | some r=>some r
 | none=>
 match cx.P.funcs[f]? with
 | none=>none
 | some fn=>
  match fn.body with
  | none=>none
  | some c=>bif cx.dfr f then zth cx f σ.length fn.ntmps fn.results.toList call n c (vy 0 args) σ
   else xn cx f σ.length fn.ntmps call n c (vy 0 args) σ (zg9 cx f σ.length fn.results.toList)
theorem zrr{call:CK (Out×St)}{n f:Nat}{args:List V}{σ:St}:qc cx call.S n f args σ=zx cx call n f args σ:=by
 unfold qc zx;simp only [zz1,zfr];rfl
theorem zt{call:CK (Out×St)}(hk:knows cx call.S (zl cx)){N f:Nat}{args:List V}{σ:St}{r:Out×St}(h:zx cx call N f args σ=some r):zl cx f args σ=some r:=
 zrb (N:=N) (zfo hk (Nat.le_refl N) f args σ r (by rw [zrr]; exact h))
theorem vd{call:yu}(hk:knows cx call (zl cx)){N f:Nat}{args:List V}{σ:St}{r:Out×St}(h:zx cx (CK.plain call) N f args σ=some r):zl cx f args σ=some r:=
 zt (call:=CK.plain call) hk h
end
section
variable {R:Type}
def codeOf(cx:Cx)(f:Nat):Code:=match cx.P.funcs[f]? with | some fn=>(match fn.body with | some c=>c | none=>.skip) | none=>.skip
def zvh(cx:Cx)(f:Nat):Nat:=match cx.P.funcs[f]? with | some fn=>fn.ntmps | none=>0
def z0h(cx:Cx)(f:Nat):List ResultVar:=match cx.P.funcs[f]? with | some fn=>fn.results.toList | none=>[]
def findLoop(r:Nat):Code→Option Code
 | .loop c=>bif Nat.beq (yf c) r then some c else findLoop r c
 | .seq a b=>(match findLoop r a with | some c=>some c | none=>findLoop r b)
 | .cond _ a b=>(match findLoop r a with | some c=>some c | none=>findLoop r b)
 | .block _ c=>findLoop r c
 | .scope c=>findLoop r c
 | _=>none
def z0m(cx:Cx)(f r:Nat):Code:=match findLoop r (codeOf cx f) with | some c=>c | none=>.skip
def LP(cx:Cx)(call:CK R)(n f m r k:Nat)(fr:Fr)(σ:St)(K:Ex→Fr→St→Option R):Option R:=
 iter (xn cx f m (zvh cx f) call n (z0m cx f r)) (tidy cx m f (2 * r+1)) k fr σ K
def zr1(cx:Cx)(f m nt:Nat)(call:CK R)(n r:Nat):Code→(Ex→Fr→St→Option R)→Option (Ex→Fr→St→Option R)
 | .loop c,K=>bif Nat.beq (yf c) r then some K else none
 | .seq a b,K=>(match zr1 cx f m nt call n r a (λ e fr σ=>match e with
   | .normal=>xn cx f m nt call n b fr σ K
   | e=>K e fr σ) with | some k=>some k | none=>zr1 cx f m nt call n r b K)
 | .cond _ a b,K=>(match zr1 cx f m nt call n r a K with | some k=>some k | none=>zr1 cx f m nt call n r b K)
 | .block id c,K=>zr1 cx f m nt call n r c λ e fr σ=>match e with
   | .normal=>tidy cx m f (2 * id) fr σ (K .normal)
   | .exit id'=>bif Nat.beq id' id then tidy cx m f (2 * id) fr σ (K .normal) else K (.exit id') fr σ
   | e=>K e fr σ
 | .scope c,K=>zr1 cx f m nt call n r c λ e fr σ=>match e with
   | .goto _=>none
   | e=>K e fr σ
 | _,_=>none
def AK(cx:Cx)(call:CK R)(n f m r:Nat)(K:Ex→Fr→St→Option R):Ex→Fr→St→Option R:=
 match zr1 cx f m (zvh cx f) call n r (codeOf cx f) K with | some k=>k | none=>λ _ _ _=>none
def inK(cx:Cx)(call:CK R)(n f m r k:Nat)(K:Ex→Fr→St→Option R):Ex→Fr→St→Option R:=λ e fr σ=>
 match e with
 | .normal=>tidy cx m f (2 * r+1) fr σ λ fr σ=>LP cx call n f m r k fr σ K
 | e=>K e fr σ
def AL(cx:Cx)(call:CK R)(n f m r r':Nat)(K:Ex→Fr→St→Option R):Ex→Fr→St→Option R:=
 match zr1 cx f m (zvh cx f) call n r' (z0m cx f r) K with | some k=>k | none=>λ _ _ _=>none
def EK(cx:Cx)(f m:Nat):Ex→Fr→St→Option (Out×St):=zg9 cx f m (z0h cx f)
end
section
variable {R:Type}
def ql(r:Nat):Code→Option (List Oper)
 | .region id ops _=>bif Nat.beq id r then some ops.toList else none
 | .loop c=>ql r c
 | .seq a b=>(match ql r a with | some c=>some c | none=>ql r b)
 | .cond _ a b=>(match ql r a with | some c=>some c | none=>ql r b)
 | .block _ c=>ql r c
 | .scope c=>ql r c
 | _=>none
def zkx(cx:Cx)(f r:Nat):List Oper:=match ql r (codeOf cx f) with | some l=>l | none=>[]
def ztr(cx:Cx)(f m nt:Nat)(call:CK R)(n r:Nat):Code→(Ex→Fr→St→Option R)→Option (Ex→Fr→St→Option R)
 | .region id _ _,K=>bif Nat.beq id r then some K else none
 | .seq a b,K=>(match ztr cx f m nt call n r a (λ e fr σ=>match e with
   | .normal=>xn cx f m nt call n b fr σ K
   | e=>K e fr σ) with | some k=>some k | none=>ztr cx f m nt call n r b K)
 | .cond _ a b,K=>(match ztr cx f m nt call n r a K with | some k=>some k | none=>ztr cx f m nt call n r b K)
 | .block id c,K=>ztr cx f m nt call n r c λ e fr σ=>match e with
   | .normal=>tidy cx m f (2 * id) fr σ (K .normal)
   | .exit id'=>bif Nat.beq id' id then tidy cx m f (2 * id) fr σ (K .normal) else K (.exit id') fr σ
   | e=>K e fr σ
 | .scope c,K=>ztr cx f m nt call n r c λ e fr σ=>match e with
   | .goto _=>none
   | e=>K e fr σ
 | _,_=>none
def AR(cx:Cx)(call:CK R)(n f m r:Nat)(K:Ex→Fr→St→Option R):Ex→Fr→St→Option R:=
 match ztr cx f m (zvh cx f) call n r (codeOf cx f) K with | some k=>k | none=>λ _ _ _=>none
def OPS(cx:Cx)(call:CK R)(n f m r j:Nat)(fr:Fr)(σ:St)(K:Ex→Fr→St→Option R):Option R:=
 zdk cx m (zvh cx f) call (zkx cx f r) ((zkx cx f r).drop j) fr σ K
def DRW(cx:Cx)(call:CK R)(n f m r j:Nat)(log:List Log)(fr:Fr)(σ:St)(K:Ex→Fr→St→Option R):Option R:=
 zca cx m (zvh cx f) call (zkx cx f r) (vf (zkx cx f r) []) j ((zkx cx f r).drop j) log none fr σ K
end
end Go.Vai
end

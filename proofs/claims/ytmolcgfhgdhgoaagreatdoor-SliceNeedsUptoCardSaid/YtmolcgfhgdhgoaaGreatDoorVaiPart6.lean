/-
  Calls of functions: the whole. To: Places in the code by name: behind some of a region's operations.
-/
import Derived.Test.YtmolcgfhgdhgoaaGreatDoorVaiPart5
import Derived.ProofKit
import Derived.OpenShut
import Derived.Deep.DeepHandedRow
import Derived.MakeChecks
set_option linter.all false
noncomputable section
namespace Go.Vai
section
variable {R:Type} {cx:Cx} {m nt:Nat} {w w₀:World} {σ σ' σ₀:St} {μ μ₀:Mu}
theorem z42{call:Nat→List V→St→Option (Out×St)}(hcall:zai cx call)(hn:xe cx.P)(hmix:cx.P.follows .mixedOrders=true){n g:Nat}{cap:List V}{u:Option D}{um:FrameMode}{vs:List Value}
  {K:De→Option R} {r:R} (h:zia cx (zcm cx call n) σ g cap u K=some r) (hi:Inv cx w σ μ) (hv:RVs w σ μ vs cap) (hm:znv w (zr σ μ) u um) :
  ∃ δ,K δ=some r∧(∃ fn,cx.P.funcs[g]?=some fn∧fn.body.isNone=false) ∧
   CallsD cx.P g vs.toArray um w λ e m' w'=>(∃ v,e=.returned v)∧settle m'=.returning∧∃ μ',After cx w σ μ w' (zf σ δ) μ':=by
 unfold zia at h;simp only at h;generalize hren:reach σ 1000 (V.idsL cap) []=ren at h;obtain ⟨hc,h⟩:=ze h;obtain ⟨hnd,hargs,hcl⟩:=zft hc;obtain ⟨hlen,hinv,hcanon,hvs,hargs',hfull,hown⟩:=zz1 hi hv hnd hargs hcl;split at h
 case h_2=>cases h
 rename_i σ' hrec;obtain ⟨hfn,hσ',hrun⟩:=z4e hcall hn hmix hrec hinv hcanon hvs (by rw [hown]; exact hm)
 rw [hlen] at hσ';obtain ⟨δ,h1,h2,h3⟩:=zei ren 0 h;refine ⟨δ,h1,hfn,hrun.mono λ e m' w' ⟨he,hs,μ1,haf⟩=>⟨he,hs,_,(zwl hi hnd hcl h2 h3 hσ' haf).1⟩⟩
theorem z6w{call:Nat→List V→St→Option (Out×St)}(hcall:zai cx call)(hn:xe cx.P)(hmix:cx.P.follows .mixedOrders=true)(hσ₀:∀ id o,zi σ id=some o→id<σ.length)
  {n g f:Nat} {cap:List V} {cs:Array Value} {fn:Func} {a:Act} {fr:Fr} {τ:St} {w₁:World} {μ₁:Mu} {out:Out} {e:Ex} {x:Exit} (hx:zhn w₁ τ μ₁ e x)
  (haf:After cx w σ μ w₁ τ μ₁) (hf:FR w₁ τ μ₁ a.tmps fr) (hd:a.defers=[{ target:=.fn (.func g) cs,args:=#[] }]) (hcap:RVs w₁ τ μ₁ cs.toList cap)
  (h:zqw cx (zcm cx call n) f σ.length fn.results.toList g cap e fr τ=some (out,σ')):bodyPostD cx.P fn (Fin cx w σ μ out σ') x a w₁:=by
 have go:∀ (u:Option D) (um:FrameMode),um ≠ .run→znv w₁ (zr τ μ₁) u um→zia cx (zcm cx call n) τ g cap u (λ δ=>zla cx f σ.length fn.results.toList .ret fr (zf τ δ))=some (out,σ') →
   Leaves cx.P fn a.tmps (Fin cx w σ μ out σ') a.defers um w₁:=by
  intro u um hum hu h;obtain ⟨δ,hK,⟨fn',hfn,hbody⟩,hcalls⟩:=z42 hcall hn hmix h haf.inv hcap hu;rw [hd];refine leaves_cons (f:=g) (args:=(#[]++cs)) hum ?_ ?_
  ·show (callFunc g (#[]++cs)).run cx.P w₁=_;exact zgm hn hfn hbody
  ·rw [show (#[]++cs)=cs.toList.toArray by simp]
   refine hcalls.mono λ e m' w' ⟨⟨v,he⟩,hs,μ',haf'⟩=>?_;subst he;show Leaves _ _ _ _ [] (settle m') w';rw [hs];exact ztw hσ₀ (haf.trans haf') (haf'.frs haf.inv hf) hK
 unfold zqw at h;split at h
 ·cases x <;> first | exact hx.elim | exact go none .returning (by simp) rfl h
 ·cases x <;> first | exact hx.elim | exact go none .returning (by simp) rfl h
 ·rename_i t y;cases x <;> first | exact hx.elim | skip
  rename_i chain;obtain ⟨v,rfl,hv⟩:=hx;cases hv with | d _ _ hv=>?_
  exact go (some (.iface t y)) (.panicking [{ v:=v,recovered:=false }]) (by simp) ⟨v,rfl,hv⟩ h
 ·cases h
theorem zup:∀ (c:Code) {as:List Code} {id:Nat} {ops:Array Oper} {t:Nat} {b:Code},zgh c=some (as,id,ops,t,b) →
  (∃ o,ops.toList.getLast?=some o∧zip o=some t)∧c=as.foldr Code.seq (.seq (.region id ops false) b):=by
 intro c
 induction c with
 | seq x y ihx ihy=>
  intro as id ops t b h
  have other:(match zgh y with | some (l,q)=>some (x::l,q) | none=>none)=some (as,id,ops,t,b) →
    (∃ o,ops.toList.getLast?=some o∧zip o=some t)∧Code.seq x y=as.foldr Code.seq (.seq (.region id ops false) b):=by
   intro h;cases hs:zgh y with
   | none=>rw [hs] at h; cases h
   | some p=>
    obtain ⟨l,id',ops',t',b'⟩:=p;rw [hs] at h;cases h;have ih:=ihy hs;exact ⟨ih.1,by rw [List.foldr_cons,←ih.2]⟩
  cases x with
  | region id' ops' draw=>
   cases draw with
   | true=>exact other h
   | false=>
    simp only [zgh] at h;cases hl:ops'.toList.getLast? with
    | none=>rw [hl] at h; exact other h
    | some o=>
     rw [hl] at h;simp only at h;cases hp:zip o with
     | none=>rw [hp] at h; exact other h
     | some t'=>rw [hp] at h; cases h; exact ⟨⟨o,hl,hp⟩,rfl⟩
  | _=>exact other h
 | _=>intro as id ops t b h; cases h
theorem zv1{call:Nat→List V→St→Option (Out×St)}(hcall:zai cx call)(hn:xe cx.P)(hmix:cx.P.follows .mixedOrders=true)(hσ₀:∀ id o,zi σ₀ id=some o→id<m){f n:Nat}{ds:List Deferred}{tl:Code}
  {K:Ex→Fr→St→Option R} {r:R} {Q:Exit→Act→World→Prop}
  (hN:∀ fr σ,K .normal fr σ=some r→∀ a w μ,Now cx nt ds w₀ σ₀ μ₀ a w σ μ fr→tl.wp cx.P Q a w)
  (hQ:∀ e fr σ,e ≠ .normal→K e fr σ=some r→∀ x a w μ,zhn w σ μ e x→Now cx nt ds w₀ σ₀ μ₀ a w σ μ fr→Q x a w) :
  ∀ (as:List Code) {fr:Fr} {σ:St},zho cx f m nt call n as fr σ K=some r→∀ {a w μ},Now cx nt ds w₀ σ₀ μ₀ a w σ μ fr→(as.foldr Code.seq tl).wp cx.P Q a w
 | [],fr,σ,h,a,w,μ,hnow=>hN _ _ h _ _ _ hnow
 | c::as,fr,σ,h,a,w,μ,hnow=>by
  simp only [zho] at h;refine wp_seq (zme hcall hn hmix hσ₀ c h (λ e fr σ hK x a w μ hx hnow=>?_) hnow);cases e with
  | normal=>cases x <;> first | exact zv1 hcall hn hmix hσ₀ hN hQ as hK hnow | exact hx.elim
  | exit i=>cases x <;> first | exact hQ _ _ _ (by simp) hK _ _ _ μ hx hnow | exact hx.elim
  | goto l=>cases x <;> first | exact hQ _ _ _ (by simp) hK _ _ _ μ hx hnow | exact hx.elim
  | ret=>cases x <;> first | exact hQ _ _ _ (by simp) hK _ _ _ μ hx hnow | exact hx.elim
  | pan v=>cases x <;> first | exact hQ _ _ _ (by simp) hK _ _ _ μ hx hnow | exact hx.elim
theorem z4g{call:Nat→List V→St→Option (Out×St)}(hcall:zai cx call)(hn:xe cx.P)(hmix:cx.P.follows .mixedOrders=true)(hσ₀:∀ id o,zi σ id=some o→id<σ.length)
  {n f:Nat} {fn:Func} {c:Code} {fr:Fr} {a:Act} {out:Out} (hnow:Now cx fn.ntmps [] w σ μ a w σ μ fr)
  (h:zh8 cx f σ.length fn.ntmps fn.results.toList call n c fr σ=some (out,σ')):c.wp cx.P (bodyPostD cx.P fn (Fin cx w σ μ out σ')) a w:=by
 unfold zh8 at h;split at h
 ·cases h
 rename_i as id ops t b hsp;obtain ⟨⟨o,hl,hp⟩,rfl⟩:=zup c hsp;obtain ⟨ty,pos,aft,rfl⟩:=zs7 hp;refine zv1 hcall hn hmix hσ₀ (λ fr τ hK a w₁ μ₁ hnow=>?_) (λ e fr τ he hK x a w₁ μ₁ hx hnow=>?_) as h hnow
 ·simp only at hK;have hne:ops.toList ≠ []:=by intro e; rw [e] at hl; cases hl
  have hops:ops.toList=ops.toList.dropLast++[⟨none,.defer ⟨.value (.tmp t),#[],#[]⟩,ty,pos,aft,none⟩]:=by
   have h1:=List.dropLast_concat_getLast hne;rw [List.getLast?_eq_some_getLast hne] at hl;rw [Option.some.inj hl] at h1;exact h1.symm
  refine wp_seq (wp_region ?_)
  have key:=zgz (cx:=cx) (nt:=fn.ntmps) (ds:=[]) (w₀:=w) (σ₀:=σ) (μ₀:=μ) (m:=σ.length) hcall hn (arr:=ops) (tl:=[⟨none,.defer ⟨.value (.tmp t),#[],#[]⟩,ty,pos,aft,none⟩])
   (Q:=Exit.then (b.wp cx.P (bodyPostD cx.P fn (Fin cx w σ μ out σ'))) (bodyPostD cx.P fn (Fin cx w σ μ out σ'))) ?_ ?_ ops.toList.dropLast 0 (by rw [List.drop_zero]; exact hops) fr τ hK a w₁ μ₁ hnow
  ·simpa using key
  ·intro fr τ hK a w₁ μ₁ hnow i hi;simp only at hK;obtain ⟨fv,hfv,hK⟩:=zd hK;split at hK
   case h_2=>cases hK
   rename_i g cap;obtain ⟨htidy,hK⟩:=ze hK;have hsize:ops.size=i+1:=by have:=congrArg List.length hi; simp at this; omega
   have ho:ops[i]?=some ⟨none,.defer ⟨.value (.tmp t),#[],#[]⟩,ty,pos,aft,none⟩:=by
    have:=congrArg (·[0]?) hi;simpa using this
   rw [show (List.range ops.size).drop i=[i] by rw [hsize,List.drop_eq_getElem_cons (by simp)]; simp]
   simp only [wpOps,ho];rw [if_pos (by simp [Region.wanted])]
   left;have hr:=hnow.fr t _ hfv;generalize hq:a.tmps.getD t undef=q at hr;cases hr with | func _ cs _ hcl hch=>?_
   have hrun:(execOp a.eval ⟨none,.defer ⟨.value (.tmp t),#[],#[]⟩,ty,pos,aft,none⟩).run cx.P w₁=.ok (.defer { target:=.fn (.func g) cs,args:=#[] }) w₁:=by
    have he:a.eval (.tmp t)=.func (.func g) #[] cs:=by simpa [Act.eval] using hq
    simp only [execOp,resolve,he,Deferred.ofValue];simp [Sem.run_bind]
   unfold Oper.wp;rw [hrun,Oper.upon_defer];have hcap:RVs w₁ τ μ₁ cs.toList cap:=⟨by simpa using hcl,λ i x y hx hy=>hch i x y (by simpa using hx) hy⟩
   have hinv:=hnow.after.inv
   refine zpa (w₀:=w₁) (σ₀:=τ) (μ₀:=μ₁) (ds:=[{ target:=.fn (.func g) cs,args:=#[] }]) (nt:=fn.ntmps) hcall hn hmix b (λ ht=>by rw [ht] at htidy; cases htidy) hK (λ e fr τ' hK x a w₂ μ₂ hx hnow'=>?_) (μ:=μ₁)
    ⟨After.refl hinv,hnow.fr,hnow.size,by show _::a.defers=_; rw [hnow.defers]⟩
   exact z6w hcall hn hmix hσ₀ hx (hnow.after.trans hnow'.after) hnow'.fr hnow'.defers (hcap.map λ v x _ hv=>hnow'.after.rv hinv hv) hK
  ·intro v fr τ hK x a w₁ μ₁ hx hnow;cases x <;> first | exact hx.elim | skip
   exact ztx (e:=.pan v) hσ₀ hx hnow hK
 ·cases e with
  | normal=>exact absurd rfl he
  | _=>exact ztx hσ₀ hx hnow hK
theorem z4f(hn:xe cx.P)(hmix:cx.P.follows .mixedOrders=true)(hnat:zai cx cx.nat):∀ n,zai cx (vg cx n):=by
 intro n
 induction n with
 | zero=>exact ⟨hnat.1,λ f args σ out σ' h=>by cases h⟩
 | succ n ih=>
  refine ⟨hnat.1,?_⟩;intro f args σ out σ' h w μ vs hi hcan hids hall hvs;simp only [vg,zbh] at h;split at h
  ·rename_i r hr;cases h;exact hnat.2 f args σ out σ' hr w μ vs hi hcan hids hall hvs
  split at h
  ·cases h
  rename_i fn hfn;split at h
  ·cases h
  rename_i c hc;have hσ₀:∀ id o,zi σ id=some o→id<σ.length:=λ id o ho=>(hcan id o ho).1;have hbody:fn.body.isNone=false:=by rw [hc]; rfl
  have hbegin:Now cx fn.ntmps [] w σ μ { tmps:=vs.toArray++Array.replicate (fn.ntmps - vs.toArray.size) undef,defers:=[] } w σ μ (za0 0 args):=by
   refine ⟨After.refl hi,?_,?_,rfl⟩
   ·intro t v ht;obtain ⟨i,rfl,hv⟩:=zfp 0 args t v ht;rw [Nat.zero_add];have hlt:i<vs.length:=by rw [hvs.1]; exact (pj.1 hv).1
    have:(vs.toArray++Array.replicate (fn.ntmps - vs.toArray.size) undef).getD i undef=vs[i]:=by
     simp [Array.getD_eq_getD_getElem?,Array.getElem?_append,hlt]
    rw [this];exact hvs.2 i _ v (by simp) hv
   ·simp; omega
  have hrun:Calls cx.P f vs.toArray w (Fin cx w σ μ out σ'):=by
   cases hd:cx.dfr f <;> rw [hd] at h
   ·exact calls_of_wp_defers hfn hc (zme (w₀:=w) (μ₀:=μ) (nt:=fn.ntmps) ih hn hmix hσ₀ c h (λ e fr τ hK x a w₁ μ₁ hx hnow=>ztx hσ₀ hx hnow hK) hbegin)
   ·exact calls_of_wp_defers hfn hc (z4g ih hn hmix hσ₀ hbegin h)
  obtain ⟨e,w',fr,⟨hfacts,_⟩,_⟩:=hrun [];exact ⟨⟨fn,hfn,hbody⟩,hfacts.1,hfacts.2,hrun.mono λ e w' h=>by
   obtain ⟨μ',haf,hm⟩:=h.2;exact ⟨μ',haf,by cases out <;> cases e <;> exact hm⟩⟩
end
open Go.ChangeShapes Go.WideShapes Go.ChangeAt Go.RowKit
section
variable {H:Type}
def noOwn:Own:=λ _ _=>False
def zfk(P:Program):Nat→List Field→Nat→Bool
 | off,[],n=>Nat.beq off n
 | off,f::fs,n=>Nat.beq f.offset off&&zfk P (off+P.cellsOf f.type) fs n
def vz(r:TypeId→DataW H→Option (List D)):List Field→List (DataW H)→Option (List D)
 | [],[]=>some []
 | f::fs,p::ps=>(match r f.type p,vz r fs ps with | some a,some b=>some (a++b) | _,_=>none)
 | _,_=>none
def zel(r:DataW H→Option (List D)):List (DataW H)→Option (List D)
 | []=>some []
 | p::ps=>(match r p,zel r ps with | some a,some b=>some (a++b) | _,_=>none)
def elemOf(agg:Bool)(cs:List D):D:=bif agg then .agg cs else cs.headD .nilIface
def zbm(agg:Bool)(r:DataW H→Option (List D)):List (DataW H)→Option (List D)
 | []=>some []
 | p::ps=>(match r p,zbm agg r ps with | some a,some b=>some (elemOf agg a::b) | _,_=>none)
def xh(P:Program):Nat→TypeId→DataW H→Option (List D)
 | 0,_,_=>none
 | n+1,t,d=>
  match P.underlying t,d with
  | some .bool,.lit (.bool b)=>some [.bool b]
  | some (.int k),.lit (.int _ z)=>some [.int k z]
  | some .string,.lit (.string s)=>some [.str s]
  | some (.pointer _),.nil=>some [.nilptr]
  | some (.slice e),.nil=>some [.sl (P.cellsOf e) []]
  | some (.slice e),.slice els _=>bif Nat.beq (P.cellsOf e) 0 then none else (zbm (x6 P e) (xh P n e) els).map λ l=>[.sl (P.cellsOf e) l]
  | some (.struct fs),.agg ps=>bif zfk P 0 fs.toList (P.cellsOf t) then vz (xh P n) fs.toList ps else none
  | some (.array m e),.agg ps=>bif Nat.beq ps.length m&&Nat.beq (m * P.cellsOf e) (P.cellsOf t) then zel (xh P n e) ps else none
  | _,_=>none
variable {enc:TypeId×Value→H} {P:Program} {w:World} {base:Nat} {spare:Nat→Bool} {held:Bool}
theorem RDs.append{own:Own}{vs ws:List Value}{l k:List D}(h:RDs w own vs l)(h':RDs w own ws k):RDs w own (vs++ws) (l++k):=by
 refine ⟨by simp [h.1,h'.1],λ i x y hx hy=>?_⟩
 by_cases hi:i<vs.length
 ·rw [List.getElem?_append_left hi] at hx;rw [List.getElem?_append_left (by rw [←h.1]; exact hi)] at hy
  exact h.2 i x y hx hy
 ·rw [List.getElem?_append_right (by omega)] at hx
  rw [List.getElem?_append_right (by rw [←h.1]; omega)] at hy
  rw [←h.1] at hy;exact h'.2 _ x y hx hy
theorem RDs.one{own:Own}{v:Value}{d:D}(h:RD w own v d):RDs w own [v] [d]:=⟨rfl,λ i x y hx hy=>by
 cases i with
 | zero=>simp at hx hy; subst hx; subst hy; exact h
 | succ i=>simp at hx⟩
theorem z0m{n:Nat}{t:TypeId}{d:DataW H}{ds:List D}(ha:x6 P t=false)(h:xh P n t d=some ds):∃ y,ds=[y]∧y.cells=[y]:=by
 cases n with
 | zero=>cases h
 | succ n=>
  unfold x6 at ha;simp only [xh] at h;split at h <;> first | (cases h; exact ⟨_,rfl,rfl⟩) | skip
  ·cases hb:Nat.beq (P.cellsOf _) 0 <;> rw [hb] at h
   ·obtain ⟨l,_,rfl⟩:=Option.map_eq_some_iff.1 h;exact ⟨_,rfl,rfl⟩
   ·cases h
  ·rename_i hu; rw [hu] at ha; cases ha
  ·rename_i hu; rw [hu] at ha; cases ha
  ·cases h
theorem zhx{n:Nat}{m:Nat}{cs:List Value}(hp:∀ {t cs x ds},DataW.trod enc P w base spare held m t cs=some x→xh P n t x.1=some ds→RDs w noOwn cs ds∧∀ c∈cs,c.oneCell'=true) :
  ∀ (fs:List Field) (xs:List (DataW H×List MemPlace)) (off:Nat) (ds:List D),xs.length=fs.length→off≤cs.length→zfk P off fs cs.length=true →
   (∀ (i:Nat) f,fs[i]?=some f→DataW.trod enc P w base spare held m f.type ((cs.drop f.offset).take (P.cellsOf f.type))=xs[i]?) →
   vz (xh P n) fs (xs.map (·.1))=some ds→RDs w noOwn (cs.drop off) ds∧∀ c∈cs.drop off,c.oneCell'=true
 | [],xs,off,ds,hl,hle,ho,_,h=>by
  obtain rfl:=List.eq_nil_of_length_eq_zero hl;simp only [List.map_nil,vz] at h;cases h;have:off=cs.length:=pg ho;rw [List.drop_eq_nil_of_le (by omega)]
  exact ⟨⟨rfl,by simp⟩,by simp⟩
 | f::fs,xs,off,ds,hl,hle,ho,ht,h=>by
  match xs,hl with
  | x::xs,hl=>
   simp only [List.map_cons,vz] at h;split at h
   ·rename_i a b h1 h2;cases h;simp only [zfk,ph] at ho;obtain ⟨ho1,ho2⟩:=ho;have ho1:=pg ho1;have hx:=ht 0 f rfl;simp only [List.getElem?_cons_zero] at hx;rw [ho1] at hx;obtain ⟨g1,g2⟩:=hp hx h1;have hle2:off+P.cellsOf f.type≤cs.length:=by
     -- the offsets rise to the end
     have key:∀ (l:List Field) (o:Nat),zfk P o l cs.length=true→o≤cs.length:=by
      intro l
      induction l with
      | nil=>intro o ho; exact Nat.le_of_eq (pg ho)
      | cons f l ih=>
       intro o ho;simp only [zfk,ph] at ho;have:=ih _ ho.2;omega
     exact key fs _ ho2
    obtain ⟨k1,k2⟩:=zhx hp fs xs _ b (by simpa using hl) hle2 ho2 (λ i f' hf'=>by simpa using ht (i+1) f' (by simpa using hf')) h2
    have hsplit:cs.drop off=(cs.drop off).take (P.cellsOf f.type)++cs.drop (off+P.cellsOf f.type):=by
     rw [←List.drop_drop,List.take_append_drop]
    rw [hsplit];exact ⟨g1.append k1,λ c hc=>(List.mem_append.1 hc).elim (g2 c) (k2 c)⟩
   ·cases h
theorem zi8{n m:Nat}{e:TypeId}{cs:List Value}(hp:∀ {t cs x ds},DataW.trod enc P w base spare held m t cs=some x→xh P n t x.1=some ds→RDs w noOwn cs ds∧∀ c∈cs,c.oneCell'=true) :
  ∀ (xs:List (DataW H×List MemPlace)) (k:Nat) (ds:List D),(k+xs.length) * P.cellsOf e=cs.length →
   (∀ (i:Nat),i<xs.length→DataW.trod enc P w base spare held m e ((cs.drop ((k+i) * P.cellsOf e)).take (P.cellsOf e))=xs[i]?) →
   zel (xh P n e) (xs.map (·.1))=some ds→RDs w noOwn (cs.drop (k * P.cellsOf e)) ds∧∀ c∈cs.drop (k * P.cellsOf e),c.oneCell'=true
 | [],k,ds,hl,_,h=>by
  simp only [List.map_nil,zel] at h;cases h;rw [List.drop_eq_nil_of_le (by simp at hl; omega)]
  exact ⟨⟨rfl,by simp⟩,by simp⟩
 | x::xs,k,ds,hl,ht,h=>by
  simp only [List.map_cons,zel] at h;split at h
  ·rename_i a b h1 h2;cases h;have hx:=ht 0 (by simp)
   simp only [List.getElem?_cons_zero,Nat.add_zero] at hx;obtain ⟨g1,g2⟩:=hp hx h1;obtain ⟨k1,k2⟩:=zi8 hp xs (k+1) b (by rw [←hl]; congr 1; simp; omega) (λ i hi=>by
    have:=ht (i+1) (by simpa using hi)
    rw [show k+1+i=k+(i+1) by omega]
    simpa using this) h2
   have hsplit:cs.drop (k * P.cellsOf e)=(cs.drop (k * P.cellsOf e)).take (P.cellsOf e)++cs.drop ((k+1) * P.cellsOf e):=by
    rw [Nat.succ_mul,←List.drop_drop,List.take_append_drop]
   rw [hsplit];exact ⟨g1.append k1,λ c hc=>(List.mem_append.1 hc).elim (g2 c) (k2 c)⟩
  ·cases h
theorem zi9{agg:Bool}{r:DataW H→Option (List D)}:∀ {ps:List (DataW H)} {l:List D},zbm agg r ps=some l→l.length=ps.length∧∀ (i:Nat) p y,ps[i]?=some p→l[i]?=some y→∃ ds,r p=some ds∧y=elemOf agg ds
 | [],l,h=>by simp only [zbm] at h; cases h; simp
 | p::ps,l,h=>by
  simp only [zbm] at h;split at h
  ·rename_i a b h1 h2;cases h;obtain ⟨g1,g2⟩:=zi9 h2;refine ⟨by simp [g1],λ i q y hq hy=>?_⟩
   cases i with
   | zero=>simp at hq hy; subst hq; subst hy; exact ⟨a,h1,rfl⟩
   | succ i=>exact g2 i q y (by simpa using hq) (by simpa using hy)
  ·cases h
theorem trod_rd:∀ (n m:Nat) (t:TypeId) (cs:List Value) (x:DataW H×List MemPlace) (ds:List D),DataW.trod enc P w base spare held m t cs=some x→xh P n t x.1=some ds →
  RDs w noOwn cs ds∧∀ c∈cs,c.oneCell'=true:=by
 intro n
 induction n with
 | zero=>intro m t cs x ds _ h; cases h
 | succ n ih=>
  intro m t cs x ds hx h;obtain ⟨d,pl⟩:=x;simp only [xh] at h;split at h
  ·rename_i b hu;obtain ⟨b',h1,h2⟩:=DataW.trod_bool hu hx;subst h1; cases h2; cases h;exact ⟨RDs.one (.bool _),by simp [Value.oneCell']⟩
  ·rename_i k k' z hu;obtain ⟨z',h1,h2,_⟩:=DataW.trod_int hu hx;subst h1; cases h2; cases h;exact ⟨RDs.one (.int _ _),by simp [Value.oneCell']⟩
  ·rename_i s hu;obtain ⟨s',h1,h2,_⟩:=DataW.trod_string hu hx;subst h1; cases h2; cases h;refine ⟨RDs.one ?_,by simp [Value.oneCell']⟩
   have:s'=xl s'.data.toList:=by simp [xl]
   conv=>arg 3; rw [this]
   exact .str _
  ·rename_i e hu;rcases DataW.trod_pointer hu hx with ⟨h1,h2⟩ | ⟨a,cs',y,n',_,h1,h2,_⟩
   ·subst h1; cases h;exact ⟨RDs.one .nilptr,by simp [Value.oneCell']⟩
   ·cases h2
  ·rename_i e hu;rcases DataW.trod_slice hu hx with ⟨h1,h2⟩ | ⟨a,len,cap,elems,rest,n',_,h1,h2,_⟩
   ·subst h1; cases h;exact ⟨RDs.one (.sl0 none 0 _),by simp [Value.oneCell']⟩
   ·cases h2
  ·rename_i e els sp hu;cases hb:Nat.beq (P.cellsOf e) 0 <;> rw [hb] at h
   ·rw [cond_false] at h;obtain ⟨l,hl,rfl⟩:=Option.map_eq_some_iff.1 h;rcases DataW.trod_slice hu hx with ⟨h1,h2⟩ | ⟨a,len,cap,elems,rest,n',_,h1,h2,hba,hle,_,hlen,hel,_⟩
    ·cases h2
    ·subst h1;simp only [Prod.mk.injEq,DataW.slice.injEq] at h2;obtain ⟨⟨rfl,rfl⟩,_⟩:=h2;have hc0:P.cellsOf e ≠ 0:=λ e0=>by rw [e0] at hb; cases hb
     refine ⟨RDs.one ?_,by simp [Value.oneCell']⟩
     obtain ⟨hl1,hl2⟩:=zi9 hl;simp only [pf,hlen] at hl1;by_cases h0:len=0
     ·subst h0;obtain rfl:=List.eq_nil_of_length_eq_zero hl1;exact .sl0 (some a) cap _
     ·have hpos:0<P.cellsOf e:=by omega
      have hcells:∀ i,i<len→∃ cs' y,w.cells? base (a.add (i * P.cellsOf e)) (P.cellsOf e)=some cs'∧DataW.trod enc P w base spare held n' e cs'=some y∧elems[i]?=some y:=by
       intro i hi;have h1:=hel i hi;obtain ⟨y,hy⟩:=y0 (l:=elems) (i:=i) (by omega)
       rw [hy] at h1;obtain ⟨cs',h2,h3⟩:=Option.bind_eq_some_iff.1 h1;exact ⟨cs',y,h2,h3,hy⟩
      have hspot:a.spot=none:=by
       obtain ⟨cs',y,h1,_,_⟩:=hcells 0 (by omega)
       obtain ⟨_,h2,h3⟩:=World.cells?_some h1;have h4:=h3 0 hpos;obtain ⟨c,hc⟩:=y0 (l:=cs') (i:=0) (by omega)
       rw [hc] at h4;have h5:=World.cell?_spot h4;simpa [Addr.add] using h5
      obtain ⟨b,o,spot⟩:=a;simp only at hspot;subst hspot;have hadd:∀ i,(⟨b,o,none⟩:Addr).add i=⟨b,o+i,none⟩:=λ i=>by
       unfold Addr.add;split
       ·rename_i h; subst h; rfl
       ·rfl
      have helem:∀ i y,l[i]?=some y→∃ cs' ds',i<len∧cs'.length=P.cellsOf e∧(∀ j,j<P.cellsOf e→w.cell? ⟨b,o+(i * P.cellsOf e+j),none⟩=cs'[j]?)∧RDs w noOwn cs' ds'∧(∀ c∈cs',c.oneCell'=true)∧y.cells=ds':=by
       intro i y hy;have hi:i<len:=by have:=(pj.1 hy).1; omega
       obtain ⟨cs',z,h1,h2,h3⟩:=hcells i hi;obtain ⟨ds',h4,h5⟩:=hl2 i z.1 y (by simp [h3]) hy
       obtain ⟨_,h6,h7⟩:=World.cells?_some h1;obtain ⟨h8,h9⟩:=ih n' e cs' z ds' h2 h4;refine ⟨cs',ds',hi,h6,λ j hj=>?_,h8,h9,?_⟩
       ·have:=h7 j hj;rw [hadd,show (⟨b,o+i * P.cellsOf e,none⟩:Addr).add j=⟨b,o+i * P.cellsOf e+j,none⟩ by
         unfold Addr.add;split
         ·rename_i h; subst h; rfl
         ·rfl] at this
        rw [←Nat.add_assoc];exact this
       ·rw [h5];cases ha:x6 P e
        ·obtain ⟨y',h10,h11⟩:=z0m ha h4;rw [h10];exact h11
        ·rfl
      refine .sl b o len cap (P.cellsOf e) l (λ k=>(w.cell? ⟨b,o+k,none⟩).getD undef) hl1.symm hle (λ y hy=>?_) (λ k hk=>?_) (λ i j y c hy hc=>?_)
      ·obtain ⟨i,hi⟩:=List.getElem?_of_mem hy;obtain ⟨cs',ds',_,h2,_,h4,_,h6⟩:=helem i y hi;rw [h6,←h4.1,h2]
      ·have hi:k / P.cellsOf e<len:=Nat.div_lt_of_lt_mul (by rw [Nat.mul_comm]; exact hk)
       obtain ⟨y,hy⟩:=y0 (l:=l) (i:=k / P.cellsOf e) (by omega)
       obtain ⟨cs',ds',_,h2,h3,h4,h5,h6⟩:=helem _ y hy;have hj:k % P.cellsOf e<P.cellsOf e:=Nat.mod_lt _ hpos;have hk':k / P.cellsOf e * P.cellsOf e+k % P.cellsOf e=k:=by rw [Nat.mul_comm]; exact Nat.div_add_mod k _
       have h7:=h3 _ hj;rw [hk'] at h7;obtain ⟨c,hc⟩:=y0 (l:=cs') (i:=k % P.cellsOf e) (by omega)
       rw [hc] at h7;refine ⟨by rw [h7]; rfl,λ h=>h,?_⟩
       rw [h7];exact h5 c (po hc)
      ·obtain ⟨cs',ds',_,h2,h3,h4,h5,h6⟩:=helem i y hy;have hj:j<P.cellsOf e:=by
        have:=(pj.1 hc).1;rw [h6,←h4.1,h2] at this;exact this
       have h7:=h3 j hj;obtain ⟨c',hc'⟩:=y0 (l:=cs') (i:=j) (by omega)
       rw [hc'] at h7;rw [h7];exact h4.2 j c' c hc' (h6 ▸ hc)
   ·cases h
  ·rename_i fs ps hu;cases hb:zfk P 0 fs.toList (P.cellsOf t) <;> rw [hb] at h
   ·cases h
   ·rw [cond_true] at h;obtain ⟨xs,n',_,h2,hlen,hxs,hf⟩:=DataW.trod_struct hu hx;cases h2;have:=zhx (n:=n) (m:=n') (cs:=cs) (λ {t cs x ds} h1 h2=>ih n' t cs x ds h1 h2) fs.toList xs 0 ds (by simpa using hxs) (by simp) (by rw [hlen]; exact hb) (λ i f hfi=>hf i f (by simpa using hfi)) h
    simpa using this
  ·rename_i k e ps hu;cases hb:(Nat.beq ps.length k&&Nat.beq (k * P.cellsOf e) (P.cellsOf t)) <;> rw [hb] at h
   ·cases h
   ·rw [cond_true] at h;rw [ph] at hb;obtain ⟨xs,n',hcs,h2,hlen,hxs,hf⟩:=DataW.trod_array hu hx;cases h2
    have:=zi8 (n:=n) (m:=n') (e:=e) (cs:=cs) (λ {t cs x ds} h1 h2=>ih n' t cs x ds h1 h2) xs 0 ds
     (by rw [Nat.zero_add,hlen,hxs]; exact pg hb.2) (λ i hi=>by rw [Nat.zero_add]; exact hf i (hxs ▸ hi)) h
    simpa using this
  ·cases h
end
section
variable {cx:Cx} {W W':World}
def mu0:Mu:=⟨λ _=>{ blk:=none },noOwn⟩
theorem ya9:zr [] mu0=noOwn:=by
 funext b i;apply propext;constructor
 ·rintro (h | ⟨id,o,h,_⟩)
  ·exact h
  ·cases h
 ·exact λ h=>h.elim
def zvo(P:Program)(glob:Nat→Option D)(laid:List (String×DataW Unit)):Prop:=
 ∀ g x,glob g=some x→∃ n d,(n,d)∈laid∧P.globalNamed n=some g∧(((P.globals[g]?).map (·.type)).bind λ t=>xh P 20 t d)=some x.cells
theorem zm1{P:Program}{w:World}:∀ {laid:List (String×DataW Unit)} {ps:List MemPlace},DataW.LaidVars P w laid ps→∀ n d,(n,d)∈laid→∀ g t ds,P.globalNamed n=some g→(P.globals[g]?).map (·.type)=some t →
  xh P 20 t d=some ds→∃ cs:Array Value,(∀ i,w.cell? ⟨g,i,none⟩=cs[i]?)∧RDs w noOwn cs.toList ds∧∀ c∈cs.toList,c.oneCell'=true
 | [],ps,_,n,d,hm,_,_,_,_,_,_=>by cases hm
 | (n₀,d₀)::laid,ps,h,n,d,hm,g,t,ds,hg,ht,hp=>by
  obtain ⟨g',t',cs,fuel,p,q,h1,h2,h3,h4,h5,_⟩:=h;rcases List.mem_cons.1 hm with he | hm
  ·cases he;rw [hg] at h1; cases h1;rw [ht] at h2; cases h2;obtain ⟨k1,k2⟩:=trod_rd 20 _ _ _ _ _ h4 hp;exact ⟨cs,World.var?_cell hg h3,k1,k2⟩
  ·exact zm1 h5 n d hm g t ds hg ht hp
theorem inv0{laid:List (String×DataW Unit)}(hplain:(laid.all λ x=>x.2.handleName?.isNone)=true)(hs:zvo cx.P cx.glob laid)(hL:laidMetH cx.P laid W):Inv cx W [] mu0:=by
 rw [MakeChecks.laidMetH_plain _ _ _ hplain] at hL;obtain ⟨ps,hv,_⟩:=hL;refine ⟨λ id o h=>(by cases h),λ id id' o o' b i h=>(by cases h),?_,λ id o b i h=>(by cases h),λ b i (h:False)=>h.elim,λ r es clock i _ (h:False)=>h.elim⟩
 intro g x hg;rw [ya9];obtain ⟨n,d,h1,h2,h34⟩:=hs g x hg;obtain ⟨t,h3,h4⟩:=Option.bind_eq_some_iff.1 h34;obtain ⟨cs,hc,hr,ho⟩:=zm1 hv n d h1 g t _ h2 h3 h4;have hlen:cs.size=x.cells.length:=by simpa using hr.1
 refine ⟨λ j=>cs.getD j undef,λ j hj=>?_,λ j c hjc=>?_⟩
 ·have hlt:j<cs.size:=by omega
  have e:cs.getD j undef=cs[j]:=by simp [Array.getD_eq_getD_getElem?,hlt]
  rw [hc];simp only [e];exact ⟨by simp [hlt],λ h=>h,ho _ (by simp)⟩
 ·have hlt:j<cs.size:=by have:=(pj.1 hjc).1; omega
  have e:cs.getD j undef=cs[j]:=by simp [Array.getD_eq_getD_getElem?,hlt]
  simp only [e];exact hr.2 j _ c (by simp [hlt]) hjc
theorem kept_but(h:Kept W noOwn W'):W.keptBut W' (λ _=>False):=by
 refine ⟨h.os,h.output,λ i hi=>?_⟩;rw [h.blk i hi λ _ h=>h];cases hw:W.heap[i]? with
 | none=>rfl
 | some o=>cases o <;> first | exact ⟨rfl,rfl,rfl,λ _ _=>rfl⟩ | exact .inr ⟨rfl,rfl⟩ | rfl
theorem law_callsN{f n:Nat}{ds:List D}{args:List Value}{x:D}(hnat:zai cx cx.nat)(hn:xe cx.P)(hmix:cx.P.follows .mixedOrders=true)(hi:Inv cx W [] mu0)(hargs:RDs W noOwn args ds)
  (h:vg cx n f (ds.map .d) []=some (.ret (.d x),[])):Calls cx.P f args.toArray W λ e W'=>∃ v,e=.returned v∧RD W' noOwn v x∧Kept W noOwn W':=by
 have hv:RVs W [] mu0 args (ds.map .d):=by
  refine ⟨by simpa using hargs.1,λ i v y hx hy=>?_⟩
  rw [List.getElem?_map,Option.map_eq_some_iff] at hy;obtain ⟨d,hd,rfl⟩:=hy;refine .d _ _ ?_;rw [ya9];exact hargs.2 i v d hx hd
 have hids:∀ i∈V.idsL (ds.map .d),i<([]:St).length:=by
  intro i hi;have:V.idsL (ds.map .d)=[]:=by
   clear h hv hargs hi
   induction ds with
   | nil=>rfl
   | cons d ds ih=>simp [V.idsL,V.ids,ih]
  rw [this] at hi; cases hi
 obtain ⟨_,_,_,hc⟩:=(z4f hn hmix hnat n).2 f _ [] _ _ h W mu0 args hi (λ k o h=>(by cases h)) hids (λ k hk=>(by cases hk)) hv
 refine hc.mono λ e W' ⟨μ',haf,hm⟩=>?_;cases e with
 | returned v=>
  have hm:RV W' [] μ' v (.d x):=hm;have hfr:zr [] μ'=noOwn:=by
   funext b i;apply propext;constructor
   ·rintro (h | ⟨id,o,h,_⟩)
    ·rw [haf.fr] at h; exact h
    ·cases h
   ·exact λ h=>h.elim
  refine ⟨v,rfl,?_,?_⟩
  ·cases hm with | d _ _ hd=>rw [hfr] at hd; exact hd
  ·have hk:=haf.goes.kept;have hmine:Mine [] mu0=noOwn:=by
    funext b i;apply propext;constructor
    ·rintro ⟨id,o,h,_⟩; cases h
    ·exact λ h=>h.elim
   rw [hmine] at hk;exact hk
 | panicked chain=>exact hm.elim
 | outgrown=>exact hm.elim
end
section
variable {R:Type} {cx:Cx}
def knows(cx:Cx)(call call':yz):Prop:=∀ f args σ r,cx.dom f args=true→call f args σ=some r→call' f args σ=some r
theorem zhc{call call':yz}(hk:knows cx call call'){σ:St}{t f:Nat}{args:List V}{xs:List Nat}{K:Oc→De→List Nat→Option R}{r:R}(h:qt cx call σ t f args xs K=some r):qt cx call' σ t f args xs K=some r:=by
 unfold qt at h ⊢;simp only at h ⊢;obtain ⟨hc,h⟩:=ze h;obtain ⟨hd,h⟩:=ze h;rw [hc,hd];simp only [zb,cond_true];cases hq:call f (V.renL (xu (reach σ 1000 (V.idsL args++xs) [])) args) (xr σ (reach σ 1000 (V.idsL args++xs) []) 0 (reach σ 1000 (V.idsL args++xs) [])) with
 | none=>rw [hq] at h; cases h
 | some p=>rw [hq] at h; rw [hk _ _ _ _ hd hq]; exact h
theorem zsf{call call':yz}(hk:knows cx call call'){m nt:Nat}{o:Oper}{fr:Fr}{σ:St}{p:Tri}(h:zbo cx m nt call o fr σ=some p):zbo cx m nt call' o fr σ=some p:=by
 unfold zbo at h ⊢;obtain ⟨dst,op,type,pos,after,guard⟩:=o;cases op
 case makeFunc fn first caps=>cases fn <;> exact h
 case makeMap t r=>cases r <;> exact h
 case call c=>
  obtain ⟨callee,cargs,ctypes⟩:=c;cases callee with
  | value f=>
   simp only [wa] at h ⊢;obtain ⟨v,hv,h⟩:=zd h;simp only [hv,zc];split at h
   ·obtain ⟨l,hl,h⟩:=zd h;simp only [hl];exact zhc hk h
   ·cases hgr:(cx.grow _).isSome <;> rw [hgr] at h <;> simp only [cond_true,cond_false] at h ⊢
    rotate_left
    ·exact h
    cases hsm:(zh5 cx.P _&&List.isEmpty _) <;> rw [hsm] at h <;> simp only [cond_true,cond_false] at h ⊢
    rotate_left
    ·obtain ⟨l,hl,h⟩:=zd h;simp only [hl];exact h
    cases hgv:cx.gives _ <;> rw [hgv] at h
    ·cases hnil:(cx.keep _&&zjq cargs.toList) <;> rw [hnil] at h
     ·obtain ⟨l,hl,h⟩:=zd h;simp only [hl,cond_false];exact zhc hk h
     ·obtain ⟨l,hl,h⟩:=zd h;obtain ⟨hc,h⟩:=ze h;simp only [hl,cond_true,cond_false,hc,zb];exact zhc hk h
    ·obtain ⟨l,hl,h⟩:=zd h;obtain ⟨hc,h⟩:=ze h;simp only [hl,cond_true,hc,zb];exact zhc hk h
   ·cases h
  | invoke r nm=>exact h
  | builtin b=>cases b <;> exact h
 all_goals exact h
theorem zm5{ops:List Oper}{o:Oper}{fr:Fr}{yes no yes' no':Fr→Option R}{r:R}(hy:∀ fr,yes fr=some r→yes' fr=some r)(hn:∀ fr,no fr=some r→no' fr=some r)
  (h:zds ops o fr yes no=some r):zds ops o fr yes' no'=some r:=by
 unfold zds at h ⊢;split at h
 ·exact hy _ h
 ·split at h
  ·exact hn _ h
  ·split at h
   ·have key:∀ (b want:Bool) (p q:Fr),(bif b then (bif want then yes p else no p) else (bif want then no q else yes q))=some r→(bif b then (bif want then yes' p else no' p) else (bif want then no' q else yes' q))=some r:=by
     intro b want p q h;cases b <;> cases want <;> first | exact hy _ h | exact hn _ h
    exact key _ _ _ _ h
   ·exact hn _ h
   ·cases h
theorem zb1{call call':yz}(hk:knows cx call call'){m nt:Nat}{ops:List Oper}{K K':Ex→Fr→St→Option R}{r:R}(hK:∀ e fr σ,K e fr σ=some r→K' e fr σ=some r) :
  ∀ (l:List Oper) (fr:Fr) (σ:St),zcu cx m nt call ops l fr σ K=some r→zcu cx m nt call' ops l fr σ K'=some r
 | [],fr,σ,h=>hK _ _ _ h
 | o::l,fr,σ,h=>by
  unfold zcu at h ⊢;obtain ⟨hd,h⟩:=ze h;rw [hd];simp only [zb,cond_true];refine zm5 (λ fr h=>?_) (λ fr h=>zb1 hk hK l _ _ h) h;obtain ⟨p,hp,h⟩:=zd h;simp only [zsf hk hp,zc];obtain ⟨oc,δ,fp⟩:=p;cases oc with
  | val v=>exact zb1 hk hK l _ _ h
  | pan v=>exact hK _ _ _ h
theorem zb7{call call':yz}(hk:knows cx call call'){m nt:Nat}{ops:List Oper}{pre:List Nat}{K K':Ex→Fr→St→Option R}{r:R}(hK:∀ e fr σ,K e fr σ=some r→K' e fr σ=some r) :
  ∀ (l:List Oper) (i:Nat) (log:List Log) (dead:Option (Nat×V)) (fr:Fr) (σ:St),vt cx m nt call ops pre i l log dead fr σ K=some r→vt cx m nt call' ops pre i l log dead fr σ K'=some r
 | [],i,log,none,fr,σ,h=>by simp only [vt] at h ⊢; exact hK _ _ _ h
 | [],i,log,some (k,v),fr,σ,h=>by
  simp only [vt] at h ⊢;obtain ⟨hc,h⟩:=ze h;rw [hc];exact hK _ _ _ h
 | o::l,i,log,dead,fr,σ,h=>by
  simp only [vt] at h ⊢;cases hd:zlb pre i dead
  ·rw [hd,cond_false] at h;rw [cond_false];obtain ⟨hc,h⟩:=ze h;rw [hc];simp only [zb,cond_true];refine zm5 (λ fr h=>?_) (λ fr h=>zb7 hk hK l _ _ _ _ _ h) h;obtain ⟨p,hp,h⟩:=zd h;obtain ⟨hm,h⟩:=ze h;simp only [zsf hk hp,zc];simp only [hm,cond_true];obtain ⟨oc,δ,fp⟩:=p;cases oc with
   | val v=>exact zb7 hk hK l _ _ _ _ _ h
   | pan v=>
    cases dead with
    | none=>exact zb7 hk hK l _ _ _ _ _ h
    | some q=>exact h
  ·rw [hd,cond_true] at h;rw [cond_true];exact zb7 hk hK l _ _ _ _ _ h
theorem zoa{nt:Nat}{σ:St}{fr:Fr}{q:Pend}{K K':Fr→St→Option R}{r:R}(hK:∀ fr σ,K fr σ=some r→K' fr σ=some r)(h:zhz cx nt σ fr q K=some r):zhz cx nt σ fr q K'=some r:=by
 unfold zhz at h ⊢;obtain ⟨hc,h⟩:=ze h;rw [hc];simp only [zb,cond_true];split at h
 case h_2=>cases h
 obtain ⟨hc,h⟩:=ze h;simp only [hc,cond_true];obtain ⟨s,hs,h⟩:=zd h;obtain ⟨pl,hpl,h⟩:=zd h;obtain ⟨jv,hjv,h⟩:=zd h;obtain ⟨v,hv,h⟩:=zd h;obtain ⟨y,hy,h⟩:=zd h;simp only [hs,hpl,hjv,hv,hy,zc];split at h
 case h_2=>cases h
 split at h
 case h_2=>cases h
 obtain ⟨hc,h⟩:=ze h;simp only [*,cond_true];obtain ⟨sz',ps,hd,h9⟩:=zg6 h;obtain ⟨hc',h10⟩:=ze h9;unfold dataOf at hd ⊢;split at hd <;> first | (cases hd; done) | skip
 all_goals (cases hd; simp only [hc',cond_true]; exact hK _ _ h10)
theorem zv2{nt:Nat}{ops:List Oper}{k:Nat}{fr:Fr}{σ:St}{K K':List Oper→Fr→St→Option R}{r:R}(hK:∀ l fr σ,K l fr σ=some r→K' l fr σ=some r)(h:zfr cx nt ops k fr σ K=some r):zfr cx nt ops k fr σ K'=some r:=by
 unfold zfr at h ⊢;split at h
 case h_2=>cases h
 obtain ⟨q,hq,h⟩:=zd h;simp only [hq,zc];exact zoa (λ fr σ h=>hK _ _ _ h) h
theorem zv0{nt:Nat}{ops:List Oper}{k:Nat}{fr:Fr}{σ:St}{K K':Fr→St→Option R}{r:R}(hK:∀ fr σ,K fr σ=some r→K' fr σ=some r)(h:zfq cx nt ops k fr σ K=some r):zfq cx nt ops k fr σ K'=some r:=by
 unfold zfq at h ⊢;split at h
 case h_2=>cases h
 obtain ⟨q,hq,h⟩:=zd h;simp only [hq,zc];refine zoa (λ fr σ h=>?_) h;split at h
 case h_2=>cases h
 obtain ⟨hc,h⟩:=ze h;obtain ⟨pv,hpv,h⟩:=zd h;obtain ⟨v,hv,h⟩:=zd h;simp only [hc,hpv,hv,zc,cond_true,zb];split at h
 case h_2=>cases h
 split at h
 case h_2=>cases h
 rename_i hido;obtain ⟨hc,h⟩:=ze h;simp only [hido,hc,cond_true];exact hK _ _ h
theorem zea{m f key:Nat}{fr:Fr}{σ:St}{K K':Fr→St→Option R}{r:R}(hK:∀ fr σ,K fr σ=some r→K' fr σ=some r)(h:tidy cx m f key fr σ K=some r):tidy cx m f key fr σ K'=some r:=by
 unfold tidy at h ⊢;simp only at h ⊢;obtain ⟨hc,h⟩:=ze h;rw [hc];exact hK _ _ h
theorem zb8{call call':yz}(hk:knows cx call call'){f m nt n n':Nat}(hn:n≤n'):∀ (c:Code) {K K':Ex→Fr→St→Option R} {r:R} {fr:Fr} {σ:St},
  (∀ e fr σ,K e fr σ=some r→K' e fr σ=some r)→yx cx f m nt call n c fr σ K=some r→yx cx f m nt call' n' c fr σ K'=some r:=by
 intro c
 induction c with
 | skip=>intro K K' r fr σ hK h; exact hK _ _ _ h
 | label l=>intro K K' r fr σ hK h; exact hK _ _ _ h
 | exit id=>intro K K' r fr σ hK h; exact hK _ _ _ h
 | goto l=>intro K K' r fr σ hK h; exact hK _ _ _ h
 | ret=>intro K K' r fr σ hK h; exact hK _ _ _ h
 | refuse why=>intro K K' r fr σ hK h; cases h
 | rangeFunc f params assign body _ _=>intro K K' r fr σ hK h; cases h
 | region id ops draw=>
  intro K K' r fr σ hK h;cases draw
  ·simp only [yx] at h ⊢;split at h
   ·exact zb1 hk hK _ _ _ h
   ·rename_i k hk';refine zb1 hk (λ e fr σ h=>?_) _ _ _ h;cases e with
    | normal=>exact zv2 (λ l fr σ h=>zb1 hk hK _ _ _ h) h
    | _=>exact hK _ _ _ h
  ·simp only [yx] at h ⊢;split at h
   ·obtain ⟨hc,h⟩:=ze h;rw [hc];exact zb7 hk hK _ _ _ _ _ _ h
   ·rename_i k hk';obtain ⟨hc1,h⟩:=ze h;obtain ⟨hc,h⟩:=ze h;rw [hc1,hc];refine zb7 hk (λ e fr σ h=>?_) _ _ _ _ _ _ h;cases e with
    | normal=>exact zv0 (λ fr σ h=>hK _ _ _ h) h
    | _=>exact hK _ _ _ h
 | seq x y ihx ihy=>
  intro K K' r fr σ hK h;refine ihx (λ e fr σ h=>?_) h;cases e with
  | normal=>exact ihy hK h
  | _=>exact hK _ _ _ h
 | cond c x y ihx ihy=>
  intro K K' r fr σ hK h;simp only [yx] at h ⊢;obtain ⟨v,hv,h⟩:=zd h;obtain ⟨b,rfl,h⟩:=zlf h;simp only [hv,zc,asB];cases b
  ·exact ihy hK h
  ·exact ihx hK h
 | block id c ih=>
  intro K K' r fr σ hK h;refine ih (λ e fr σ h=>?_) h;cases e with
  | normal=>exact zea (λ fr σ h=>hK _ _ _ h) h
  | exit i=>
   simp only at h ⊢;cases hb:Nat.beq i id <;> rw [hb] at h
   ·exact hK _ _ _ h
   ·exact zea (λ fr σ h=>hK _ _ _ h) h
  | _=>exact hK _ _ _ h
 | loop c ih=>
  intro K K' r fr σ hK h;simp only [yx] at h ⊢;refine zea (λ fr σ h=>?_) h
  have key:∀ (k k':Nat),k≤k'→∀ (fr:Fr) (σ:St),iter (yx cx f m nt call n c) (tidy cx m f (2 * yo c+1)) k fr σ K=some r →
    iter (yx cx f m nt call' n' c) (tidy cx m f (2 * yo c+1)) k' fr σ K'=some r:=by
   intro k
   induction k with
   | zero=>intro k' _ fr σ h; cases h
   | succ k ihk=>
    intro k' hle fr σ h;obtain ⟨k',rfl⟩:∃ j,k'=j+1:=⟨k' - 1,by omega⟩
    simp only [iter] at h ⊢;refine ih (λ e fr σ h=>?_) h;cases e with
    | normal=>exact zea (λ fr σ h=>ihk k' (by omega) _ _ h) h
    | _=>exact hK _ _ _ h
  exact key n n' hn fr σ h
 | scope c ih=>
  intro K K' r fr σ hK h;refine ih (λ e fr σ h=>?_) h;cases e with
  | goto l=>cases h
  | _=>exact hK _ _ _ h
theorem zo9(n f:Nat)(args:List V)(σ:St):vg cx (n+1) f args σ=zbh cx (vg cx n) n f args σ:=rfl
theorem zo7{call call':yz}(hk:knows cx call call'){f m nt n n':Nat}(hn:n≤n'):∀ (as:List Code) {K K':Ex→Fr→St→Option R} {r:R} {fr:Fr} {σ:St},
  (∀ e fr σ,K e fr σ=some r→K' e fr σ=some r)→zho cx f m nt call n as fr σ K=some r→zho cx f m nt call' n' as fr σ K'=some r
 | [],K,K',r,fr,σ,hK,h=>hK _ _ _ h
 | c::as,K,K',r,fr,σ,hK,h=>by
  simp only [zho] at h ⊢;refine zb8 hk hn c (λ e fr σ h=>?_) h;cases e with
  | normal=>exact zo7 hk hn as hK h
  | _=>exact hK _ _ _ h
theorem zxr{call call':yz}(hk:knows cx call call'){n n':Nat}(hn:n≤n'){g:Nat}{args:List V}{σ σ':St}{u:Option D}(h:zcm cx call n g args σ u=some σ'):zcm cx call' n' g args σ u=some σ':=by
 unfold zcm at h ⊢;split at h
 ·cases h
 ·rename_i fn hfn;split at h
  ·rename_i id ops c hb;split at h
   ·rename_i o r hops;obtain ⟨t,ht,h⟩:=zd h;obtain ⟨hc,h⟩:=ze h;simp only [hops,ht,zc,hc,zb,cond_true];rw [hops] at h;refine zb1 hk (λ e fr σ h=>?_) _ _ _ h;cases e with
    | normal=>exact zb8 hk hn c (λ _ _ _ h=>h) h
    | _=>cases h
   ·cases h
  ·cases h
theorem zjy{rec rec':Nat→List V→St→Option D→Option St}(hr:∀ g args σ u r,rec g args σ u=some r→rec' g args σ u=some r){σ:St}{g:Nat}{cap:List V}{u:Option D}{K:De→Option R}{r:R}
  (h:zia cx rec σ g cap u K=some r):zia cx rec' σ g cap u K=some r:=by
 unfold zia at h ⊢;simp only at h ⊢;obtain ⟨hc,h⟩:=ze h;rw [hc];simp only [zb,cond_true];cases hq:rec g (V.renL (xu (reach σ 1000 (V.idsL cap) [])) cap) (xr σ (reach σ 1000 (V.idsL cap) []) 0 (reach σ 1000 (V.idsL cap) [])) u with
 | none=>rw [hq] at h; cases h
 | some p=>rw [hq] at h; rw [hr _ _ _ _ _ hq]; exact h
theorem z1a{rec rec':Nat→List V→St→Option D→Option St}(hr:∀ g args σ u r,rec g args σ u=some r→rec' g args σ u=some r){f m:Nat}{res:List ResultVar}{g:Nat}{cap:List V}{e:Ex}{fr:Fr}{σ:St}{r:Out×St}
  (h:zqw cx rec f m res g cap e fr σ=some r):zqw cx rec' f m res g cap e fr σ=some r:=by
 unfold zqw at h ⊢;split at h
 ·exact zjy hr h
 ·exact zjy hr h
 ·exact zjy hr h
 ·cases h
theorem zxu{call call':yz}(hk:knows cx call call'){f m nt n n':Nat}(hn:n≤n'){res:List ResultVar}{c:Code}{fr:Fr}{σ:St}{r:Out×St}
  (h:zh8 cx f m nt res call n c fr σ=some r):zh8 cx f m nt res call' n' c fr σ=some r:=by
 unfold zh8 at h ⊢;split at h
 ·cases h
 ·rename_i as id ops t b hsp;refine zo7 hk hn as (λ e fr σ h=>?_) h;cases e with
  | normal=>
   refine zb1 hk (λ e fr σ h=>?_) _ _ _ h;cases e with
   | normal=>
    simp only at h ⊢;obtain ⟨fv,hfv,h⟩:=zd h;simp only [hfv,zc];split at h
    ·obtain ⟨ht,h⟩:=ze h;simp only [ht,zb,cond_true];exact zb8 hk hn b (λ e fr σ h=>z1a (λ _ _ _ _ _ h=>zxr hk hn h) h) h
    ·cases h
   | _=>exact h
  | _=>exact h
theorem zm7{call call':yz}(hk:knows cx call call'){n n':Nat}(hn:n≤n'):∀ f args σ r,zbh cx call n f args σ=some r→zbh cx call' n' f args σ=some r:=by
 intro f args σ r h;unfold zbh at h ⊢;split at h
 ·exact h
 split at h
 ·cases h
 ·rename_i fn hfn;split at h
  ·cases h
  ·rename_i c hc;cases hd:cx.dfr f <;> rw [hd] at h
   ·exact zb8 hk hn c (λ _ _ _ h=>h) h
   ·exact zxu hk hn h
theorem zg0:∀ (n n':Nat),n≤n'→∀ f args σ r,vg cx n f args σ=some r→vg cx n' f args σ=some r
 | 0,_,_=>λ f args σ r h=>by cases h
 | n+1,0,h=>absurd h (by omega)
 | n+1,n'+1,h=>λ f args σ r hr=>by
  rw [zo9] at hr ⊢;exact zm7 (λ f args σ r _ h=>zg0 n n' (by omega) f args σ r h) (by omega) f args σ r hr
end
section
variable {R:Type} {cx:Cx}
def zh(cx:Cx):yz:=λ f args σ=>
 open Classical in if h:∃ r n,vg cx n f args σ=some r then some h.choose else none
theorem lim_ex{f:Nat}{args:List V}{σ:St}{r:Out×St}(h:zh cx f args σ=some r):∃ n,vg cx n f args σ=some r:=by
 unfold zh at h;split at h
 ·rename_i hex;obtain ⟨n,hn⟩:=hex.choose_spec;cases h;exact ⟨n,hn⟩
 ·cases h
theorem zh4{f n:Nat}{args:List V}{σ:St}{r:Out×St}(h:vg cx n f args σ=some r):zh cx f args σ=some r:=by
 unfold zh;have hex:∃ r n,vg cx n f args σ=some r:=⟨r,n,h⟩;rw [dif_pos hex];obtain ⟨k,hk⟩:=hex.choose_spec;have h1:=zg0 n (max n k) (Nat.le_max_left _ _) f args σ _ h;have h2:=zg0 k (max n k) (Nat.le_max_right _ _) f args σ _ hk;rw [h1] at h2;exact h2.symm
def Ev(P:Nat→Prop):Prop:=∃ n₀,∀ n,n₀≤n→P n
theorem Ev.mono{P Q:Nat→Prop}(h:Ev P)(hpq:∀ n,P n→Q n):Ev Q:=let ⟨a,ha⟩:=h; ⟨a,λ n hn=>hpq n (ha n hn)⟩
theorem Ev.both{P Q:Nat→Prop}(h:Ev P)(h':Ev Q):Ev λ n=>P n∧Q n:=
 let ⟨a,ha⟩:=h; let ⟨b,hb⟩:=h'; ⟨max a b,λ n hn=>⟨ha n (by omega),hb n (by omega)⟩⟩
theorem z81{f:Nat}{args:List V}{σ:St}{r:Out×St}(h:zh cx f args σ=some r):Ev λ n=>vg cx n f args σ=some r:=
 let ⟨k,hk⟩:=lim_ex h; ⟨k,λ n hn=>zg0 k n hn f args σ r hk⟩
theorem zi1{σ:St}{t f:Nat}{args:List V}{xs:List Nat}{K:Oc→De→List Nat→Option R}{r:R}(h:qt cx (zh cx) σ t f args xs K=some r):Ev λ n=>qt cx (vg cx n) σ t f args xs K=some r:=by
 unfold qt at h ⊢;simp only at h ⊢;obtain ⟨hc,h⟩:=ze h;obtain ⟨hd,h⟩:=ze h;rw [hc,hd];simp only [zb,cond_true];cases hq:zh cx f (V.renL (xu (reach σ 1000 (V.idsL args++xs) [])) args) (xr σ (reach σ 1000 (V.idsL args++xs) []) 0 (reach σ 1000 (V.idsL args++xs) [])) with
 | none=>rw [hq] at h; cases h
 | some p=>
  rw [hq] at h;exact (z81 hq).mono λ n hn=>by rw [hn]; exact h
theorem Ev.all{P:Prop}(h:P):Ev λ _=>P:=⟨0,λ _ _=>h⟩
theorem zk5{m nt:Nat}{o:Oper}{fr:Fr}{σ:St}{p:Tri}(h:zbo cx m nt (zh cx) o fr σ=some p):Ev λ n=>zbo cx m nt (vg cx n) o fr σ=some p:=by
 unfold zbo at h ⊢;obtain ⟨dst,op,type,pos,after,guard⟩:=o;cases op
 case makeFunc fn first caps=>cases fn <;> exact .all h
 case makeMap t r=>cases r <;> exact .all h
 case call c=>
  obtain ⟨callee,cargs,ctypes⟩:=c;cases callee with
  | value f=>
   simp only [wa] at h ⊢;obtain ⟨v,hv,h⟩:=zd h;simp only [hv,zc];split at h
   ·obtain ⟨l,hl,h⟩:=zd h;simp only [hl];exact zi1 h
   ·cases hgr:(cx.grow _).isSome <;> rw [hgr] at h <;> simp only [cond_true,cond_false] at h ⊢
    rotate_left
    ·exact .all h
    cases hsm:(zh5 cx.P _&&List.isEmpty _) <;> rw [hsm] at h <;> simp only [cond_true,cond_false] at h ⊢
    rotate_left
    ·obtain ⟨l,hl,h⟩:=zd h;simp only [hl];exact .all h
    cases hgv:cx.gives _ <;> rw [hgv] at h
    ·cases hnil:(cx.keep _&&zjq cargs.toList) <;> rw [hnil] at h
     ·obtain ⟨l,hl,h⟩:=zd h;simp only [hl,cond_false];exact zi1 h
     ·obtain ⟨l,hl,h⟩:=zd h;obtain ⟨hc,h⟩:=ze h;simp only [hl,cond_true,cond_false,hc,zb];exact zi1 h
    ·obtain ⟨l,hl,h⟩:=zd h;obtain ⟨hc,h⟩:=ze h;simp only [hl,cond_true,hc,zb];exact zi1 h
   ·cases h
  | invoke r nm=>exact .all h
  | builtin b=>cases b <;> exact .all h
 all_goals exact .all h
theorem zo1{ops : List Oper}{o : Oper}{fr : Fr}{yes no : Fr → Option R}{yes' no' : Nat → Fr → Option R}{r : R}(hy : ∀ fr, yes fr = some r → Ev λ n => yes' n fr = some r)
    (hn : ∀ fr, no fr = some r → Ev λ n => no' n fr = some r) (h : zds ops o fr yes no = some r) : Ev λ n => zds ops o fr (yes' n) (no' n) = some r := by
  unfold zds at h ⊢;split at h
  · exact hy _ h
  · split at h
    · exact hn _ h
    · split at h
      · have key : ∀ (b want : Bool) (p q : Fr), (bif b then (bif want then yes p else no p) else (bif want then no q else yes q)) = some r →
            Ev λ n => (bif b then (bif want then yes' n p else no' n p) else (bif want then no' n q else yes' n q)) = some r := by
          intro b want p q h;cases b <;> cases want <;> first | exact hy _ h | exact hn _ h
        exact key _ _ _ _ h
      · exact hn _ h
      · cases h
theorem zc6{m nt:Nat}{ops:List Oper}{K:Ex→Fr→St→Option R}{K':Nat→Ex→Fr→St→Option R}{r:R}(hK:∀ e fr σ,K e fr σ=some r→Ev λ n=>K' n e fr σ=some r) :
  ∀ (l:List Oper) (fr:Fr) (σ:St),zcu cx m nt (zh cx) ops l fr σ K=some r→Ev λ n=>zcu cx m nt (vg cx n) ops l fr σ (K' n)=some r
 | [],fr,σ,h=>hK _ _ _ h
 | o::l,fr,σ,h=>by
  unfold zcu at h ⊢;obtain ⟨hd,h⟩:=ze h;rw [hd];simp only [zb,cond_true];refine zo1 (λ fr h=>?_) (λ fr h=>zc6 hK l _ _ h) h;obtain ⟨p,hp,h⟩:=zd h;obtain ⟨oc,δ,fp⟩:=p;cases oc with
  | val v=>exact ((zk5 hp).both (zc6 hK l _ _ h)).mono λ n hn=>by simp only [hn.1,zc]; exact hn.2
  | pan v=>exact ((zk5 hp).both (hK _ _ _ h)).mono λ n hn=>by simp only [hn.1,zc]; exact hn.2
theorem zc7{m nt:Nat}{ops:List Oper}{pre:List Nat}{K:Ex→Fr→St→Option R}{K':Nat→Ex→Fr→St→Option R}{r:R}(hK:∀ e fr σ,K e fr σ=some r→Ev λ n=>K' n e fr σ=some r) :
  ∀ (l:List Oper) (i:Nat) (log:List Log) (dead:Option (Nat×V)) (fr:Fr) (σ:St),vt cx m nt (zh cx) ops pre i l log dead fr σ K=some r→Ev λ n=>vt cx m nt (vg cx n) ops pre i l log dead fr σ (K' n)=some r
 | [],i,log,none,fr,σ,h=>by simp only [vt] at h ⊢; exact hK _ _ _ h
 | [],i,log,some (k,v),fr,σ,h=>by
  simp only [vt] at h ⊢;obtain ⟨hc,h⟩:=ze h;rw [hc];exact hK _ _ _ h
 | o::l,i,log,dead,fr,σ,h=>by
  simp only [vt] at h ⊢;cases hd:zlb pre i dead
  ·rw [hd,cond_false] at h;simp only [cond_false];obtain ⟨hc,h⟩:=ze h;rw [hc];simp only [zb,cond_true];refine zo1 (λ fr h=>?_) (λ fr h=>zc7 hK l _ _ _ _ _ h) h;obtain ⟨p,hp,h⟩:=zd h;obtain ⟨hm,h⟩:=ze h;obtain ⟨oc,δ,fp⟩:=p;cases oc with
   | val v=>exact ((zk5 hp).both (zc7 hK l _ _ _ _ _ h)).mono λ n hn=>by simp only [hn.1,zc,hm,cond_true]; exact hn.2
   | pan v=>
    cases dead with
    | none=>exact ((zk5 hp).both (zc7 hK l _ _ _ _ _ h)).mono λ n hn=>by simp only [hn.1,zc,hm,cond_true]; exact hn.2
    | some q=>cases h
  ·rw [hd,cond_true] at h;simp only [cond_true];exact zc7 hK l _ _ _ _ _ h
theorem zrg{nt:Nat}{σ:St}{fr:Fr}{q:Pend}{K:Fr→St→Option R}{K':Nat→Fr→St→Option R}{r:R}(hK:∀ fr σ,K fr σ=some r→Ev λ n=>K' n fr σ=some r)(h:zhz cx nt σ fr q K=some r) :
  Ev λ n=>zhz cx nt σ fr q (K' n)=some r:=by
 have key:∃ fr' σ',K fr' σ'=some r∧∀ K'':Fr→St→Option R,K'' fr' σ'=some r→zhz cx nt σ fr q K''=some r:=by
  unfold zhz at h ⊢;obtain ⟨hc,h⟩:=ze h;rw [hc];simp only [zb,cond_true];split at h
  case h_2=>cases h
  obtain ⟨hc,h⟩:=ze h;simp only [hc,cond_true];obtain ⟨s,hs,h⟩:=zd h;obtain ⟨pl,hpl,h⟩:=zd h;obtain ⟨jv,hjv,h⟩:=zd h;obtain ⟨v,hv,h⟩:=zd h;obtain ⟨y,hy,h⟩:=zd h;simp only [hs,hpl,hjv,hv,hy,zc];split at h
  case h_2=>cases h
  split at h
  case h_2=>cases h
  obtain ⟨hc,h⟩:=ze h;simp only [*,cond_true];obtain ⟨sz',ps,hd,h9⟩:=zg6 h;obtain ⟨hc',h10⟩:=ze h9;refine ⟨_,_,h10,λ K'' hK''=>?_⟩;unfold dataOf at hd ⊢;split at hd <;> first | (cases hd; done) | skip
  all_goals (cases hd; simp only [hc',cond_true]; exact hK'')
 obtain ⟨fr',σ',h1,h2⟩:=key;exact (hK _ _ h1).mono λ n hn=>h2 _ hn
theorem zxt{nt:Nat}{ops:List Oper}{k:Nat}{fr:Fr}{σ:St}{K:List Oper→Fr→St→Option R}{K':Nat→List Oper→Fr→St→Option R}{r:R}(hK:∀ l fr σ,K l fr σ=some r→Ev λ n=>K' n l fr σ=some r)
  (h:zfr cx nt ops k fr σ K=some r):Ev λ n=>zfr cx nt ops k fr σ (K' n)=some r:=by
 unfold zfr at h ⊢;split at h
 case h_2=>cases h
 obtain ⟨q,hq,h⟩:=zd h;simp only [hq,zc];exact zrg (λ fr σ h=>hK _ _ _ h) h
theorem zxq{nt:Nat}{ops:List Oper}{k:Nat}{fr:Fr}{σ:St}{K:Fr→St→Option R}{K':Nat→Fr→St→Option R}{r:R}(hK:∀ fr σ,K fr σ=some r→Ev λ n=>K' n fr σ=some r)(h:zfq cx nt ops k fr σ K=some r):Ev λ n=>zfq cx nt ops k fr σ (K' n)=some r:=by
 unfold zfq at h ⊢;split at h
 case h_2=>cases h
 obtain ⟨q,hq,h⟩:=zd h;simp only [hq,zc];refine zrg (λ fr σ h=>?_) h;split at h
 case h_2=>cases h
 obtain ⟨hc,h⟩:=ze h;obtain ⟨pv,hpv,h⟩:=zd h;obtain ⟨v,hv,h⟩:=zd h;simp only [hc,hpv,hv,zc,cond_true,zb];split at h
 case h_2=>cases h
 split at h
 case h_2=>cases h
 rename_i hido;obtain ⟨hc,h⟩:=ze h;simp only [hido,hc,cond_true];exact hK _ _ h
theorem zj6{m f key:Nat}{fr:Fr}{σ:St}{K:Fr→St→Option R}{K':Nat→Fr→St→Option R}{r:R}(hK:∀ fr σ,K fr σ=some r→Ev λ n=>K' n fr σ=some r)(h:tidy cx m f key fr σ K=some r) :
  Ev λ n=>tidy cx m f key fr σ (K' n)=some r:=by
 unfold tidy at h ⊢;simp only at h ⊢;obtain ⟨hc,h⟩:=ze h;rw [hc];exact hK _ _ h
theorem zg1{f m nt N:Nat}:∀ (c:Code) {K:Ex→Fr→St→Option R} {K':Nat→Ex→Fr→St→Option R} {r:R} {fr:Fr} {σ:St},
  (∀ e fr σ,K e fr σ=some r→Ev λ n=>K' n e fr σ=some r)→yx cx f m nt (zh cx) N c fr σ K=some r→Ev λ n=>yx cx f m nt (vg cx n) n c fr σ (K' n)=some r:=by
 intro c
 induction c with
 | skip=>intro K K' r fr σ hK h; exact hK _ _ _ h
 | label l=>intro K K' r fr σ hK h; exact hK _ _ _ h
 | exit id=>intro K K' r fr σ hK h; exact hK _ _ _ h
 | goto l=>intro K K' r fr σ hK h; exact hK _ _ _ h
 | ret=>intro K K' r fr σ hK h; exact hK _ _ _ h
 | refuse why=>intro K K' r fr σ hK h; cases h
 | rangeFunc f params assign body _ _=>intro K K' r fr σ hK h; cases h
 | region id ops draw=>
  intro K K' r fr σ hK h;cases draw
  ·simp only [yx] at h ⊢;generalize cx.pend f id=pk at h ⊢;cases pk with
   | none=>exact zc6 hK _ _ _ h
   | some k=>
    refine zc6 (K':=λ n e fr σ=>_) (λ e fr σ h=>?_) _ _ _ h;cases e with
    | normal=>exact zxt (λ l fr σ h=>zc6 hK _ _ _ h) h
    | _=>exact hK _ _ _ h
  ·simp only [yx] at h ⊢;generalize cx.pend f id=pk at h ⊢;cases pk with
   | none=>
    obtain ⟨hc,h⟩:=ze h;rw [hc];exact zc7 hK _ _ _ _ _ _ h
   | some k=>
    simp only at h ⊢;obtain ⟨hc1,h⟩:=ze h;obtain ⟨hc,h⟩:=ze h;rw [hc1,hc];refine zc7 (K':=λ n e fr σ=>_) (λ e fr σ h=>?_) _ _ _ _ _ _ h;cases e with
    | normal=>exact zxq (λ fr σ h=>hK _ _ _ h) h
    | _=>exact hK _ _ _ h
 | seq x y ihx ihy=>
  intro K K' r fr σ hK h;refine ihx (λ e fr σ h=>?_) h;cases e with
  | normal=>exact ihy hK h
  | _=>exact hK _ _ _ h
 | cond c x y ihx ihy=>
  intro K K' r fr σ hK h;simp only [yx] at h ⊢;obtain ⟨v,hv,h⟩:=zd h;obtain ⟨b,rfl,h⟩:=zlf h;simp only [hv,zc,asB];cases b
  ·exact ihy hK h
  ·exact ihx hK h
 | block id c ih=>
  intro K K' r fr σ hK h;refine ih (λ e fr σ h=>?_) h;cases e with
  | normal=>exact zj6 (λ fr σ h=>hK _ _ _ h) h
  | exit i=>
   simp only at h ⊢;cases hb:Nat.beq i id <;> rw [hb] at h
   ·exact hK _ _ _ h
   ·exact zj6 (λ fr σ h=>hK _ _ _ h) h
  | _=>exact hK _ _ _ h
 | loop c ih=>
  intro K K' r fr σ hK h;simp only [yx] at h ⊢;refine zj6 (λ fr σ h=>?_) h
  have key:∀ (k:Nat),∀ (fr:Fr) (σ:St),iter (yx cx f m nt (zh cx) N c) (tidy cx m f (2 * yo c+1)) k fr σ K=some r →
    Ev λ n=>∀ k',k≤k'→iter (yx cx f m nt (vg cx n) n c) (tidy cx m f (2 * yo c+1)) k' fr σ (K' n)=some r:=by
   intro k
   induction k with
   | zero=>intro fr σ h; cases h
   | succ k ihk=>
    intro fr σ h;simp only [iter] at h;have h1:Ev λ n=>∀ k',k≤k'→iter (yx cx f m nt (vg cx n) n c) (tidy cx m f (2 * yo c+1)) (k'+1) fr σ (K' n)=some r:=by
     -- one number of rounds for all
     have:=ih (K:=λ e fr σ=>match e with
      | .normal=>tidy cx m f (2 * yo c+1) fr σ λ fr σ=>iter (yx cx f m nt (zh cx) N c) (tidy cx m f (2 * yo c+1)) k fr σ K
      | e=>K e fr σ)
      (K':=λ n e fr σ=>match e with
      | .normal=>tidy cx m f (2 * yo c+1) fr σ λ fr σ=>iter (yx cx f m nt (vg cx n) n c) (tidy cx m f (2 * yo c+1)) k fr σ (K' n)
      | e=>K' n e fr σ) (r:=r) (fr:=fr) (σ:=σ) (λ e fr σ h=>by
       cases e with
       | normal=>exact zj6 (λ fr σ h=>(ihk fr σ h).mono λ n hn=>hn k (Nat.le_refl k)) h
       | _=>exact hK _ _ _ h) h
     refine this.mono λ n hn k' hk'=>?_;simp only [iter]
     have hmono:∀ (k k':Nat),k≤k'→∀ (fr:Fr) (σ:St),iter (yx cx f m nt (vg cx n) n c) (tidy cx m f (2 * yo c+1)) k fr σ (K' n)=some r →
       iter (yx cx f m nt (vg cx n) n c) (tidy cx m f (2 * yo c+1)) k' fr σ (K' n)=some r:=by
      intro k
      induction k with
      | zero=>intro k' _ fr σ h; cases h
      | succ k ihk=>
       intro k' hle fr σ h;obtain ⟨k',rfl⟩:∃ j,k'=j+1:=⟨k' - 1,by omega⟩
       simp only [iter] at h ⊢;refine zb8 (λ _ _ _ _ _ h=>h) (Nat.le_refl _) c (λ e fr σ h=>?_) h;cases e with
       | normal=>exact zea (λ fr σ h=>ihk k' (by omega) _ _ h) h
       | _=>exact h
     refine zb8 (λ _ _ _ _ _ h=>h) (Nat.le_refl _) c (λ e fr σ h=>?_) hn;cases e with
     | normal=>exact zea (λ fr σ h=>hmono k k' hk' _ _ h) h
     | _=>exact h
    refine h1.mono λ n hn k' hk'=>?_;obtain ⟨k',rfl⟩:∃ j,k'=j+1:=⟨k' - 1,by omega⟩
    exact hn k' (by omega)
  obtain ⟨a,ha⟩:=key N fr σ h;exact ⟨max a N,λ n hn=>ha n (by omega) n (by omega)⟩
 | scope c ih=>
  intro K K' r fr σ hK h;refine ih (λ e fr σ h=>?_) h;cases e with
  | goto l=>cases h
  | _=>exact hK _ _ _ h
theorem zse{f m nt N:Nat}:∀ (as:List Code) {K:Ex→Fr→St→Option R} {K':Nat→Ex→Fr→St→Option R} {r:R} {fr:Fr} {σ:St},
  (∀ e fr σ,K e fr σ=some r→Ev λ n=>K' n e fr σ=some r)→zho cx f m nt (zh cx) N as fr σ K=some r→Ev λ n=>zho cx f m nt (vg cx n) n as fr σ (K' n)=some r
 | [],K,K',r,fr,σ,hK,h=>hK _ _ _ h
 | c::as,K,K',r,fr,σ,hK,h=>by
  simp only [zho] at h ⊢;refine zg1 c (λ e fr σ h=>?_) h;cases e with
  | normal=>exact zse as hK h
  | _=>exact hK _ _ _ h
theorem z05{N g:Nat}{args:List V}{σ σ':St}{u:Option D}(h:zcm cx (zh cx) N g args σ u=some σ'):Ev λ n=>zcm cx (vg cx n) n g args σ u=some σ':=by
 unfold zcm at h ⊢;split at h
 ·cases h
 ·rename_i fn hfn;split at h
  ·rename_i id ops c hb;split at h
   ·rename_i o r hops;obtain ⟨t,ht,h⟩:=zd h;obtain ⟨hc,h⟩:=ze h;simp only [hops,ht,zc,hc,zb,cond_true];rw [hops] at h;refine zc6 (λ e fr σ h=>?_) _ _ _ h;cases e with
    | normal=>exact zg1 c (λ _ _ _ h=>.all h) h
    | _=>cases h
   ·cases h
  ·cases h
theorem zmj{N:Nat}{σ:St}{g:Nat}{cap:List V}{u:Option D}{K:De→Option R}{r:R}
  (h:zia cx (zcm cx (zh cx) N) σ g cap u K=some r):Ev λ n=>zia cx (zcm cx (vg cx n) n) σ g cap u K=some r:=by
 unfold zia at h ⊢;simp only at h ⊢;obtain ⟨hc,h⟩:=ze h;rw [hc];simp only [zb,cond_true];cases hq:zcm cx (zh cx) N g (V.renL (xu (reach σ 1000 (V.idsL cap) [])) cap) (xr σ (reach σ 1000 (V.idsL cap) []) 0 (reach σ 1000 (V.idsL cap) [])) u with
 | none=>rw [hq] at h; cases h
 | some p=>rw [hq] at h; exact (z05 hq).mono λ n hn=>by rw [hn]; exact h
theorem z4i{N f m:Nat}{res:List ResultVar}{g:Nat}{cap:List V}{e:Ex}{fr:Fr}{σ:St}{r:Out×St}
  (h:zqw cx (zcm cx (zh cx) N) f m res g cap e fr σ=some r):Ev λ n=>zqw cx (zcm cx (vg cx n) n) f m res g cap e fr σ=some r:=by
 unfold zqw at h ⊢;split at h
 ·exact zmj h
 ·exact zmj h
 ·exact zmj h
 ·cases h
theorem z09{f m nt N:Nat}{res:List ResultVar}{c:Code}{fr:Fr}{σ:St}{r:Out×St}
  (h:zh8 cx f m nt res (zh cx) N c fr σ=some r):Ev λ n=>zh8 cx f m nt res (vg cx n) n c fr σ=some r:=by
 unfold zh8 at h ⊢;split at h
 ·cases h
 ·rename_i as id ops t b hsp;refine zse as (K':=λ n e fr σ=>_) (λ e fr σ h=>?_) h;cases e with
  | normal=>
   refine zc6 (K':=λ n e fr σ=>_) (λ e fr σ h=>?_) _ _ _ h;cases e with
   | normal=>
    simp only at h ⊢;obtain ⟨fv,hfv,h⟩:=zd h;simp only [hfv,zc];split at h
    ·obtain ⟨ht,h⟩:=ze h;simp only [ht,zb,cond_true];exact zg1 b (λ e fr σ h=>z4i h) h
    ·cases h
   | _=>exact .all h
  | _=>exact .all h
theorem z3s{N f:Nat}{args:List V}{σ:St}{r:Out×St}(h:zbh cx (zh cx) N f args σ=some r):zh cx f args σ=some r:=by
 have:Ev λ n=>zbh cx (vg cx n) n f args σ=some r:=by
  unfold zbh at h ⊢;split at h
  ·exact .all h
  split at h
  ·cases h
  ·rename_i fn hfn;split at h
   ·cases h
   ·rename_i c hc;cases hd:cx.dfr f <;> rw [hd] at h
    ·exact zg1 c (λ e fr σ h=>.all h) h
    ·exact z09 h
 obtain ⟨a,ha⟩:=this;exact zh4 (n:=a+1) (by rw [zo9]; exact ha a (Nat.le_refl a))
end
section
variable {α R:Type} {cx:Cx} {σ:St}
theorem zt9(site t:Nat)(s x:V)(b:Bool)(F:V→De→List Nat→Option α)(K:α→Option R):zc (zfi cx σ site t s x b F) K=zfi cx σ site t s x b λ a b c=>zc (F a b c) K:=by
 unfold zfi;split <;> try rfl
 simp only [zwi,ya,xj];congr 1; funext a l; congr 1; congr 1;split <;> try rfl
 all_goals (split <;> simp only [ya,z8])
theorem zuu(site t:Nat)(x:V)(lo hi mx:Option V)(F:V→De→List Nat→Option α)(K:α→Option R):zc (zgi cx σ site t x lo hi mx F) K=zgi cx σ site t x lo hi mx λ a b c=>zc (F a b c) K:=by
 unfold zgi;split <;> try rfl
 ·split <;> simp only [zp0,z8]
 ·simp only [zpp,ya];congr 1; congr 1; funext a l; congr 1;split <;> simp only [zp0,ya,xj]
theorem z0w(t:Nat)(x:V)(F:V→List Nat→Option α)(K:α→Option R):zc (lenV cx σ t x F) K=lenV cx σ t x λ a b=>zc (F a b) K:=by
 unfold lenV;split <;> try rfl
 split <;> rfl
theorem znk(t:Nat)(x i:V)(F:V→Option α)(K:α→Option R):zc (zc4 cx t x i F) K=zc4 cx t x i λ a=>zc (F a) K:=by
 unfold zc4;split <;> try rfl
 all_goals
  simp only [ya];congr 1;split <;> simp only [zjp,zb4,ya,z8]
theorem znm(s:Nat)(x:V)(f:Nat)(F:V→Option α)(K:α→Option R):zc (zc5 cx s x f F) K=zc5 cx s x f λ a=>zc (F a) K:=by
 unfold zc5;simp only [y4,ya];congr 1; funext p; congr 1;split <;> rfl
theorem zoc(t:Nat)(v:V)(off:Nat)(F:V→Option α)(K:α→Option R):zc (zkk cx t v off F) K=zkk cx t v off λ a=>zc (F a) K:=by
 unfold zkk;simp only [ya,xj,zed,zg9]
theorem zvm(t:Nat)(x i:V)(F:V→Option α)(K:α→Option R):zc (zmb cx t x i F) K=zmb cx t x i λ a=>zc (F a) K:=by
 unfold zmb;split <;> try rfl
 ·split <;> simp only [zjp,y4,z8]
 ·simp only [zjp,zoc]
theorem zt8(P:Program)(t:Nat)(ok:Bool)(x:V)(F:V→Option α)(K:α→Option R):zc (zle P t ok x F) K=zle P t ok x λ a=>zc (F a) K:=by
 unfold zle;rw [ya];split
 ·rw [xj]; rfl
 ·rfl
theorem z0r(l:List V)(F:V→Option α)(K:α→Option R):zc (z0s l F) K=z0s l λ a=>zc (F a) K:=by
 unfold z0s;split <;> rfl
theorem zxl(site g:Nat)(cap:List V)(args:List Operand)(fr:Fr)(F:Oc→De→List Nat→Option α)(K:α→Option R):zc (zjb cx σ site g cap args fr F) K=zjb cx σ site g cap args fr λ a b c=>zc (F a b c) K:=by
 unfold zjb;split <;> try rfl
 simp only [y4];congr 1; funext e; congr 1; funext v;split <;> simp only [ya,z8]
theorem zye(s t:Nat)(x:V)(F:V→List Nat→Option α)(K:α→Option R):zc (zpq cx σ s t x F) K=zpq cx σ s t x λ a b=>zc (F a b) K:=by
 unfold zpq;split <;> try rfl
 split <;> simp only [ya,z8]
theorem zlx{β:Type}(o:Option β)(F:β→Option α)(E:Option α)(K:α→Option R):zc (zjj o F E) K=zjj o (λ b=>zc (F b) K) (zc E K):=by cases o <;> rfl
theorem ztk(t:Nat)(x k:V)(ok:Bool)(F:V→List Nat→Option α)(K:α→Option R):zc (zd4 cx σ t x k ok F) K=zd4 cx σ t x k ok λ a b=>zc (F a b) K:=by
 unfold zd4;split <;> try rfl
 simp only [y4,zp8,ya];congr 1; funext z; congr 1; funext key; congr 1;split <;> try rfl
 ·simp only [y4,zlx,zb4,zb2]
 ·split <;> simp only [y4,zlx,zb4,zb2,z8]
theorem zti(t:Nat)(x k v:V)(F:De→List Nat→Option α)(K:α→Option R):zc (zd3 cx σ t x k v F) K=zd3 cx σ t x k v λ a b=>zc (F a b) K:=by
 unfold zd3;split <;> try rfl
 split <;> try rfl
 split <;> simp only [y4,zp8,ya,zlx,z8]
theorem znj(site t:Nat)(l c:V)(F:V→De→List Nat→Option α)(K:α→Option R):zc (qy cx σ site t l c F) K=qy cx σ site t l c λ a b d=>zc (F a b d) K:=by
 unfold qy;split <;> simp only [y4,ya,z8]
theorem zwv(v:V)(F:V→De→List Nat→Option α)(K:α→Option R):zc (zi7 σ v F) K=zi7 σ v λ a b d=>zc (F a b d) K:=by
 unfold zi7;split <;> try rfl
 split <;> simp only [ya,z8]
theorem z07{m nt:Nat}{call:yz}{o:Oper}{fr:Fr}(F:Oc→De→List Nat→Option α)(K:α→Option R):zc (wa cx m nt call o fr σ F) K=wa cx m nt call o fr σ λ a b c=>zc (F a b c) K:=by
 obtain ⟨dst,op,type,pos,after,guard⟩:=o;cases op
 case makeFunc fn first caps=>cases fn <;> simp only [wa,ya,y4,z8,xj]
 case makeMap t r=>cases r <;> simp only [wa,ya,z8]
 case move x | assign x=>
  simp only [wa];split
  ·split <;> try rfl
   split <;> simp only [xj,zw5]
  ·simp only [y4,xj,zwv]
 case buildSlice t n ps=>
  simp only [wa];cases ztq cx nt dst ps.toList <;> cases cx.own nt (dst.getD 0) <;> split <;> simp only [y4,ya,z8,cond_true,cond_false]
 case nilCheck x=>
  simp only [wa,y4];congr 1; funext v;split <;> rfl
 case convert s t x=>
  simp only [wa,y4];congr 1; funext v;split
  ·split <;> simp only [ya,z8]
  ·simp only [zyd,zye,xj]
 case makeInterface t x=>
  simp only [wa];split <;> try rfl
  simp only [y4];congr 1; funext v;split <;> rfl
 case panic x=>
  simp only [wa,y4];congr 1; funext v;split <;> rfl
 case call c=>
  obtain ⟨callee,cargs,ctypes⟩:=c;cases callee with
  | value f=>
   simp only [wa,y4];congr 1; funext v;split
   ·simp only [y4,zjx]
   ·simp only [xj,y4,ya,zjx,z0r,zxl]
   ·rfl
  | invoke r nm=>rfl
  | builtin b=>
   cases b <;> try rfl
   ·simp only [wa];split <;> simp only [y4,ya,zt9,z8]
   ·simp only [wa];split <;> simp only [y4,z0w,z8]
 all_goals first | rfl | (simp only [wa,y4,ya,xj,z8,ztk,zti,znj,z49,zxf,zuo,z1o,z2k,z0p,zuu,znm,zoc,znk,zvm,zp4,zed,zt8]; done)
theorem zo8{m nt:Nat}{call:yz}{o:Oper}{fr:Fr}(K:Tri→Option R):zc (zbo cx m nt call o fr σ) K=wa cx m nt call o fr σ λ a b c=>K (a,b,c):=by
 unfold zbo;rw [z07];rfl
structure CK (R:Type) where
 S:yz
 run:Nat→List V→St→(Out→St→Option R)→Option R
 ok:∀ g a σ K,run g a σ K=(match S g a σ with | some (o,σ')=>K o σ' | none=>none)
def CK.plain{R:Type}(S:yz):CK R:=⟨S,λ g a σ K=>match S g a σ with | some (o,σ')=>K o σ' | none=>none,λ _ _ _ _=>rfl⟩
instance {R:Type}:Coe yz (CK R):=⟨CK.plain⟩
def zmi(cx:Cx)(call:CK R)(σ:St)(t f:Nat)(args:List V)(xs:List Nat)(K:Oc→De→List Nat→Option R):Option R:=
 let ren:=reach σ 1000 (V.idsL args++xs) []
 zb (closedIn σ (V.idsL args++xs) ren) <| zb (cx.dom f (V.renL (xu ren) args)) <| call.run f (V.renL (xu ren) args) (xr σ ren 0 ren) λ oc σ'=>match oc with
  | .ret v=>zbi ren σ σ' 0 ren λ δ=>zhb cx.P t (v.ren (zco ren)) λ v=>K (.val v) δ ren
  | .pan v=>zbi ren σ σ' 0 ren λ δ=>K (.pan (v.ren (zco ren))) δ ren
theorem z1m{call:CK R}{t f:Nat}{args:List V}{xs:List Nat}{K:Oc→De→List Nat→Option R}:zmi cx call σ t f args xs K=qt cx call.S σ t f args xs K:=by
 unfold zmi qt;simp only;congr 1;congr 1;rw [call.ok];cases call.S f (V.renL (xu (reach σ 1000 (V.idsL args++xs) [])) args) (xr σ (reach σ 1000 (V.idsL args++xs) []) 0 (reach σ 1000 (V.idsL args++xs) [])) with
 | none=>rfl
 | some p=>
  obtain ⟨o,s⟩:=p;cases o <;> rfl
def zzy(cx : Cx)(m nt : Nat)(call : CK R)(o : Oper)(fr : Fr)(σ : St)(K : Oc → De → List Nat → Option R) : Option R :=
  match o.op with
  | .call ⟨.value f, cargs, ctypes⟩ => zc (opd fr f) λ fv => (match fv with
        | .mfunc g first => zc (zag cx.P fr cargs.toList ctypes.toList) λ args => zmi cx call σ o.type g (first.map .d ++ zbn (cx.keep g) args) [] K
        | .func g cap => bif (cx.grow g).isSome then zjb cx σ (m + o.dst.getD 0) g cap cargs.toList fr K else bif zh5 cx.P g && cap.isEmpty then zc (zag cx.P fr cargs.toList ctypes.toList) λ l => z0s l λ v => K (.val v) [] [] else bif cx.gives g
          then zc (zag cx.P fr cargs.toList ctypes.toList) λ l => zb (yi σ [(m + o.dst.getD 0, .tok 0)]) (zmi cx call (qn σ (m + o.dst.getD 0) (.tok 0)) o.type g (zbn (cx.keep g) l ++ cap) [m + o.dst.getD 0] λ oc δ fp => K oc ((m + o.dst.getD 0, .tok 0) :: δ) ((m + o.dst.getD 0) :: fp))
          else bif cx.keep g && zjq cargs.toList
          then zc (zbv cx.P fr (m + o.dst.getD 0) cargs.toList ctypes.toList) λ l => zb (yi σ [(m + o.dst.getD 0, .tok 0)]) (zmi cx call (qn σ (m + o.dst.getD 0) (.tok 0)) o.type g (l ++ cap) [] λ oc δ fp => K oc ((m + o.dst.getD 0, .tok 0) :: δ) ((m + o.dst.getD 0) :: fp))
          else zc (zag cx.P fr cargs.toList ctypes.toList) λ args => zmi cx call σ o.type g (zbn (cx.keep g) args ++ cap) [] K
        | _ => none)
  | _ => wa cx m nt call.S o fr σ K
theorem zv4{m nt:Nat}{call:CK R}{o:Oper}{fr:Fr}{K:Oc→De→List Nat→Option R}:zzy cx m nt call o fr σ K=wa cx m nt call.S o fr σ K:=by
 obtain ⟨dst,op,type,pos,after,guard⟩:=o;cases op <;> try rfl
 case call c=>
  obtain ⟨callee,cargs,ctypes⟩:=c;cases callee <;> try rfl
  unfold zzy wa;simp only [z1m];congr 1
def zfs(cx:Cx)(m nt:Nat)(call:CK R)(ops:List Oper):List Oper→Fr→St→(Ex→Fr→St→Option R)→Option R
 | [],fr,σ,K=>K .normal fr σ
 | o::r,fr,σ,K=>zb (zm8 nt o.dst) <| zds ops o fr
   (λ fr=>zzy cx m nt call o fr σ λ oc δ _=>match oc with
    | .val v=>zfs cx m nt call ops r (ze2 fr o.dst v) (zf σ δ) K
    | .pan v=>K (.pan v) fr (zf σ δ))
   (λ fr=>zfs cx m nt call ops r (ze2 fr o.dst qu) σ K)
theorem zix{m nt:Nat}{call:CK R}{ops:List Oper}{K:Ex→Fr→St→Option R}:∀ (l:List Oper) (fr:Fr) (σ:St),zcu cx m nt call.S ops l fr σ K=zfs cx m nt call ops l fr σ K
 | [],_,_=>rfl
 | o::l,fr,σ=>by
  unfold zcu zfs;congr 1;congr 1
  ·funext fr;rw [zo8,zv4];congr 1;funext oc δ fp;cases oc with
   | val v=>exact zix l _ _
   | pan v=>rfl
  ·funext fr;exact zix l _ _
def zfh(cx:Cx)(m nt:Nat)(call:CK R)(ops:List Oper)(pre:List Nat) :
  Nat→List Oper→List Log→Option (Nat×V)→Fr→St→(Ex→Fr→St→Option R)→Option R
 | _,[],_,none,fr,σ,K=>K .normal fr σ
 | _,[],log,some (k,v),_,σ,K=>zb (log.all λ a=>a.w.isEmpty||Nat.beq a.i k||xd pre k a.i) (K (.pan v) [] σ)
 | i,o::r,log,dead,fr,σ,K=>
   bif zlb pre i dead then zfh cx m nt call ops pre (i+1) r log dead fr σ K
   else zb (zm8 nt o.dst) <| zds ops o fr
    (λ fr=>zzy cx m nt call o fr σ λ oc δ fp=>zb (log.all λ a=>zfl pre a ⟨i,δ.map (·.1)++fp,δ.map (·.1)⟩) (match oc,dead with
     | .val u,_=>zfh cx m nt call ops pre (i+1) r (⟨i,δ.map (·.1)++fp,δ.map (·.1)⟩::log) dead (ze2 fr o.dst u) (zf σ δ) K
     | .pan v,none=>zfh cx m nt call ops pre (i+1) r (⟨i,δ.map (·.1)++fp,δ.map (·.1)⟩::log) (some (i,v)) fr (zf σ δ) K
     | .pan _,some _=>none))
    (λ fr=>zfh cx m nt call ops pre (i+1) r log dead (ze2 fr o.dst qu) σ K)
theorem zf5{m nt:Nat}{call:CK R}{ops:List Oper}{pre:List Nat}{K:Ex→Fr→St→Option R}:∀ (l:List Oper) (i:Nat) (log:List Log) (dead:Option (Nat×V)) (fr:Fr) (σ:St),
  vt cx m nt call.S ops pre i l log dead fr σ K=zfh cx m nt call ops pre i l log dead fr σ K
 | [],_,_,none,_,_=>rfl
 | [],_,_,some _,_,_=>rfl
 | o::l,i,log,dead,fr,σ=>by
  unfold vt zfh;rw [zf5 l];congr 1;congr 1;congr 1
  ·funext fr;rw [zo8,zv4];congr 1;funext oc δ fp;congr 1;cases oc with
   | val v=>exact zf5 l _ _ _ _ _
   | pan v=>
    cases dead with
    | none=>exact zf5 l _ _ _ _ _
    | some q=>rfl
  ·funext fr;exact zf5 l _ _ _ _ _
end
section
variable {R:Type} {cx:Cx}
def wg(cx:Cx)(f m nt:Nat)(call:CK R)(n:Nat):Code→Fr→St→(Ex→Fr→St→Option R)→Option R
 | .skip,fr,σ,K=>K .normal fr σ
 | .label _,fr,σ,K=>K .normal fr σ
 | .region id ops false,fr,σ,K=>(match cx.pend f id with
   | none=>zfs cx m nt call ops.toList ops.toList fr σ K
   | some k=>zfs cx m nt call ops.toList (ops.toList.take k) fr σ λ e fr σ=>match e with
     | .normal=>zfr cx nt ops.toList k fr σ λ r fr σ=>zfs cx m nt call ops.toList r fr σ K
     | e=>K e fr σ)
 | .region id ops true,fr,σ,K=>(match cx.pend f id with
   | none=>zb (zg3 ops.toList (qv ops.toList [])) (zfh cx m nt call ops.toList (qv ops.toList []) 0 ops.toList [] none fr σ K)
   | some k=>zb (zhw ops.toList k) <| zb (zg3 ops.toList (qv ops.toList [])) (zfh cx m nt call ops.toList (qv ops.toList []) 0 (ops.toList.take k) [] none fr σ λ e fr σ=>match e with
     | .normal=>zfq cx nt ops.toList k fr σ (K .normal)
     | e=>K e fr σ))
 | .seq a b,fr,σ,K=>wg cx f m nt call n a fr σ λ e fr σ=>match e with
   | .normal=>wg cx f m nt call n b fr σ K
   | e=>K e fr σ
 | .cond c a b,fr,σ,K=>zc (opd fr c) λ v=>asB v λ t=>bif t then wg cx f m nt call n a fr σ K else wg cx f m nt call n b fr σ K
 | .block id c,fr,σ,K=>wg cx f m nt call n c fr σ λ e fr σ=>match e with
   | .normal=>tidy cx m f (2 * id) fr σ (K .normal)
   | .exit id'=>bif Nat.beq id' id then tidy cx m f (2 * id) fr σ (K .normal) else K (.exit id') fr σ
   | e=>K e fr σ
 | .loop c,fr,σ,K=>tidy cx m f (2 * yo c+1) fr σ λ fr σ=>
   iter (wg cx f m nt call n c) (tidy cx m f (2 * yo c+1)) n fr σ K
 | .exit id,fr,σ,K=>K (.exit id) fr σ
 | .goto l,fr,σ,K=>K (.goto l) fr σ
 | .ret,fr,σ,K=>K .ret fr σ
 | .scope c,fr,σ,K=>wg cx f m nt call n c fr σ λ e fr σ=>match e with
   | .goto _=>none
   | e=>K e fr σ
 | _,_,_,_=>none
theorem zk7{f m nt n:Nat}{call:CK R}:∀ (c:Code) (fr:Fr) (σ:St) (K:Ex→Fr→St→Option R),yx cx f m nt call.S n c fr σ K=wg cx f m nt call n c fr σ K:=by
 intro c
 induction c with
 | skip=>intros; rfl
 | label l=>intros; rfl
 | exit id=>intros; rfl
 | goto l=>intros; rfl
 | ret=>intros; rfl
 | refuse why=>intros; rfl
 | rangeFunc f params assign body _ _=>intros; rfl
 | region id ops draw=>
  intro fr σ K;cases draw
  ·unfold yx wg;cases cx.pend f id with
   | none=>exact zix _ _ _
   | some k=>
    simp only [zix];rfl
  ·unfold yx wg;cases cx.pend f id with
   | none=>simp only [zf5]
   | some k=>
    simp only [zf5];rfl
 | seq x y ihx ihy=>
  intro fr σ K;unfold yx wg;rw [ihx];congr 1;funext e fr σ;cases e <;> first | rfl | exact ihy _ _ _
 | cond c x y ihx ihy=>
  intro fr σ K;unfold yx wg;simp only [ihx,ihy]
 | block id c ih=>
  intro fr σ K;unfold yx wg;rw [ih];congr 1
 | loop c ih=>
  intro fr σ K;unfold yx wg;congr 1;funext fr σ;have e:(λ (fr:Fr) (σ:St) (K:Ex→Fr→St→Option R)=>yx cx f m nt call.S n c fr σ K)=λ fr σ K=>wg cx f m nt call n c fr σ K:=by
   funext fr σ K;exact ih fr σ K
  exact congrArg (λ body=>iter body (tidy cx m f (2 * yo c+1)) n fr σ K) e
 | scope c ih=>
  intro fr σ K;unfold yx wg;rw [ih];congr 1
def ztu(cx:Cx)(f m nt:Nat)(call:CK R)(n:Nat):List Code→Fr→St→(Ex→Fr→St→Option R)→Option R
 | [],fr,σ,K=>K .normal fr σ
 | a::r,fr,σ,K=>wg cx f m nt call n a fr σ λ e fr σ=>match e with
   | .normal=>ztu cx f m nt call n r fr σ K
   | e=>K e fr σ
theorem zzw{f m nt n:Nat}{call:CK R}:∀ (as:List Code) (fr:Fr) (σ:St) (K:Ex→Fr→St→Option R),zho cx f m nt call.S n as fr σ K=ztu cx f m nt call n as fr σ K
 | [],_,_,_=>rfl
 | a::as,fr,σ,K=>by
  unfold zho ztu;rw [zk7];congr 1;funext e fr σ;cases e <;> first | rfl | exact zzw as _ _ _
def zxs(cx:Cx)(call:yz)(n g:Nat)(args:List V)(σ:St)(u:Option D):Option St:=
 match cx.P.funcs[g]? with
 | none=>none
 | some fn=>
  match fn.body with
  | some (.seq (.region _ ops false) c)=>
   (match ops.toList with
    | o::r=>zc (zkj o) λ t=>zb (Nat.blt t fn.ntmps&&fn.results.isEmpty) <|
     zfs cx σ.length fn.ntmps (CK.plain call) ops.toList r ((t,.d (z8s u))::za0 0 args) σ λ e fr σ'=>match e with
      | .normal=>wg cx g σ.length fn.ntmps (CK.plain call) n c fr σ' λ e _ σ'=>(match e with | .normal | .ret=>zau σ.length σ' (List.range σ.length) | _=>none)
      | _=>none
    | []=>none)
  | _=>none
theorem z6s{call:yz}{n:Nat}:zcm cx call n=zxs cx call n:=by
 funext g args σ u;unfold zcm zxs;have e:∀ {R:Type},(CK.plain call:CK R).S=call:=rfl;simp only [←zix,←zk7,e];rfl
def zxv(cx:Cx)(f m nt:Nat)(res:List ResultVar)(call:CK (Out×St))(n:Nat)(c:Code)(fr:Fr)(σ:St):Option (Out×St):=
 match zgh c with
 | none=>none
 | some (as,_,ops,t,b)=>
  ztu cx f m nt call n as fr σ λ e fr σ=>match e with
   | .normal=>zfs cx m nt call ops.toList ops.toList.dropLast fr σ λ e fr σ=>(match e with
     | .normal=>zc (zi fr t) λ fv=>(match fv with
       | .func g cap=>zb (!zbs b) (wg cx f m nt call n b fr σ (zqw cx (zxs cx call.S n) f m res g cap))
       | _=>none)
     | e=>zla cx f m res e fr σ)
   | e=>zla cx f m res e fr σ
theorem z6u{f m nt n:Nat}{res:List ResultVar}{call:CK (Out×St)}{c:Code}{fr:Fr}{σ:St}:zh8 cx f m nt res call.S n c fr σ=zxv cx f m nt res call n c fr σ:=by
 unfold zh8 zxv;simp only [zzw,zix,zk7,z6s];rfl
def zl(cx:Cx)(call:CK (Out×St))(n f:Nat)(args:List V)(σ:St):Option (Out×St):=
 match cx.nat f args σ with
 | some r=>some r
 | none=>
 match cx.P.funcs[f]? with
 | none=>none
 | some fn=>
  match fn.body with
  | none=>none
  | some c=>bif cx.dfr f then zxv cx f σ.length fn.ntmps fn.results.toList call n c (za0 0 args) σ
   else wg cx f σ.length fn.ntmps call n c (za0 0 args) σ (zla cx f σ.length fn.results.toList)
theorem zvz{call:CK (Out×St)}{n f:Nat}{args:List V}{σ:St}:zbh cx call.S n f args σ=zl cx call n f args σ:=by
 unfold zbh zl;simp only [z6u,zk7];rfl
theorem zk{call:CK (Out×St)}(hk:knows cx call.S (zh cx)){N f:Nat}{args:List V}{σ:St}{r:Out×St}(h:zl cx call N f args σ=some r):zh cx f args σ=some r:=
 z3s (N:=N) (zm7 hk (Nat.le_refl N) f args σ r (by rw [zvz]; exact h))
theorem x7{call:yz}(hk:knows cx call (zh cx)){N f:Nat}{args:List V}{σ:St}{r:Out×St}(h:zl cx (CK.plain call) N f args σ=some r):zh cx f args σ=some r:=
 zk (call:=CK.plain call) hk h
end
section
variable {R:Type}
def codeOf(cx:Cx)(f:Nat):Code:=match cx.P.funcs[f]? with | some fn=>(match fn.body with | some c=>c | none=>.skip) | none=>.skip
def z3f(cx:Cx)(f:Nat):Nat:=match cx.P.funcs[f]? with | some fn=>fn.ntmps | none=>0
def ya7(cx:Cx)(f:Nat):List ResultVar:=match cx.P.funcs[f]? with | some fn=>fn.results.toList | none=>[]
def findLoop(r:Nat):Code→Option Code
 | .loop c=>bif Nat.beq (yo c) r then some c else findLoop r c
 | .seq a b=>(match findLoop r a with | some c=>some c | none=>findLoop r b)
 | .cond _ a b=>(match findLoop r a with | some c=>some c | none=>findLoop r b)
 | .block _ c=>findLoop r c
 | .scope c=>findLoop r c
 | _=>none
def z7o(cx:Cx)(f r:Nat):Code:=match findLoop r (codeOf cx f) with | some c=>c | none=>.skip
def LP(cx:Cx)(call:CK R)(n f m r k:Nat)(fr:Fr)(σ:St)(K:Ex→Fr→St→Option R):Option R:=
 iter (wg cx f m (z3f cx f) call n (z7o cx f r)) (tidy cx m f (2 * r+1)) k fr σ K
def zwj(cx:Cx)(f m nt:Nat)(call:CK R)(n r:Nat):Code→(Ex→Fr→St→Option R)→Option (Ex→Fr→St→Option R)
 | .loop c,K=>bif Nat.beq (yo c) r then some K else none
 | .seq a b,K=>(match zwj cx f m nt call n r a (λ e fr σ=>match e with
   | .normal=>wg cx f m nt call n b fr σ K
   | e=>K e fr σ) with | some k=>some k | none=>zwj cx f m nt call n r b K)
 | .cond _ a b,K=>(match zwj cx f m nt call n r a K with | some k=>some k | none=>zwj cx f m nt call n r b K)
 | .block id c,K=>zwj cx f m nt call n r c λ e fr σ=>match e with
   | .normal=>tidy cx m f (2 * id) fr σ (K .normal)
   | .exit id'=>bif Nat.beq id' id then tidy cx m f (2 * id) fr σ (K .normal) else K (.exit id') fr σ
   | e=>K e fr σ
 | .scope c,K=>zwj cx f m nt call n r c λ e fr σ=>match e with
   | .goto _=>none
   | e=>K e fr σ
 | _,_=>none
def AK(cx:Cx)(call:CK R)(n f m r:Nat)(K:Ex→Fr→St→Option R):Ex→Fr→St→Option R:=
 match zwj cx f m (z3f cx f) call n r (codeOf cx f) K with | some k=>k | none=>λ _ _ _=>none
def inK(cx:Cx)(call:CK R)(n f m r k:Nat)(K:Ex→Fr→St→Option R):Ex→Fr→St→Option R:=λ e fr σ=>
 match e with
 | .normal=>tidy cx m f (2 * r+1) fr σ λ fr σ=>LP cx call n f m r k fr σ K
 | e=>K e fr σ
def AL(cx:Cx)(call:CK R)(n f m r r':Nat)(K:Ex→Fr→St→Option R):Ex→Fr→St→Option R:=
 match zwj cx f m (z3f cx f) call n r' (z7o cx f r) K with | some k=>k | none=>λ _ _ _=>none
def EK(cx:Cx)(f m:Nat):Ex→Fr→St→Option (Out×St):=zla cx f m (ya7 cx f)
end
section
variable {R:Type}
def za4(r:Nat):Code→Option (List Oper)
 | .region id ops _=>bif Nat.beq id r then some ops.toList else none
 | .loop c=>za4 r c
 | .seq a b=>(match za4 r a with | some c=>some c | none=>za4 r b)
 | .cond _ a b=>(match za4 r a with | some c=>some c | none=>za4 r b)
 | .block _ c=>za4 r c
 | .scope c=>za4 r c
 | _=>none
def z25(cx:Cx)(f r:Nat):List Oper:=match za4 r (codeOf cx f) with | some l=>l | none=>[]
def zyc(cx:Cx)(f m nt:Nat)(call:CK R)(n r:Nat):Code→(Ex→Fr→St→Option R)→Option (Ex→Fr→St→Option R)
 | .region id _ _,K=>bif Nat.beq id r then some K else none
 | .seq a b,K=>(match zyc cx f m nt call n r a (λ e fr σ=>match e with
   | .normal=>wg cx f m nt call n b fr σ K
   | e=>K e fr σ) with | some k=>some k | none=>zyc cx f m nt call n r b K)
 | .cond _ a b,K=>(match zyc cx f m nt call n r a K with | some k=>some k | none=>zyc cx f m nt call n r b K)
 | .block id c,K=>zyc cx f m nt call n r c λ e fr σ=>match e with
   | .normal=>tidy cx m f (2 * id) fr σ (K .normal)
   | .exit id'=>bif Nat.beq id' id then tidy cx m f (2 * id) fr σ (K .normal) else K (.exit id') fr σ
   | e=>K e fr σ
 | .scope c,K=>zyc cx f m nt call n r c λ e fr σ=>match e with
   | .goto _=>none
   | e=>K e fr σ
 | _,_=>none
def AR(cx:Cx)(call:CK R)(n f m r:Nat)(K:Ex→Fr→St→Option R):Ex→Fr→St→Option R:=
 match zyc cx f m (z3f cx f) call n r (codeOf cx f) K with | some k=>k | none=>λ _ _ _=>none
def OPS(cx:Cx)(call:CK R)(n f m r j:Nat)(fr:Fr)(σ:St)(K:Ex→Fr→St→Option R):Option R:=
 zfs cx m (z3f cx f) call (z25 cx f r) ((z25 cx f r).drop j) fr σ K
end
end Go.Vai
end

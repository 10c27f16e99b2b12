/-
  Calls of functions: the whole. To: Places in the code by name: behind some of a region's operations.
-/
import Derived.Test.YtmolcgfhgdhgoaaGreatDoorVaiPart5
import Derived.ProofKit
import Derived.OpenShut
import Derived.Deep.DeepHandedRow
import Derived.MakeChecks
set_option linter.all false
noncomputable section
namespace Go.Vai
section
variable {R:Type} {cx:Cx} {m nt:Nat} {w w₀:World} {σ σ' σ₀:St} {μ μ₀:Mu}
theorem z3t{call:Nat→List V→St→Option (Out×St)}(hcall:v8 cx call)(hn:yy cx.P)(hmix:cx.P.follows .mixedOrders=true){n g:Nat}{cap:List V}{u:Option D}{um:FrameMode}{vs:List Value}
  {K:De→Option R} {r:R} (h:zg6 cx (zbg cx call n) σ g cap u K=some r) (hi:Inv cx w σ μ) (hv:RVs w σ μ vs cap) (hm:zmq w (zp σ μ) u um) :
  ∃ δ,K δ=some r∧(∃ fn,cx.P.funcs[g]?=some fn∧fn.body.isNone=false) ∧
   CallsD cx.P g vs.toArray um w λ e m' w'=>(∃ v,e=.returned v)∧settle m'=.returning∧∃ μ',After cx w σ μ w' (zf σ δ) μ':=by
 unfold zg6 at h;simp only at h;generalize hren:w8 σ 1000 (V.idsL cap) []=ren at h;obtain ⟨hc,h⟩:=zc h;obtain ⟨hnd,hargs,hcl⟩:=zev hc;obtain ⟨hlen,hinv,hcanon,hvs,hargs',hfull,hown⟩:=zyi hi hv hnd hargs hcl;split at h
 case h_2=>cases h
 rename_i σ' hrec;obtain ⟨hfn,hσ',hrun⟩:=z23 hcall hn hmix hrec hinv hcanon hvs (by rw [hown]; exact hm)
 rw [hlen] at hσ';obtain ⟨δ,h1,h2,h3⟩:=zdk ren 0 h;refine ⟨δ,h1,hfn,hrun.mono λ e m' w' ⟨he,hs,μ1,haf⟩=>⟨he,hs,_,(zu7 hi hnd hcl h2 h3 hσ' haf).1⟩⟩
theorem z5b{call:Nat→List V→St→Option (Out×St)}(hcall:v8 cx call)(hn:yy cx.P)(hmix:cx.P.follows .mixedOrders=true)(hσ₀:∀ id o,zg σ id=some o→id<σ.length)
  {n g f:Nat} {cap:List V} {cs:Array Value} {fn:Func} {a:Act} {fr:Fr} {τ:St} {w₁:World} {μ₁:Mu} {out:Out} {e:Ex} {x:Exit} (hx:zgl w₁ τ μ₁ e x)
  (haf:After cx w σ μ w₁ τ μ₁) (hf:FR w₁ τ μ₁ a.tmps fr) (hd:a.defers=[{ target:=.fn (.func g) cs,args:=#[] }]) (hcap:RVs w₁ τ μ₁ cs.toList cap)
  (h:zpq cx (zbg cx call n) f σ.length fn.results.toList g cap e fr τ=some (out,σ')):bodyPostD cx.P fn (Fin cx w σ μ out σ') x a w₁:=by
 have go:∀ (u:Option D) (um:FrameMode),um ≠ .run→zmq w₁ (zp τ μ₁) u um→zg6 cx (zbg cx call n) τ g cap u (λ δ=>zka cx f σ.length fn.results.toList .ret fr (zf τ δ))=some (out,σ') →
   Leaves cx.P fn a.tmps (Fin cx w σ μ out σ') a.defers um w₁:=by
  intro u um hum hu h;obtain ⟨δ,hK,⟨fn',hfn,hbody⟩,hcalls⟩:=z3t hcall hn hmix h haf.inv hcap hu;rw [hd];refine leaves_cons (f:=g) (args:=(#[]++cs)) hum ?_ ?_
  ·show (callFunc g (#[]++cs)).run cx.P w₁=_;exact zfn hn hfn hbody
  ·rw [show (#[]++cs)=cs.toList.toArray by simp]
   refine hcalls.mono λ e m' w' ⟨⟨v,he⟩,hs,μ',haf'⟩=>?_;subst he;show Leaves _ _ _ _ [] (settle m') w';rw [hs];exact zsl hσ₀ (haf.trans haf') (haf'.frs haf.inv hf) hK
 unfold zpq at h;split at h
 ·cases x <;> first | exact hx.elim | exact go none .returning (by simp) rfl h
 ·cases x <;> first | exact hx.elim | exact go none .returning (by simp) rfl h
 ·rename_i t y;cases x <;> first | exact hx.elim | skip
  rename_i chain;obtain ⟨v,rfl,hv⟩:=hx;cases hv with | d _ _ hv=>?_
  exact go (some (.iface t y)) (.panicking [{ v:=v,recovered:=false }]) (by simp) ⟨v,rfl,hv⟩ h
 ·cases h
theorem ztj:∀ (c:Code) {as:List Code} {id:Nat} {ops:Array Oper} {t:Nat} {b:Code},zfi c=some (as,id,ops,t,b) →
  (∃ o,ops.toList.getLast?=some o∧zhl o=some t)∧c=as.foldr Code.seq (.seq (.region id ops false) b):=by
 intro c
 induction c with
 | seq x y ihx ihy=>
  intro as id ops t b h
  have other:(match zfi y with | some (l,q)=>some (x::l,q) | none=>none)=some (as,id,ops,t,b) →
    (∃ o,ops.toList.getLast?=some o∧zhl o=some t)∧Code.seq x y=as.foldr Code.seq (.seq (.region id ops false) b):=by
   intro h;cases hs:zfi y with
   | none=>rw [hs] at h; cases h
   | some p=>
    obtain ⟨l,id',ops',t',b'⟩:=p;rw [hs] at h;cases h;have ih:=ihy hs;exact ⟨ih.1,by rw [List.foldr_cons,←ih.2]⟩
  cases x with
  | region id' ops' draw=>
   cases draw with
   | true=>exact other h
   | false=>
    simp only [zfi] at h;cases hl:ops'.toList.getLast? with
    | none=>rw [hl] at h; exact other h
    | some o=>
     rw [hl] at h;simp only at h;cases hp:zhl o with
     | none=>rw [hp] at h; exact other h
     | some t'=>rw [hp] at h; cases h; exact ⟨⟨o,hl,hp⟩,rfl⟩
  | _=>exact other h
 | _=>intro as id ops t b h; cases h
theorem zuq{call:Nat→List V→St→Option (Out×St)}(hcall:v8 cx call)(hn:yy cx.P)(hmix:cx.P.follows .mixedOrders=true)(hσ₀:∀ id o,zg σ₀ id=some o→id<m){f n:Nat}{ds:List Deferred}{tl:Code}
  {K:Ex→Fr→St→Option R} {r:R} {Q:Exit→Act→World→Prop}
  (hN:∀ fr σ,K .normal fr σ=some r→∀ a w μ,Now cx nt ds w₀ σ₀ μ₀ a w σ μ fr→tl.wp cx.P Q a w)
  (hQ:∀ e fr σ,e ≠ .normal→K e fr σ=some r→∀ x a w μ,zgl w σ μ e x→Now cx nt ds w₀ σ₀ μ₀ a w σ μ fr→Q x a w) :
  ∀ (as:List Code) {fr:Fr} {σ:St},zgm cx f m nt call n as fr σ K=some r→∀ {a w μ},Now cx nt ds w₀ σ₀ μ₀ a w σ μ fr→(as.foldr Code.seq tl).wp cx.P Q a w
 | [],fr,σ,h,a,w,μ,hnow=>hN _ _ h _ _ _ hnow
 | c::as,fr,σ,h,a,w,μ,hnow=>by
  simp only [zgm] at h;refine wp_seq (zk6 hcall hn hmix hσ₀ c h (λ e fr σ hK x a w μ hx hnow=>?_) hnow);cases e with
  | normal=>cases x <;> first | exact zuq hcall hn hmix hσ₀ hN hQ as hK hnow | exact hx.elim
  | exit i=>cases x <;> first | exact hQ _ _ _ (by simp) hK _ _ _ μ hx hnow | exact hx.elim
  | goto l=>cases x <;> first | exact hQ _ _ _ (by simp) hK _ _ _ μ hx hnow | exact hx.elim
  | ret=>cases x <;> first | exact hQ _ _ _ (by simp) hK _ _ _ μ hx hnow | exact hx.elim
  | pan v=>cases x <;> first | exact hQ _ _ _ (by simp) hK _ _ _ μ hx hnow | exact hx.elim
theorem z26{call:Nat→List V→St→Option (Out×St)}(hcall:v8 cx call)(hn:yy cx.P)(hmix:cx.P.follows .mixedOrders=true)(hσ₀:∀ id o,zg σ id=some o→id<σ.length)
  {n f:Nat} {fn:Func} {c:Code} {fr:Fr} {a:Act} {out:Out} (hnow:Now cx fn.ntmps [] w σ μ a w σ μ fr)
  (h:zg4 cx f σ.length fn.ntmps fn.results.toList call n c fr σ=some (out,σ')):c.wp cx.P (bodyPostD cx.P fn (Fin cx w σ μ out σ')) a w:=by
 unfold zg4 at h;split at h
 ·cases h
 rename_i as id ops t b hsp;obtain ⟨⟨o,hl,hp⟩,rfl⟩:=ztj c hsp;obtain ⟨ty,pos,aft,rfl⟩:=zrw hp;refine zuq hcall hn hmix hσ₀ (λ fr τ hK a w₁ μ₁ hnow=>?_) (λ e fr τ he hK x a w₁ μ₁ hx hnow=>?_) as h hnow
 ·simp only at hK;have hne:ops.toList ≠ []:=by intro e; rw [e] at hl; cases hl
  have hops:ops.toList=ops.toList.dropLast++[⟨none,.defer ⟨.value (.tmp t),#[],#[]⟩,ty,pos,aft,none⟩]:=by
   have h1:=List.dropLast_concat_getLast hne;rw [List.getLast?_eq_some_getLast hne] at hl;rw [Option.some.inj hl] at h1;exact h1.symm
  refine wp_seq (wp_region ?_)
  have key:=zfy (cx:=cx) (nt:=fn.ntmps) (ds:=[]) (w₀:=w) (σ₀:=σ) (μ₀:=μ) (m:=σ.length) hcall hn (arr:=ops) (tl:=[⟨none,.defer ⟨.value (.tmp t),#[],#[]⟩,ty,pos,aft,none⟩])
   (Q:=Exit.then (b.wp cx.P (bodyPostD cx.P fn (Fin cx w σ μ out σ'))) (bodyPostD cx.P fn (Fin cx w σ μ out σ'))) ?_ ?_ ops.toList.dropLast 0 (by rw [List.drop_zero]; exact hops) fr τ hK a w₁ μ₁ hnow
  ·simpa using key
  ·intro fr τ hK a w₁ μ₁ hnow i hi;simp only at hK;obtain ⟨fv,hfv,hK⟩:=zb hK;split at hK
   case h_2=>cases hK
   rename_i g cap;obtain ⟨htidy,hK⟩:=zc hK;have hsize:ops.size=i+1:=by have:=congrArg List.length hi; simp at this; omega
   have ho:ops[i]?=some ⟨none,.defer ⟨.value (.tmp t),#[],#[]⟩,ty,pos,aft,none⟩:=by
    have:=congrArg (·[0]?) hi;simpa using this
   rw [show (List.range ops.size).drop i=[i] by rw [hsize,List.drop_eq_getElem_cons (by simp)]; simp]
   simp only [wpOps,ho];rw [if_pos (by simp [Region.wanted])]
   left;have hr:=hnow.fr t _ hfv;generalize hq:a.tmps.getD t undef=q at hr;cases hr with | func _ cs _ hcl hch=>?_
   have hrun:(execOp a.eval ⟨none,.defer ⟨.value (.tmp t),#[],#[]⟩,ty,pos,aft,none⟩).run cx.P w₁=.ok (.defer { target:=.fn (.func g) cs,args:=#[] }) w₁:=by
    have he:a.eval (.tmp t)=.func (.func g) #[] cs:=by simpa [Act.eval] using hq
    simp only [execOp,resolve,he,Deferred.ofValue];simp [Sem.run_bind]
   unfold Oper.wp;rw [hrun,Oper.upon_defer];have hcap:RVs w₁ τ μ₁ cs.toList cap:=⟨by simpa using hcl,λ i x y hx hy=>hch i x y (by simpa using hx) hy⟩
   have hinv:=hnow.after.inv
   refine zn3 (w₀:=w₁) (σ₀:=τ) (μ₀:=μ₁) (ds:=[{ target:=.fn (.func g) cs,args:=#[] }]) (nt:=fn.ntmps) hcall hn hmix b (λ ht=>by rw [ht] at htidy; cases htidy) hK (λ e fr τ' hK x a w₂ μ₂ hx hnow'=>?_) (μ:=μ₁)
    ⟨After.refl hinv,hnow.fr,hnow.size,by show _::a.defers=_; rw [hnow.defers]⟩
   exact z5b hcall hn hmix hσ₀ hx (hnow.after.trans hnow'.after) hnow'.fr hnow'.defers (hcap.map λ v x _ hv=>hnow'.after.rv hinv hv) hK
  ·intro v fr τ hK x a w₁ μ₁ hx hnow;cases x <;> first | exact hx.elim | skip
   exact zsm (e:=.pan v) hσ₀ hx hnow hK
 ·cases e with
  | normal=>exact absurd rfl he
  | _=>exact zsm hσ₀ hx hnow hK
theorem z25(hn:yy cx.P)(hmix:cx.P.follows .mixedOrders=true)(hnat:v8 cx cx.nat):∀ n,v8 cx (wh cx n):=by
 intro n
 induction n with
 | zero=>exact ⟨hnat.1,λ f args σ out σ' h=>by cases h⟩
 | succ n ih=>
  refine ⟨hnat.1,?_⟩;intro f args σ out σ' h w μ vs hi hcan hids hall hvs;simp only [wh,zah] at h;split at h
  ·rename_i r hr;cases h;exact hnat.2 f args σ out σ' hr w μ vs hi hcan hids hall hvs
  split at h
  ·cases h
  rename_i fn hfn;split at h
  ·cases h
  rename_i c hc;have hσ₀:∀ id o,zg σ id=some o→id<σ.length:=λ id o ho=>(hcan id o ho).1;have hbody:fn.body.isNone=false:=by rw [hc]; rfl
  have hbegin:Now cx fn.ntmps [] w σ μ { tmps:=vs.toArray++Array.replicate (fn.ntmps - vs.toArray.size) undef,defers:=[] } w σ μ (qt 0 args):=by
   refine ⟨After.refl hi,?_,?_,rfl⟩
   ·intro t v ht;obtain ⟨i,rfl,hv⟩:=zer 0 args t v ht;rw [Nat.zero_add];have hlt:i<vs.length:=by rw [hvs.1]; exact (pj.1 hv).1
    have:(vs.toArray++Array.replicate (fn.ntmps - vs.toArray.size) undef).getD i undef=vs[i]:=by
     simp [Array.getD_eq_getD_getElem?,Array.getElem?_append,hlt]
    rw [this];exact hvs.2 i _ v (by simp) hv
   ·simp; omega
  have hrun:Calls cx.P f vs.toArray w (Fin cx w σ μ out σ'):=by
   cases hd:cx.dfr f <;> rw [hd] at h
   ·exact calls_of_wp_defers hfn hc (zk6 (w₀:=w) (μ₀:=μ) (nt:=fn.ntmps) ih hn hmix hσ₀ c h (λ e fr τ hK x a w₁ μ₁ hx hnow=>zsm hσ₀ hx hnow hK) hbegin)
   ·exact calls_of_wp_defers hfn hc (z26 ih hn hmix hσ₀ hbegin h)
  obtain ⟨e,w',fr,⟨hfacts,_⟩,_⟩:=hrun [];exact ⟨⟨fn,hfn,hbody⟩,hfacts.1,hfacts.2,hrun.mono λ e w' h=>by
   obtain ⟨μ',haf,hm⟩:=h.2;exact ⟨μ',haf,by cases out <;> cases e <;> exact hm⟩⟩
end
open Go.ChangeShapes Go.WideShapes Go.ChangeAt Go.RowKit
section
variable {H:Type}
def zcy:Own:=λ _ _=>False
def zem(P:Program):Nat→List Field→Nat→Bool
 | off,[],n=>Nat.beq off n
 | off,f::fs,n=>Nat.beq f.offset off&&zem P (off+P.cellsOf f.type) fs n
def w9(r:TypeId→DataW H→Option (List D)):List Field→List (DataW H)→Option (List D)
 | [],[]=>some []
 | f::fs,p::ps=>(match r f.type p,w9 r fs ps with | some a,some b=>some (a++b) | _,_=>none)
 | _,_=>none
def zdn(r:DataW H→Option (List D)):List (DataW H)→Option (List D)
 | []=>some []
 | p::ps=>(match r p,zdn r ps with | some a,some b=>some (a++b) | _,_=>none)
def elemOf(agg:Bool)(cs:List D):D:=bif agg then .agg cs else cs.headD .nilIface
def zak(agg:Bool)(r:DataW H→Option (List D)):List (DataW H)→Option (List D)
 | []=>some []
 | p::ps=>(match r p,zak agg r ps with | some a,some b=>some (elemOf agg a::b) | _,_=>none)
def y4(P:Program):Nat→TypeId→DataW H→Option (List D)
 | 0,_,_=>none
 | n+1,t,d=>
  match P.underlying t,d with
  | some .bool,.lit (.bool b)=>some [.bool b]
  | some (.int k),.lit (.int _ z)=>some [.int k z]
  | some .string,.lit (.string s)=>some [.str s]
  | some (.pointer _),.nil=>some [.nilptr]
  | some (.slice e),.nil=>some [.sl (P.cellsOf e) []]
  | some (.slice e),.slice els _=>bif Nat.beq (P.cellsOf e) 0 then none else (zak (xj P e) (y4 P n e) els).map λ l=>[.sl (P.cellsOf e) l]
  | some (.struct fs),.agg ps=>bif zem P 0 fs.toList (P.cellsOf t) then w9 (y4 P n) fs.toList ps else none
  | some (.array m e),.agg ps=>bif Nat.beq ps.length m&&Nat.beq (m * P.cellsOf e) (P.cellsOf t) then zdn (y4 P n e) ps else none
  | _,_=>none
variable {enc:TypeId×Value→H} {P:Program} {w:World} {base:Nat} {spare:Nat→Bool} {held:Bool}
theorem RDs.append{own:Own}{vs ws:List Value}{l k:List D}(h:RDs w own vs l)(h':RDs w own ws k):RDs w own (vs++ws) (l++k):=by
 refine ⟨by simp [h.1,h'.1],λ i x y hx hy=>?_⟩
 by_cases hi:i<vs.length
 ·rw [List.getElem?_append_left hi] at hx;rw [List.getElem?_append_left (by rw [←h.1]; exact hi)] at hy
  exact h.2 i x y hx hy
 ·rw [List.getElem?_append_right (by omega)] at hx
  rw [List.getElem?_append_right (by rw [←h.1]; omega)] at hy
  rw [←h.1] at hy;exact h'.2 _ x y hx hy
theorem RDs.one{own:Own}{v:Value}{d:D}(h:RD w own v d):RDs w own [v] [d]:=⟨rfl,λ i x y hx hy=>by
 cases i with
 | zero=>simp at hx hy; subst hx; subst hy; exact h
 | succ i=>simp at hx⟩
theorem zy6{n:Nat}{t:TypeId}{d:DataW H}{ds:List D}(ha:xj P t=false)(h:y4 P n t d=some ds):∃ y,ds=[y]∧y.cells=[y]:=by
 cases n with
 | zero=>cases h
 | succ n=>
  unfold xj at ha;simp only [y4] at h;split at h <;> first | (cases h; exact ⟨_,rfl,rfl⟩) | skip
  ·cases hb:Nat.beq (P.cellsOf _) 0 <;> rw [hb] at h
   ·obtain ⟨l,_,rfl⟩:=Option.map_eq_some_iff.1 h;exact ⟨_,rfl,rfl⟩
   ·cases h
  ·rename_i hu; rw [hu] at ha; cases ha
  ·rename_i hu; rw [hu] at ha; cases ha
  ·cases h
theorem zgt{n:Nat}{m:Nat}{cs:List Value}(hp:∀ {t cs x ds},DataW.trod enc P w base spare held m t cs=some x→y4 P n t x.1=some ds→RDs w zcy cs ds∧∀ c∈cs,c.oneCell'=true) :
  ∀ (fs:List Field) (xs:List (DataW H×List MemPlace)) (off:Nat) (ds:List D),xs.length=fs.length→off≤cs.length→zem P off fs cs.length=true →
   (∀ (i:Nat) f,fs[i]?=some f→DataW.trod enc P w base spare held m f.type ((cs.drop f.offset).take (P.cellsOf f.type))=xs[i]?) →
   w9 (y4 P n) fs (xs.map (·.1))=some ds→RDs w zcy (cs.drop off) ds∧∀ c∈cs.drop off,c.oneCell'=true
 | [],xs,off,ds,hl,hle,ho,_,h=>by
  obtain rfl:=List.eq_nil_of_length_eq_zero hl;simp only [List.map_nil,w9] at h;cases h;have:off=cs.length:=pg ho;rw [List.drop_eq_nil_of_le (by omega)]
  exact ⟨⟨rfl,by simp⟩,by simp⟩
 | f::fs,xs,off,ds,hl,hle,ho,ht,h=>by
  match xs,hl with
  | x::xs,hl=>
   simp only [List.map_cons,w9] at h;split at h
   ·rename_i a b h1 h2;cases h;simp only [zem,ph] at ho;obtain ⟨ho1,ho2⟩:=ho;have ho1:=pg ho1;have hx:=ht 0 f rfl;simp only [List.getElem?_cons_zero] at hx;rw [ho1] at hx;obtain ⟨g1,g2⟩:=hp hx h1;have hle2:off+P.cellsOf f.type≤cs.length:=by
     -- the offsets rise to the end
     have key:∀ (l:List Field) (o:Nat),zem P o l cs.length=true→o≤cs.length:=by
      intro l
      induction l with
      | nil=>intro o ho; exact Nat.le_of_eq (pg ho)
      | cons f l ih=>
       intro o ho;simp only [zem,ph] at ho;have:=ih _ ho.2;omega
     exact key fs _ ho2
    obtain ⟨k1,k2⟩:=zgt hp fs xs _ b (by simpa using hl) hle2 ho2 (λ i f' hf'=>by simpa using ht (i+1) f' (by simpa using hf')) h2
    have hsplit:cs.drop off=(cs.drop off).take (P.cellsOf f.type)++cs.drop (off+P.cellsOf f.type):=by
     rw [←List.drop_drop,List.take_append_drop]
    rw [hsplit];exact ⟨g1.append k1,λ c hc=>(List.mem_append.1 hc).elim (g2 c) (k2 c)⟩
   ·cases h
theorem zh9{n m:Nat}{e:TypeId}{cs:List Value}(hp:∀ {t cs x ds},DataW.trod enc P w base spare held m t cs=some x→y4 P n t x.1=some ds→RDs w zcy cs ds∧∀ c∈cs,c.oneCell'=true) :
  ∀ (xs:List (DataW H×List MemPlace)) (k:Nat) (ds:List D),(k+xs.length) * P.cellsOf e=cs.length →
   (∀ (i:Nat),i<xs.length→DataW.trod enc P w base spare held m e ((cs.drop ((k+i) * P.cellsOf e)).take (P.cellsOf e))=xs[i]?) →
   zdn (y4 P n e) (xs.map (·.1))=some ds→RDs w zcy (cs.drop (k * P.cellsOf e)) ds∧∀ c∈cs.drop (k * P.cellsOf e),c.oneCell'=true
 | [],k,ds,hl,_,h=>by
  simp only [List.map_nil,zdn] at h;cases h;rw [List.drop_eq_nil_of_le (by simp at hl; omega)]
  exact ⟨⟨rfl,by simp⟩,by simp⟩
 | x::xs,k,ds,hl,ht,h=>by
  simp only [List.map_cons,zdn] at h;split at h
  ·rename_i a b h1 h2;cases h;have hx:=ht 0 (by simp)
   simp only [List.getElem?_cons_zero,Nat.add_zero] at hx;obtain ⟨g1,g2⟩:=hp hx h1;obtain ⟨k1,k2⟩:=zh9 hp xs (k+1) b (by rw [←hl]; congr 1; simp; omega) (λ i hi=>by
    have:=ht (i+1) (by simpa using hi)
    rw [show k+1+i=k+(i+1) by omega]
    simpa using this) h2
   have hsplit:cs.drop (k * P.cellsOf e)=(cs.drop (k * P.cellsOf e)).take (P.cellsOf e)++cs.drop ((k+1) * P.cellsOf e):=by
    rw [Nat.succ_mul,←List.drop_drop,List.take_append_drop]
   rw [hsplit];exact ⟨g1.append k1,λ c hc=>(List.mem_append.1 hc).elim (g2 c) (k2 c)⟩
  ·cases h
theorem zia{agg:Bool}{r:DataW H→Option (List D)}:∀ {ps:List (DataW H)} {l:List D},zak agg r ps=some l→l.length=ps.length∧∀ (i:Nat) p y,ps[i]?=some p→l[i]?=some y→∃ ds,r p=some ds∧y=elemOf agg ds
 | [],l,h=>by simp only [zak] at h; cases h; simp
 | p::ps,l,h=>by
  simp only [zak] at h;split at h
  ·rename_i a b h1 h2;cases h;obtain ⟨g1,g2⟩:=zia h2;refine ⟨by simp [g1],λ i q y hq hy=>?_⟩
   cases i with
   | zero=>simp at hq hy; subst hq; subst hy; exact ⟨a,h1,rfl⟩
   | succ i=>exact g2 i q y (by simpa using hq) (by simpa using hy)
  ·cases h
theorem trod_rd:∀ (n m:Nat) (t:TypeId) (cs:List Value) (x:DataW H×List MemPlace) (ds:List D),DataW.trod enc P w base spare held m t cs=some x→y4 P n t x.1=some ds →
  RDs w zcy cs ds∧∀ c∈cs,c.oneCell'=true:=by
 intro n
 induction n with
 | zero=>intro m t cs x ds _ h; cases h
 | succ n ih=>
  intro m t cs x ds hx h;obtain ⟨d,pl⟩:=x;simp only [y4] at h;split at h
  ·rename_i b hu;obtain ⟨b',h1,h2⟩:=DataW.trod_bool hu hx;subst h1; cases h2; cases h;exact ⟨RDs.one (.bool _),by simp [Value.oneCell']⟩
  ·rename_i k k' z hu;obtain ⟨z',h1,h2,_⟩:=DataW.trod_int hu hx;subst h1; cases h2; cases h;exact ⟨RDs.one (.int _ _),by simp [Value.oneCell']⟩
  ·rename_i s hu;obtain ⟨s',h1,h2,_⟩:=DataW.trod_string hu hx;subst h1; cases h2; cases h;refine ⟨RDs.one ?_,by simp [Value.oneCell']⟩
   have:s'=y9 s'.data.toList:=by simp [y9]
   conv=>arg 3; rw [this]
   exact .str _
  ·rename_i e hu;rcases DataW.trod_pointer hu hx with ⟨h1,h2⟩ | ⟨a,cs',y,n',_,h1,h2,_⟩
   ·subst h1; cases h;exact ⟨RDs.one .nilptr,by simp [Value.oneCell']⟩
   ·cases h2
  ·rename_i e hu;rcases DataW.trod_slice hu hx with ⟨h1,h2⟩ | ⟨a,len,cap,elems,rest,n',_,h1,h2,_⟩
   ·subst h1; cases h;exact ⟨RDs.one (.sl0 none 0 _),by simp [Value.oneCell']⟩
   ·cases h2
  ·rename_i e els sp hu;cases hb:Nat.beq (P.cellsOf e) 0 <;> rw [hb] at h
   ·rw [cond_false] at h;obtain ⟨l,hl,rfl⟩:=Option.map_eq_some_iff.1 h;rcases DataW.trod_slice hu hx with ⟨h1,h2⟩ | ⟨a,len,cap,elems,rest,n',_,h1,h2,hba,hle,_,hlen,hel,_⟩
    ·cases h2
    ·subst h1;simp only [Prod.mk.injEq,DataW.slice.injEq] at h2;obtain ⟨⟨rfl,rfl⟩,_⟩:=h2;have hc0:P.cellsOf e ≠ 0:=λ e0=>by rw [e0] at hb; cases hb
     refine ⟨RDs.one ?_,by simp [Value.oneCell']⟩
     obtain ⟨hl1,hl2⟩:=zia hl;simp only [pf,hlen] at hl1;by_cases h0:len=0
     ·subst h0;obtain rfl:=List.eq_nil_of_length_eq_zero hl1;exact .sl0 (some a) cap _
     ·have hpos:0<P.cellsOf e:=by omega
      have hcells:∀ i,i<len→∃ cs' y,w.cells? base (a.add (i * P.cellsOf e)) (P.cellsOf e)=some cs'∧DataW.trod enc P w base spare held n' e cs'=some y∧elems[i]?=some y:=by
       intro i hi;have h1:=hel i hi;obtain ⟨y,hy⟩:=yl (l:=elems) (i:=i) (by omega)
       rw [hy] at h1;obtain ⟨cs',h2,h3⟩:=Option.bind_eq_some_iff.1 h1;exact ⟨cs',y,h2,h3,hy⟩
      have hspot:a.spot=none:=by
       obtain ⟨cs',y,h1,_,_⟩:=hcells 0 (by omega)
       obtain ⟨_,h2,h3⟩:=World.cells?_some h1;have h4:=h3 0 hpos;obtain ⟨c,hc⟩:=yl (l:=cs') (i:=0) (by omega)
       rw [hc] at h4;have h5:=World.cell?_spot h4;simpa [Addr.add] using h5
      obtain ⟨b,o,spot⟩:=a;simp only at hspot;subst hspot;have hadd:∀ i,(⟨b,o,none⟩:Addr).add i=⟨b,o+i,none⟩:=λ i=>by
       unfold Addr.add;split
       ·rename_i h; subst h; rfl
       ·rfl
      have helem:∀ i y,l[i]?=some y→∃ cs' ds',i<len∧cs'.length=P.cellsOf e∧(∀ j,j<P.cellsOf e→w.cell? ⟨b,o+(i * P.cellsOf e+j),none⟩=cs'[j]?)∧RDs w zcy cs' ds'∧(∀ c∈cs',c.oneCell'=true)∧y.cells=ds':=by
       intro i y hy;have hi:i<len:=by have:=(pj.1 hy).1; omega
       obtain ⟨cs',z,h1,h2,h3⟩:=hcells i hi;obtain ⟨ds',h4,h5⟩:=hl2 i z.1 y (by simp [h3]) hy
       obtain ⟨_,h6,h7⟩:=World.cells?_some h1;obtain ⟨h8,h9⟩:=ih n' e cs' z ds' h2 h4;refine ⟨cs',ds',hi,h6,λ j hj=>?_,h8,h9,?_⟩
       ·have:=h7 j hj;rw [hadd,show (⟨b,o+i * P.cellsOf e,none⟩:Addr).add j=⟨b,o+i * P.cellsOf e+j,none⟩ by
         unfold Addr.add;split
         ·rename_i h; subst h; rfl
         ·rfl] at this
        rw [←Nat.add_assoc];exact this
       ·rw [h5];cases ha:xj P e
        ·obtain ⟨y',h10,h11⟩:=zy6 ha h4;rw [h10];exact h11
        ·rfl
      refine .sl b o len cap (P.cellsOf e) l (λ k=>(w.cell? ⟨b,o+k,none⟩).getD undef) hl1.symm hle (λ y hy=>?_) (λ k hk=>?_) (λ i j y c hy hc=>?_)
      ·obtain ⟨i,hi⟩:=List.getElem?_of_mem hy;obtain ⟨cs',ds',_,h2,_,h4,_,h6⟩:=helem i y hi;rw [h6,←h4.1,h2]
      ·have hi:k / P.cellsOf e<len:=Nat.div_lt_of_lt_mul (by rw [Nat.mul_comm]; exact hk)
       obtain ⟨y,hy⟩:=yl (l:=l) (i:=k / P.cellsOf e) (by omega)
       obtain ⟨cs',ds',_,h2,h3,h4,h5,h6⟩:=helem _ y hy;have hj:k % P.cellsOf e<P.cellsOf e:=Nat.mod_lt _ hpos;have hk':k / P.cellsOf e * P.cellsOf e+k % P.cellsOf e=k:=by rw [Nat.mul_comm]; exact Nat.div_add_mod k _
       have h7:=h3 _ hj;rw [hk'] at h7;obtain ⟨c,hc⟩:=yl (l:=cs') (i:=k % P.cellsOf e) (by omega)
       rw [hc] at h7;refine ⟨by rw [h7]; rfl,λ h=>h,?_⟩
       rw [h7];exact h5 c (po hc)
      ·obtain ⟨cs',ds',_,h2,h3,h4,h5,h6⟩:=helem i y hy;have hj:j<P.cellsOf e:=by
        have:=(pj.1 hc).1;rw [h6,←h4.1,h2] at this;exact this
       have h7:=h3 j hj;obtain ⟨c',hc'⟩:=yl (l:=cs') (i:=j) (by omega)
       rw [hc'] at h7;rw [h7];exact h4.2 j c' c hc' (h6 ▸ hc)
   ·cases h
  ·rename_i fs ps hu;cases hb:zem P 0 fs.toList (P.cellsOf t) <;> rw [hb] at h
   ·cases h
   ·rw [cond_true] at h;obtain ⟨xs,n',_,h2,hlen,hxs,hf⟩:=DataW.trod_struct hu hx;cases h2;have:=zgt (n:=n) (m:=n') (cs:=cs) (λ {t cs x ds} h1 h2=>ih n' t cs x ds h1 h2) fs.toList xs 0 ds (by simpa using hxs) (by simp) (by rw [hlen]; exact hb) (λ i f hfi=>hf i f (by simpa using hfi)) h
    simpa using this
  ·rename_i k e ps hu;cases hb:(Nat.beq ps.length k&&Nat.beq (k * P.cellsOf e) (P.cellsOf t)) <;> rw [hb] at h
   ·cases h
   ·rw [cond_true] at h;rw [ph] at hb;obtain ⟨xs,n',hcs,h2,hlen,hxs,hf⟩:=DataW.trod_array hu hx;cases h2
    have:=zh9 (n:=n) (m:=n') (e:=e) (cs:=cs) (λ {t cs x ds} h1 h2=>ih n' t cs x ds h1 h2) xs 0 ds
     (by rw [Nat.zero_add,hlen,hxs]; exact pg hb.2) (λ i hi=>by rw [Nat.zero_add]; exact hf i (hxs ▸ hi)) h
    simpa using this
  ·cases h
end
section
variable {cx:Cx} {W W':World}
def mu0:Mu:=⟨λ _=>{ blk:=none },zcy⟩
theorem z83:zp [] mu0=zcy:=by
 funext b i;apply propext;constructor
 ·rintro (h | ⟨id,o,h,_⟩)
  ·exact h
  ·cases h
 ·exact λ h=>h.elim
def zue(P:Program)(glob:Nat→Option D)(laid:List (String×DataW Unit)):Prop:=
 ∀ g x,glob g=some x→∃ n d,(n,d)∈laid∧P.globalNamed n=some g∧(((P.globals[g]?).map (·.type)).bind λ t=>y4 P 20 t d)=some x.cells
theorem zlt{P:Program}{w:World}:∀ {laid:List (String×DataW Unit)} {ps:List MemPlace},DataW.LaidVars P w laid ps→∀ n d,(n,d)∈laid→∀ g t ds,P.globalNamed n=some g→(P.globals[g]?).map (·.type)=some t →
  y4 P 20 t d=some ds→∃ cs:Array Value,(∀ i,w.cell? ⟨g,i,none⟩=cs[i]?)∧RDs w zcy cs.toList ds∧∀ c∈cs.toList,c.oneCell'=true
 | [],ps,_,n,d,hm,_,_,_,_,_,_=>by cases hm
 | (n₀,d₀)::laid,ps,h,n,d,hm,g,t,ds,hg,ht,hp=>by
  obtain ⟨g',t',cs,fuel,p,q,h1,h2,h3,h4,h5,_⟩:=h;rcases List.mem_cons.1 hm with he | hm
  ·cases he;rw [hg] at h1; cases h1;rw [ht] at h2; cases h2;obtain ⟨k1,k2⟩:=trod_rd 20 _ _ _ _ _ h4 hp;exact ⟨cs,World.var?_cell hg h3,k1,k2⟩
  ·exact zlt h5 n d hm g t ds hg ht hp
theorem inv0{laid:List (String×DataW Unit)}(hplain:(laid.all λ x=>x.2.handleName?.isNone)=true)(hs:zue cx.P cx.glob laid)(hL:laidMetH cx.P laid W):Inv cx W [] mu0:=by
 rw [MakeChecks.laidMetH_plain _ _ _ hplain] at hL;obtain ⟨ps,hv,_⟩:=hL;refine ⟨λ id o h=>(by cases h),λ id id' o o' b i h=>(by cases h),?_,λ id o b i h=>(by cases h),λ b i (h:False)=>h.elim,λ r es clock i _ (h:False)=>h.elim⟩
 intro g x hg;rw [z83];obtain ⟨n,d,h1,h2,h34⟩:=hs g x hg;obtain ⟨t,h3,h4⟩:=Option.bind_eq_some_iff.1 h34;obtain ⟨cs,hc,hr,ho⟩:=zlt hv n d h1 g t _ h2 h3 h4;have hlen:cs.size=x.cells.length:=by simpa using hr.1
 refine ⟨λ j=>cs.getD j undef,λ j hj=>?_,λ j c hjc=>?_⟩
 ·have hlt:j<cs.size:=by omega
  have e:cs.getD j undef=cs[j]:=by simp [Array.getD_eq_getD_getElem?,hlt]
  rw [hc];simp only [e];exact ⟨by simp [hlt],λ h=>h,ho _ (by simp)⟩
 ·have hlt:j<cs.size:=by have:=(pj.1 hjc).1; omega
  have e:cs.getD j undef=cs[j]:=by simp [Array.getD_eq_getD_getElem?,hlt]
  simp only [e];exact hr.2 j _ c (by simp [hlt]) hjc
theorem kept_but(h:Kept W zcy W'):W.keptBut W' (λ _=>False):=by
 refine ⟨h.os,h.output,λ i hi=>?_⟩;rw [h.blk i hi λ _ h=>h];cases hw:W.heap[i]? with
 | none=>rfl
 | some o=>cases o <;> first | exact ⟨rfl,rfl,rfl,λ _ _=>rfl⟩ | exact .inr ⟨rfl,rfl⟩ | rfl
theorem law_callsN{f n:Nat}{ds:List D}{args:List Value}{x:D}(hnat:v8 cx cx.nat)(hn:yy cx.P)(hmix:cx.P.follows .mixedOrders=true)(hi:Inv cx W [] mu0)(hargs:RDs W zcy args ds)
  (h:wh cx n f (ds.map .d) []=some (.ret (.d x),[])):Calls cx.P f args.toArray W λ e W'=>∃ v,e=.returned v∧RD W' zcy v x∧Kept W zcy W':=by
 have hv:RVs W [] mu0 args (ds.map .d):=by
  refine ⟨by simpa using hargs.1,λ i v y hx hy=>?_⟩
  rw [List.getElem?_map,Option.map_eq_some_iff] at hy;obtain ⟨d,hd,rfl⟩:=hy;refine .d _ _ ?_;rw [z83];exact hargs.2 i v d hx hd
 have hids:∀ i∈V.idsL (ds.map .d),i<([]:St).length:=by
  intro i hi;have:V.idsL (ds.map .d)=[]:=by
   clear h hv hargs hi
   induction ds with
   | nil=>rfl
   | cons d ds ih=>simp [V.idsL,V.ids,ih]
  rw [this] at hi; cases hi
 obtain ⟨_,_,_,hc⟩:=(z25 hn hmix hnat n).2 f _ [] _ _ h W mu0 args hi (λ k o h=>(by cases h)) hids (λ k hk=>(by cases hk)) hv
 refine hc.mono λ e W' ⟨μ',haf,hm⟩=>?_;cases e with
 | returned v=>
  have hm:RV W' [] μ' v (.d x):=hm;have hfr:zp [] μ'=zcy:=by
   funext b i;apply propext;constructor
   ·rintro (h | ⟨id,o,h,_⟩)
    ·rw [haf.fr] at h; exact h
    ·cases h
   ·exact λ h=>h.elim
  refine ⟨v,rfl,?_,?_⟩
  ·cases hm with | d _ _ hd=>rw [hfr] at hd; exact hd
  ·have hk:=haf.goes.kept;have hmine:Mine [] mu0=zcy:=by
    funext b i;apply propext;constructor
    ·rintro ⟨id,o,h,_⟩; cases h
    ·exact λ h=>h.elim
   rw [hmine] at hk;exact hk
 | panicked chain=>exact hm.elim
 | outgrown=>exact hm.elim
end
section
variable {R:Type} {cx:Cx}
def knows(cx:Cx)(call call':yk):Prop:=∀ f args σ r,cx.dom f args=true→call f args σ=some r→call' f args σ=some r
theorem zga{call call':yk}(hk:knows cx call call'){σ:St}{t f:Nat}{args:List V}{xs:List Nat}{K:Oc→De→List Nat→Option R}{r:R}(h:vp cx call σ t f args xs K=some r):vp cx call' σ t f args xs K=some r:=by
 unfold vp at h ⊢;simp only at h ⊢;obtain ⟨hc,h⟩:=zc h;obtain ⟨hd,h⟩:=zc h;rw [hc,hd];simp only [za,cond_true];cases hq:call f (V.renL (xc (w8 σ 1000 (V.idsL args++xs) [])) args) (xb σ (w8 σ 1000 (V.idsL args++xs) []) 0 (w8 σ 1000 (V.idsL args++xs) [])) with
 | none=>rw [hq] at h; cases h
 | some p=>rw [hq] at h; rw [hk _ _ _ _ hd hq]; exact h
theorem zq9{call call':yk}(hk:knows cx call call'){m nt:Nat}{o:Oper}{fr:Fr}{σ:St}{p:Tri}(h:zam cx m nt call o fr σ=some p):zam cx m nt call' o fr σ=some p:=by
 unfold zam at h ⊢;obtain ⟨dst,op,type,pos,after,guard⟩:=o;cases op
 case makeFunc fn first caps=>cases fn <;> exact h
 case makeMap t r=>cases r <;> exact h
 case call c=>
  obtain ⟨callee,cargs,ctypes⟩:=c;cases callee with
  | value f=>
   simp only [xn] at h ⊢;obtain ⟨v,hv,h⟩:=zb h;simp only [hv,zd];split at h
   ·obtain ⟨l,hl,h⟩:=zb h;simp only [hl];exact zga hk h
   ·cases hgr:(cx.grow _).isSome <;> rw [hgr] at h <;> simp only [cond_true,cond_false] at h ⊢
    rotate_left
    ·exact h
    cases hsm:(zg1 cx.P _&&List.isEmpty _) <;> rw [hsm] at h <;> simp only [cond_true,cond_false] at h ⊢
    rotate_left
    ·obtain ⟨l,hl,h⟩:=zb h;simp only [hl];exact h
    cases hgv:cx.gives _ <;> rw [hgv] at h
    ·cases hnil:(cx.keep _&&zit cargs.toList) <;> rw [hnil] at h
     ·obtain ⟨l,hl,h⟩:=zb h;simp only [hl,cond_false];exact zga hk h
     ·obtain ⟨l,hl,h⟩:=zb h;obtain ⟨hc,h⟩:=zc h;simp only [hl,cond_true,cond_false,hc,za];exact zga hk h
    ·obtain ⟨l,hl,h⟩:=zb h;obtain ⟨hc,h⟩:=zc h;simp only [hl,cond_true,hc,za];exact zga hk h
   ·cases h
  | invoke r nm=>exact h
  | builtin b=>cases b <;> exact h
 all_goals exact h
theorem zlw{ops:List Oper}{o:Oper}{fr:Fr}{yes no yes' no':Fr→Option R}{r:R}(hy:∀ fr,yes fr=some r→yes' fr=some r)(hn:∀ fr,no fr=some r→no' fr=some r)
  (h:zct ops o fr yes no=some r):zct ops o fr yes' no'=some r:=by
 unfold zct at h ⊢;split at h
 ·exact hy _ h
 ·split at h
  ·exact hn _ h
  ·split at h
   ·have key:∀ (b want:Bool) (p q:Fr),(bif b then (bif want then yes p else no p) else (bif want then no q else yes q))=some r→(bif b then (bif want then yes' p else no' p) else (bif want then no' q else yes' q))=some r:=by
     intro b want p q h;cases b <;> cases want <;> first | exact hy _ h | exact hn _ h
    exact key _ _ _ _ h
   ·exact hn _ h
   ·cases h
theorem zaw{call call':yk}(hk:knows cx call call'){m nt:Nat}{ops:List Oper}{K K':Ex→Fr→St→Option R}{r:R}(hK:∀ e fr σ,K e fr σ=some r→K' e fr σ=some r) :
  ∀ (l:List Oper) (fr:Fr) (σ:St),zbq cx m nt call ops l fr σ K=some r→zbq cx m nt call' ops l fr σ K'=some r
 | [],fr,σ,h=>hK _ _ _ h
 | o::l,fr,σ,h=>by
  unfold zbq at h ⊢;obtain ⟨hd,h⟩:=zc h;rw [hd];simp only [za,cond_true];refine zlw (λ fr h=>?_) (λ fr h=>zaw hk hK l _ _ h) h;obtain ⟨p,hp,h⟩:=zb h;simp only [zq9 hk hp,zd];obtain ⟨oc,δ,fp⟩:=p;cases oc with
  | val v=>exact zaw hk hK l _ _ h
  | pan v=>exact hK _ _ _ h
theorem za1{call call':yk}(hk:knows cx call call'){m nt:Nat}{ops:List Oper}{pre:List Nat}{K K':Ex→Fr→St→Option R}{r:R}(hK:∀ e fr σ,K e fr σ=some r→K' e fr σ=some r) :
  ∀ (l:List Oper) (i:Nat) (log:List Log) (dead:Option (Nat×V)) (fr:Fr) (σ:St),wv cx m nt call ops pre i l log dead fr σ K=some r→wv cx m nt call' ops pre i l log dead fr σ K'=some r
 | [],i,log,none,fr,σ,h=>by simp only [wv] at h ⊢; exact hK _ _ _ h
 | [],i,log,some (k,v),fr,σ,h=>by
  simp only [wv] at h ⊢;obtain ⟨hc,h⟩:=zc h;rw [hc];exact hK _ _ _ h
 | o::l,i,log,dead,fr,σ,h=>by
  simp only [wv] at h ⊢;cases hd:zkb pre i dead
  ·rw [hd,cond_false] at h;rw [cond_false];obtain ⟨hc,h⟩:=zc h;rw [hc];simp only [za,cond_true];refine zlw (λ fr h=>?_) (λ fr h=>za1 hk hK l _ _ _ _ _ h) h;obtain ⟨p,hp,h⟩:=zb h;obtain ⟨hm,h⟩:=zc h;simp only [zq9 hk hp,zd];simp only [hm,cond_true];obtain ⟨oc,δ,fp⟩:=p;cases oc with
   | val v=>exact za1 hk hK l _ _ _ _ _ h
   | pan v=>
    cases dead with
    | none=>exact za1 hk hK l _ _ _ _ _ h
    | some q=>exact h
  ·rw [hd,cond_true] at h;rw [cond_true];exact za1 hk hK l _ _ _ _ _ h
theorem zm5{nt:Nat}{σ:St}{fr:Fr}{q:Pend}{K K':Fr→St→Option R}{r:R}(hK:∀ fr σ,K fr σ=some r→K' fr σ=some r)(h:zgv cx nt σ fr q K=some r):zgv cx nt σ fr q K'=some r:=by
 unfold zgv at h ⊢;obtain ⟨hc,h⟩:=zc h;rw [hc];simp only [za,cond_true];split at h
 case h_2=>cases h
 obtain ⟨hc,h⟩:=zc h;simp only [hc,cond_true];obtain ⟨s,hs,h⟩:=zb h;obtain ⟨pl,hpl,h⟩:=zb h;obtain ⟨jv,hjv,h⟩:=zb h;obtain ⟨v,hv,h⟩:=zb h;obtain ⟨y,hy,h⟩:=zb h;simp only [hs,hpl,hjv,hv,hy,zd];split at h
 case h_2=>cases h
 split at h
 case h_2=>cases h
 obtain ⟨hc,h⟩:=zc h;simp only [*,cond_true];obtain ⟨sz',ps,hd,h9⟩:=zf5 h;obtain ⟨hc',h10⟩:=zc h9;unfold dataOf at hd ⊢;split at hd <;> first | (cases hd; done) | skip
 all_goals (cases hd; simp only [hc',cond_true]; exact hK _ _ h10)
theorem zur{nt:Nat}{ops:List Oper}{k:Nat}{fr:Fr}{σ:St}{K K':List Oper→Fr→St→Option R}{r:R}(hK:∀ l fr σ,K l fr σ=some r→K' l fr σ=some r)(h:zet cx nt ops k fr σ K=some r):zet cx nt ops k fr σ K'=some r:=by
 unfold zet at h ⊢;split at h
 case h_2=>cases h
 obtain ⟨q,hq,h⟩:=zb h;simp only [hq,zd];exact zm5 (λ fr σ h=>hK _ _ _ h) h
theorem zup{nt:Nat}{ops:List Oper}{k:Nat}{fr:Fr}{σ:St}{K K':Fr→St→Option R}{r:R}(hK:∀ fr σ,K fr σ=some r→K' fr σ=some r)(h:zes cx nt ops k fr σ K=some r):zes cx nt ops k fr σ K'=some r:=by
 unfold zes at h ⊢;split at h
 case h_2=>cases h
 obtain ⟨q,hq,h⟩:=zb h;simp only [hq,zd];refine zm5 (λ fr σ h=>?_) h;split at h
 case h_2=>cases h
 obtain ⟨hc,h⟩:=zc h;obtain ⟨pv,hpv,h⟩:=zb h;obtain ⟨v,hv,h⟩:=zb h;simp only [hc,hpv,hv,zd,cond_true,za];split at h
 case h_2=>cases h
 split at h
 case h_2=>cases h
 rename_i hido;obtain ⟨hc,h⟩:=zc h;simp only [hido,hc,cond_true];exact hK _ _ h
theorem zdc{m f key:Nat}{fr:Fr}{σ:St}{K K':Fr→St→Option R}{r:R}(hK:∀ fr σ,K fr σ=some r→K' fr σ=some r)(h:tidy cx m f key fr σ K=some r):tidy cx m f key fr σ K'=some r:=by
 unfold tidy at h ⊢;simp only at h ⊢;obtain ⟨hc,h⟩:=zc h;rw [hc];exact hK _ _ h
theorem za2{call call':yk}(hk:knows cx call call'){f m nt n n':Nat}(hn:n≤n'):∀ (c:Code) {K K':Ex→Fr→St→Option R} {r:R} {fr:Fr} {σ:St},
  (∀ e fr σ,K e fr σ=some r→K' e fr σ=some r)→yi cx f m nt call n c fr σ K=some r→yi cx f m nt call' n' c fr σ K'=some r:=by
 intro c
 induction c with
 | skip=>intro K K' r fr σ hK h; exact hK _ _ _ h
 | label l=>intro K K' r fr σ hK h; exact hK _ _ _ h
 | exit id=>intro K K' r fr σ hK h; exact hK _ _ _ h
 | goto l=>intro K K' r fr σ hK h; exact hK _ _ _ h
 | ret=>intro K K' r fr σ hK h; exact hK _ _ _ h
 | refuse why=>intro K K' r fr σ hK h; cases h
 | rangeFunc f params assign body _ _=>intro K K' r fr σ hK h; cases h
 | region id ops draw=>
  intro K K' r fr σ hK h;cases draw
  ·simp only [yi] at h ⊢;split at h
   ·exact zaw hk hK _ _ _ h
   ·rename_i k hk';refine zaw hk (λ e fr σ h=>?_) _ _ _ h;cases e with
    | normal=>exact zur (λ l fr σ h=>zaw hk hK _ _ _ h) h
    | _=>exact hK _ _ _ h
  ·simp only [yi] at h ⊢;split at h
   ·obtain ⟨hc,h⟩:=zc h;rw [hc];exact za1 hk hK _ _ _ _ _ _ h
   ·rename_i k hk';obtain ⟨hc1,h⟩:=zc h;obtain ⟨hc,h⟩:=zc h;rw [hc1,hc];refine za1 hk (λ e fr σ h=>?_) _ _ _ _ _ _ h;cases e with
    | normal=>exact zup (λ fr σ h=>hK _ _ _ h) h
    | _=>exact hK _ _ _ h
 | seq x y ihx ihy=>
  intro K K' r fr σ hK h;refine ihx (λ e fr σ h=>?_) h;cases e with
  | normal=>exact ihy hK h
  | _=>exact hK _ _ _ h
 | cond c x y ihx ihy=>
  intro K K' r fr σ hK h;simp only [yi] at h ⊢;obtain ⟨v,hv,h⟩:=zb h;obtain ⟨b,rfl,h⟩:=zkg h;simp only [hv,zd,asB];cases b
  ·exact ihy hK h
  ·exact ihx hK h
 | block id c ih=>
  intro K K' r fr σ hK h;refine ih (λ e fr σ h=>?_) h;cases e with
  | normal=>exact zdc (λ fr σ h=>hK _ _ _ h) h
  | exit i=>
   simp only at h ⊢;cases hb:Nat.beq i id <;> rw [hb] at h
   ·exact hK _ _ _ h
   ·exact zdc (λ fr σ h=>hK _ _ _ h) h
  | _=>exact hK _ _ _ h
 | loop c ih=>
  intro K K' r fr σ hK h;simp only [yi] at h ⊢;refine zdc (λ fr σ h=>?_) h
  have key:∀ (k k':Nat),k≤k'→∀ (fr:Fr) (σ:St),iter (yi cx f m nt call n c) (tidy cx m f (2 * yc c+1)) k fr σ K=some r →
    iter (yi cx f m nt call' n' c) (tidy cx m f (2 * yc c+1)) k' fr σ K'=some r:=by
   intro k
   induction k with
   | zero=>intro k' _ fr σ h; cases h
   | succ k ihk=>
    intro k' hle fr σ h;obtain ⟨k',rfl⟩:∃ j,k'=j+1:=⟨k' - 1,by omega⟩
    simp only [iter] at h ⊢;refine ih (λ e fr σ h=>?_) h;cases e with
    | normal=>exact zdc (λ fr σ h=>ihk k' (by omega) _ _ h) h
    | _=>exact hK _ _ _ h
  exact key n n' hn fr σ h
 | scope c ih=>
  intro K K' r fr σ hK h;refine ih (λ e fr σ h=>?_) h;cases e with
  | goto l=>cases h
  | _=>exact hK _ _ _ h
theorem zn2(n f:Nat)(args:List V)(σ:St):wh cx (n+1) f args σ=zah cx (wh cx n) n f args σ:=rfl
theorem zn0{call call':yk}(hk:knows cx call call'){f m nt n n':Nat}(hn:n≤n'):∀ (as:List Code) {K K':Ex→Fr→St→Option R} {r:R} {fr:Fr} {σ:St},
  (∀ e fr σ,K e fr σ=some r→K' e fr σ=some r)→zgm cx f m nt call n as fr σ K=some r→zgm cx f m nt call' n' as fr σ K'=some r
 | [],K,K',r,fr,σ,hK,h=>hK _ _ _ h
 | c::as,K,K',r,fr,σ,hK,h=>by
  simp only [zgm] at h ⊢;refine za2 hk hn c (λ e fr σ h=>?_) h;cases e with
  | normal=>exact zn0 hk hn as hK h
  | _=>exact hK _ _ _ h
theorem zwj{call call':yk}(hk:knows cx call call'){n n':Nat}(hn:n≤n'){g:Nat}{args:List V}{σ σ':St}{u:Option D}(h:zbg cx call n g args σ u=some σ'):zbg cx call' n' g args σ u=some σ':=by
 unfold zbg at h ⊢;split at h
 ·cases h
 ·rename_i fn hfn;split at h
  ·rename_i id ops c hb;split at h
   ·rename_i o r hops;obtain ⟨t,ht,h⟩:=zb h;obtain ⟨hc,h⟩:=zc h;simp only [hops,ht,zd,hc,za,cond_true];rw [hops] at h;refine zaw hk (λ e fr σ h=>?_) _ _ _ h;cases e with
    | normal=>exact za2 hk hn c (λ _ _ _ h=>h) h
    | _=>cases h
   ·cases h
  ·cases h
theorem zi3{rec rec':Nat→List V→St→Option D→Option St}(hr:∀ g args σ u r,rec g args σ u=some r→rec' g args σ u=some r){σ:St}{g:Nat}{cap:List V}{u:Option D}{K:De→Option R}{r:R}
  (h:zg6 cx rec σ g cap u K=some r):zg6 cx rec' σ g cap u K=some r:=by
 unfold zg6 at h ⊢;simp only at h ⊢;obtain ⟨hc,h⟩:=zc h;rw [hc];simp only [za,cond_true];cases hq:rec g (V.renL (xc (w8 σ 1000 (V.idsL cap) [])) cap) (xb σ (w8 σ 1000 (V.idsL cap) []) 0 (w8 σ 1000 (V.idsL cap) [])) u with
 | none=>rw [hq] at h; cases h
 | some p=>rw [hq] at h; rw [hr _ _ _ _ _ hq]; exact h
theorem zzy{rec rec':Nat→List V→St→Option D→Option St}(hr:∀ g args σ u r,rec g args σ u=some r→rec' g args σ u=some r){f m:Nat}{res:List ResultVar}{g:Nat}{cap:List V}{e:Ex}{fr:Fr}{σ:St}{r:Out×St}
  (h:zpq cx rec f m res g cap e fr σ=some r):zpq cx rec' f m res g cap e fr σ=some r:=by
 unfold zpq at h ⊢;split at h
 ·exact zi3 hr h
 ·exact zi3 hr h
 ·exact zi3 hr h
 ·cases h
theorem zwm{call call':yk}(hk:knows cx call call'){f m nt n n':Nat}(hn:n≤n'){res:List ResultVar}{c:Code}{fr:Fr}{σ:St}{r:Out×St}
  (h:zg4 cx f m nt res call n c fr σ=some r):zg4 cx f m nt res call' n' c fr σ=some r:=by
 unfold zg4 at h ⊢;split at h
 ·cases h
 ·rename_i as id ops t b hsp;refine zn0 hk hn as (λ e fr σ h=>?_) h;cases e with
  | normal=>
   refine zaw hk (λ e fr σ h=>?_) _ _ _ h;cases e with
   | normal=>
    simp only at h ⊢;obtain ⟨fv,hfv,h⟩:=zb h;simp only [hfv,zd];split at h
    ·obtain ⟨ht,h⟩:=zc h;simp only [ht,za,cond_true];exact za2 hk hn b (λ e fr σ h=>zzy (λ _ _ _ _ _ h=>zwj hk hn h) h) h
    ·cases h
   | _=>exact h
  | _=>exact h
theorem zly{call call':yk}(hk:knows cx call call'){n n':Nat}(hn:n≤n'):∀ f args σ r,zah cx call n f args σ=some r→zah cx call' n' f args σ=some r:=by
 intro f args σ r h;unfold zah at h ⊢;split at h
 ·exact h
 split at h
 ·cases h
 ·rename_i fn hfn;split at h
  ·cases h
  ·rename_i c hc;cases hd:cx.dfr f <;> rw [hd] at h
   ·exact za2 hk hn c (λ _ _ _ h=>h) h
   ·exact zwm hk hn h
theorem zfz:∀ (n n':Nat),n≤n'→∀ f args σ r,wh cx n f args σ=some r→wh cx n' f args σ=some r
 | 0,_,_=>λ f args σ r h=>by cases h
 | n+1,0,h=>absurd h (by omega)
 | n+1,n'+1,h=>λ f args σ r hr=>by
  rw [zn2] at hr ⊢;exact zly (λ f args σ r _ h=>zfz n n' (by omega) f args σ r h) (by omega) f args σ r hr
end
section
variable {R:Type} {cx:Cx}
def zh(cx:Cx):yk:=λ f args σ=>
 open Classical in if h:∃ r n,wh cx n f args σ=some r then some h.choose else none
theorem lim_ex{f:Nat}{args:List V}{σ:St}{r:Out×St}(h:zh cx f args σ=some r):∃ n,wh cx n f args σ=some r:=by
 unfold zh at h;split at h
 ·rename_i hex;obtain ⟨n,hn⟩:=hex.choose_spec;cases h;exact ⟨n,hn⟩
 ·cases h
theorem zg0{f n:Nat}{args:List V}{σ:St}{r:Out×St}(h:wh cx n f args σ=some r):zh cx f args σ=some r:=by
 unfold zh;have hex:∃ r n,wh cx n f args σ=some r:=⟨r,n,h⟩;rw [dif_pos hex];obtain ⟨k,hk⟩:=hex.choose_spec;have h1:=zfz n (max n k) (Nat.le_max_left _ _) f args σ _ h;have h2:=zfz k (max n k) (Nat.le_max_right _ _) f args σ _ hk;rw [h1] at h2;exact h2.symm
def Ev(P:Nat→Prop):Prop:=∃ n₀,∀ n,n₀≤n→P n
theorem Ev.mono{P Q:Nat→Prop}(h:Ev P)(hpq:∀ n,P n→Q n):Ev Q:=let ⟨a,ha⟩:=h; ⟨a,λ n hn=>hpq n (ha n hn)⟩
theorem Ev.both{P Q:Nat→Prop}(h:Ev P)(h':Ev Q):Ev λ n=>P n∧Q n:=
 let ⟨a,ha⟩:=h; let ⟨b,hb⟩:=h'; ⟨max a b,λ n hn=>⟨ha n (by omega),hb n (by omega)⟩⟩
theorem z6y{f:Nat}{args:List V}{σ:St}{r:Out×St}(h:zh cx f args σ=some r):Ev λ n=>wh cx n f args σ=some r:=
 let ⟨k,hk⟩:=lim_ex h; ⟨k,λ n hn=>zfz k n hn f args σ r hk⟩
theorem zh0{σ:St}{t f:Nat}{args:List V}{xs:List Nat}{K:Oc→De→List Nat→Option R}{r:R}(h:vp cx (zh cx) σ t f args xs K=some r):Ev λ n=>vp cx (wh cx n) σ t f args xs K=some r:=by
 unfold vp at h ⊢;simp only at h ⊢;obtain ⟨hc,h⟩:=zc h;obtain ⟨hd,h⟩:=zc h;rw [hc,hd];simp only [za,cond_true];cases hq:zh cx f (V.renL (xc (w8 σ 1000 (V.idsL args++xs) [])) args) (xb σ (w8 σ 1000 (V.idsL args++xs) []) 0 (w8 σ 1000 (V.idsL args++xs) [])) with
 | none=>rw [hq] at h; cases h
 | some p=>
  rw [hq] at h;exact (z6y hq).mono λ n hn=>by rw [hn]; exact h
theorem Ev.all{P:Prop}(h:P):Ev λ _=>P:=⟨0,λ _ _=>h⟩
theorem zj5{m nt:Nat}{o:Oper}{fr:Fr}{σ:St}{p:Tri}(h:zam cx m nt (zh cx) o fr σ=some p):Ev λ n=>zam cx m nt (wh cx n) o fr σ=some p:=by
 unfold zam at h ⊢;obtain ⟨dst,op,type,pos,after,guard⟩:=o;cases op
 case makeFunc fn first caps=>cases fn <;> exact .all h
 case makeMap t r=>cases r <;> exact .all h
 case call c=>
  obtain ⟨callee,cargs,ctypes⟩:=c;cases callee with
  | value f=>
   simp only [xn] at h ⊢;obtain ⟨v,hv,h⟩:=zb h;simp only [hv,zd];split at h
   ·obtain ⟨l,hl,h⟩:=zb h;simp only [hl];exact zh0 h
   ·cases hgr:(cx.grow _).isSome <;> rw [hgr] at h <;> simp only [cond_true,cond_false] at h ⊢
    rotate_left
    ·exact .all h
    cases hsm:(zg1 cx.P _&&List.isEmpty _) <;> rw [hsm] at h <;> simp only [cond_true,cond_false] at h ⊢
    rotate_left
    ·obtain ⟨l,hl,h⟩:=zb h;simp only [hl];exact .all h
    cases hgv:cx.gives _ <;> rw [hgv] at h
    ·cases hnil:(cx.keep _&&zit cargs.toList) <;> rw [hnil] at h
     ·obtain ⟨l,hl,h⟩:=zb h;simp only [hl,cond_false];exact zh0 h
     ·obtain ⟨l,hl,h⟩:=zb h;obtain ⟨hc,h⟩:=zc h;simp only [hl,cond_true,cond_false,hc,za];exact zh0 h
    ·obtain ⟨l,hl,h⟩:=zb h;obtain ⟨hc,h⟩:=zc h;simp only [hl,cond_true,hc,za];exact zh0 h
   ·cases h
  | invoke r nm=>exact .all h
  | builtin b=>cases b <;> exact .all h
 all_goals exact .all h
theorem znv{ops : List Oper}{o : Oper}{fr : Fr}{yes no : Fr → Option R}{yes' no' : Nat → Fr → Option R}{r : R}(hy : ∀ fr, yes fr = some r → Ev λ n => yes' n fr = some r)
    (hn : ∀ fr, no fr = some r → Ev λ n => no' n fr = some r) (h : zct ops o fr yes no = some r) : Ev λ n => zct ops o fr (yes' n) (no' n) = some r := by
  unfold zct at h ⊢;split at h
  · exact hy _ h
  · split at h
    · exact hn _ h
    · split at h
      · have key : ∀ (b want : Bool) (p q : Fr), (bif b then (bif want then yes p else no p) else (bif want then no q else yes q)) = some r →
            Ev λ n => (bif b then (bif want then yes' n p else no' n p) else (bif want then no' n q else yes' n q)) = some r := by
          intro b want p q h;cases b <;> cases want <;> first | exact hy _ h | exact hn _ h
        exact key _ _ _ _ h
      · exact hn _ h
      · cases h
theorem zbz{m nt:Nat}{ops:List Oper}{K:Ex→Fr→St→Option R}{K':Nat→Ex→Fr→St→Option R}{r:R}(hK:∀ e fr σ,K e fr σ=some r→Ev λ n=>K' n e fr σ=some r) :
  ∀ (l:List Oper) (fr:Fr) (σ:St),zbq cx m nt (zh cx) ops l fr σ K=some r→Ev λ n=>zbq cx m nt (wh cx n) ops l fr σ (K' n)=some r
 | [],fr,σ,h=>hK _ _ _ h
 | o::l,fr,σ,h=>by
  unfold zbq at h ⊢;obtain ⟨hd,h⟩:=zc h;rw [hd];simp only [za,cond_true];refine znv (λ fr h=>?_) (λ fr h=>zbz hK l _ _ h) h;obtain ⟨p,hp,h⟩:=zb h;obtain ⟨oc,δ,fp⟩:=p;cases oc with
  | val v=>exact ((zj5 hp).both (zbz hK l _ _ h)).mono λ n hn=>by simp only [hn.1,zd]; exact hn.2
  | pan v=>exact ((zj5 hp).both (hK _ _ _ h)).mono λ n hn=>by simp only [hn.1,zd]; exact hn.2
theorem zb0{m nt:Nat}{ops:List Oper}{pre:List Nat}{K:Ex→Fr→St→Option R}{K':Nat→Ex→Fr→St→Option R}{r:R}(hK:∀ e fr σ,K e fr σ=some r→Ev λ n=>K' n e fr σ=some r) :
  ∀ (l:List Oper) (i:Nat) (log:List Log) (dead:Option (Nat×V)) (fr:Fr) (σ:St),wv cx m nt (zh cx) ops pre i l log dead fr σ K=some r→Ev λ n=>wv cx m nt (wh cx n) ops pre i l log dead fr σ (K' n)=some r
 | [],i,log,none,fr,σ,h=>by simp only [wv] at h ⊢; exact hK _ _ _ h
 | [],i,log,some (k,v),fr,σ,h=>by
  simp only [wv] at h ⊢;obtain ⟨hc,h⟩:=zc h;rw [hc];exact hK _ _ _ h
 | o::l,i,log,dead,fr,σ,h=>by
  simp only [wv] at h ⊢;cases hd:zkb pre i dead
  ·rw [hd,cond_false] at h;simp only [cond_false];obtain ⟨hc,h⟩:=zc h;rw [hc];simp only [za,cond_true];refine znv (λ fr h=>?_) (λ fr h=>zb0 hK l _ _ _ _ _ h) h;obtain ⟨p,hp,h⟩:=zb h;obtain ⟨hm,h⟩:=zc h;obtain ⟨oc,δ,fp⟩:=p;cases oc with
   | val v=>exact ((zj5 hp).both (zb0 hK l _ _ _ _ _ h)).mono λ n hn=>by simp only [hn.1,zd,hm,cond_true]; exact hn.2
   | pan v=>
    cases dead with
    | none=>exact ((zj5 hp).both (zb0 hK l _ _ _ _ _ h)).mono λ n hn=>by simp only [hn.1,zd,hm,cond_true]; exact hn.2
    | some q=>cases h
  ·rw [hd,cond_true] at h;simp only [cond_true];exact zb0 hK l _ _ _ _ _ h
theorem zp6{nt:Nat}{σ:St}{fr:Fr}{q:Pend}{K:Fr→St→Option R}{K':Nat→Fr→St→Option R}{r:R}(hK:∀ fr σ,K fr σ=some r→Ev λ n=>K' n fr σ=some r)(h:zgv cx nt σ fr q K=some r) :
  Ev λ n=>zgv cx nt σ fr q (K' n)=some r:=by
 have key:∃ fr' σ',K fr' σ'=some r∧∀ K'':Fr→St→Option R,K'' fr' σ'=some r→zgv cx nt σ fr q K''=some r:=by
  unfold zgv at h ⊢;obtain ⟨hc,h⟩:=zc h;rw [hc];simp only [za,cond_true];split at h
  case h_2=>cases h
  obtain ⟨hc,h⟩:=zc h;simp only [hc,cond_true];obtain ⟨s,hs,h⟩:=zb h;obtain ⟨pl,hpl,h⟩:=zb h;obtain ⟨jv,hjv,h⟩:=zb h;obtain ⟨v,hv,h⟩:=zb h;obtain ⟨y,hy,h⟩:=zb h;simp only [hs,hpl,hjv,hv,hy,zd];split at h
  case h_2=>cases h
  split at h
  case h_2=>cases h
  obtain ⟨hc,h⟩:=zc h;simp only [*,cond_true];obtain ⟨sz',ps,hd,h9⟩:=zf5 h;obtain ⟨hc',h10⟩:=zc h9;refine ⟨_,_,h10,λ K'' hK''=>?_⟩;unfold dataOf at hd ⊢;split at hd <;> first | (cases hd; done) | skip
  all_goals (cases hd; simp only [hc',cond_true]; exact hK'')
 obtain ⟨fr',σ',h1,h2⟩:=key;exact (hK _ _ h1).mono λ n hn=>h2 _ hn
theorem zwl{nt:Nat}{ops:List Oper}{k:Nat}{fr:Fr}{σ:St}{K:List Oper→Fr→St→Option R}{K':Nat→List Oper→Fr→St→Option R}{r:R}(hK:∀ l fr σ,K l fr σ=some r→Ev λ n=>K' n l fr σ=some r)
  (h:zet cx nt ops k fr σ K=some r):Ev λ n=>zet cx nt ops k fr σ (K' n)=some r:=by
 unfold zet at h ⊢;split at h
 case h_2=>cases h
 obtain ⟨q,hq,h⟩:=zb h;simp only [hq,zd];exact zp6 (λ fr σ h=>hK _ _ _ h) h
theorem zwi{nt:Nat}{ops:List Oper}{k:Nat}{fr:Fr}{σ:St}{K:Fr→St→Option R}{K':Nat→Fr→St→Option R}{r:R}(hK:∀ fr σ,K fr σ=some r→Ev λ n=>K' n fr σ=some r)(h:zes cx nt ops k fr σ K=some r):Ev λ n=>zes cx nt ops k fr σ (K' n)=some r:=by
 unfold zes at h ⊢;split at h
 case h_2=>cases h
 obtain ⟨q,hq,h⟩:=zb h;simp only [hq,zd];refine zp6 (λ fr σ h=>?_) h;split at h
 case h_2=>cases h
 obtain ⟨hc,h⟩:=zc h;obtain ⟨pv,hpv,h⟩:=zb h;obtain ⟨v,hv,h⟩:=zb h;simp only [hc,hpv,hv,zd,cond_true,za];split at h
 case h_2=>cases h
 split at h
 case h_2=>cases h
 rename_i hido;obtain ⟨hc,h⟩:=zc h;simp only [hido,hc,cond_true];exact hK _ _ h
theorem zjc{m f key:Nat}{fr:Fr}{σ:St}{K:Fr→St→Option R}{K':Nat→Fr→St→Option R}{r:R}(hK:∀ fr σ,K fr σ=some r→Ev λ n=>K' n fr σ=some r)(h:tidy cx m f key fr σ K=some r) :
  Ev λ n=>tidy cx m f key fr σ (K' n)=some r:=by
 unfold tidy at h ⊢;simp only at h ⊢;obtain ⟨hc,h⟩:=zc h;rw [hc];exact hK _ _ h
theorem zf0{f m nt N:Nat}:∀ (c:Code) {K:Ex→Fr→St→Option R} {K':Nat→Ex→Fr→St→Option R} {r:R} {fr:Fr} {σ:St},
  (∀ e fr σ,K e fr σ=some r→Ev λ n=>K' n e fr σ=some r)→yi cx f m nt (zh cx) N c fr σ K=some r→Ev λ n=>yi cx f m nt (wh cx n) n c fr σ (K' n)=some r:=by
 intro c
 induction c with
 | skip=>intro K K' r fr σ hK h; exact hK _ _ _ h
 | label l=>intro K K' r fr σ hK h; exact hK _ _ _ h
 | exit id=>intro K K' r fr σ hK h; exact hK _ _ _ h
 | goto l=>intro K K' r fr σ hK h; exact hK _ _ _ h
 | ret=>intro K K' r fr σ hK h; exact hK _ _ _ h
 | refuse why=>intro K K' r fr σ hK h; cases h
 | rangeFunc f params assign body _ _=>intro K K' r fr σ hK h; cases h
 | region id ops draw=>
  intro K K' r fr σ hK h;cases draw
  ·simp only [yi] at h ⊢;generalize cx.pend f id=pk at h ⊢;cases pk with
   | none=>exact zbz hK _ _ _ h
   | some k=>
    refine zbz (K':=λ n e fr σ=>_) (λ e fr σ h=>?_) _ _ _ h;cases e with
    | normal=>exact zwl (λ l fr σ h=>zbz hK _ _ _ h) h
    | _=>exact hK _ _ _ h
  ·simp only [yi] at h ⊢;generalize cx.pend f id=pk at h ⊢;cases pk with
   | none=>
    obtain ⟨hc,h⟩:=zc h;rw [hc];exact zb0 hK _ _ _ _ _ _ h
   | some k=>
    simp only at h ⊢;obtain ⟨hc1,h⟩:=zc h;obtain ⟨hc,h⟩:=zc h;rw [hc1,hc];refine zb0 (K':=λ n e fr σ=>_) (λ e fr σ h=>?_) _ _ _ _ _ _ h;cases e with
    | normal=>exact zwi (λ fr σ h=>hK _ _ _ h) h
    | _=>exact hK _ _ _ h
 | seq x y ihx ihy=>
  intro K K' r fr σ hK h;refine ihx (λ e fr σ h=>?_) h;cases e with
  | normal=>exact ihy hK h
  | _=>exact hK _ _ _ h
 | cond c x y ihx ihy=>
  intro K K' r fr σ hK h;simp only [yi] at h ⊢;obtain ⟨v,hv,h⟩:=zb h;obtain ⟨b,rfl,h⟩:=zkg h;simp only [hv,zd,asB];cases b
  ·exact ihy hK h
  ·exact ihx hK h
 | block id c ih=>
  intro K K' r fr σ hK h;refine ih (λ e fr σ h=>?_) h;cases e with
  | normal=>exact zjc (λ fr σ h=>hK _ _ _ h) h
  | exit i=>
   simp only at h ⊢;cases hb:Nat.beq i id <;> rw [hb] at h
   ·exact hK _ _ _ h
   ·exact zjc (λ fr σ h=>hK _ _ _ h) h
  | _=>exact hK _ _ _ h
 | loop c ih=>
  intro K K' r fr σ hK h;simp only [yi] at h ⊢;refine zjc (λ fr σ h=>?_) h
  have key:∀ (k:Nat),∀ (fr:Fr) (σ:St),iter (yi cx f m nt (zh cx) N c) (tidy cx m f (2 * yc c+1)) k fr σ K=some r →
    Ev λ n=>∀ k',k≤k'→iter (yi cx f m nt (wh cx n) n c) (tidy cx m f (2 * yc c+1)) k' fr σ (K' n)=some r:=by
   intro k
   induction k with
   | zero=>intro fr σ h; cases h
   | succ k ihk=>
    intro fr σ h;simp only [iter] at h;have h1:Ev λ n=>∀ k',k≤k'→iter (yi cx f m nt (wh cx n) n c) (tidy cx m f (2 * yc c+1)) (k'+1) fr σ (K' n)=some r:=by
     -- one number of rounds for all
     have:=ih (K:=λ e fr σ=>match e with
      | .normal=>tidy cx m f (2 * yc c+1) fr σ λ fr σ=>iter (yi cx f m nt (zh cx) N c) (tidy cx m f (2 * yc c+1)) k fr σ K
      | e=>K e fr σ)
      (K':=λ n e fr σ=>match e with
      | .normal=>tidy cx m f (2 * yc c+1) fr σ λ fr σ=>iter (yi cx f m nt (wh cx n) n c) (tidy cx m f (2 * yc c+1)) k fr σ (K' n)
      | e=>K' n e fr σ) (r:=r) (fr:=fr) (σ:=σ) (λ e fr σ h=>by
       cases e with
       | normal=>exact zjc (λ fr σ h=>(ihk fr σ h).mono λ n hn=>hn k (Nat.le_refl k)) h
       | _=>exact hK _ _ _ h) h
     refine this.mono λ n hn k' hk'=>?_;simp only [iter]
     have hmono:∀ (k k':Nat),k≤k'→∀ (fr:Fr) (σ:St),iter (yi cx f m nt (wh cx n) n c) (tidy cx m f (2 * yc c+1)) k fr σ (K' n)=some r →
       iter (yi cx f m nt (wh cx n) n c) (tidy cx m f (2 * yc c+1)) k' fr σ (K' n)=some r:=by
      intro k
      induction k with
      | zero=>intro k' _ fr σ h; cases h
      | succ k ihk=>
       intro k' hle fr σ h;obtain ⟨k',rfl⟩:∃ j,k'=j+1:=⟨k' - 1,by omega⟩
       simp only [iter] at h ⊢;refine za2 (λ _ _ _ _ _ h=>h) (Nat.le_refl _) c (λ e fr σ h=>?_) h;cases e with
       | normal=>exact zdc (λ fr σ h=>ihk k' (by omega) _ _ h) h
       | _=>exact h
     refine za2 (λ _ _ _ _ _ h=>h) (Nat.le_refl _) c (λ e fr σ h=>?_) hn;cases e with
     | normal=>exact zdc (λ fr σ h=>hmono k k' hk' _ _ h) h
     | _=>exact h
    refine h1.mono λ n hn k' hk'=>?_;obtain ⟨k',rfl⟩:∃ j,k'=j+1:=⟨k' - 1,by omega⟩
    exact hn k' (by omega)
  obtain ⟨a,ha⟩:=key N fr σ h;exact ⟨max a N,λ n hn=>ha n (by omega) n (by omega)⟩
 | scope c ih=>
  intro K K' r fr σ hK h;refine ih (λ e fr σ h=>?_) h;cases e with
  | goto l=>cases h
  | _=>exact hK _ _ _ h
theorem zq8{f m nt N:Nat}:∀ (as:List Code) {K:Ex→Fr→St→Option R} {K':Nat→Ex→Fr→St→Option R} {r:R} {fr:Fr} {σ:St},
  (∀ e fr σ,K e fr σ=some r→Ev λ n=>K' n e fr σ=some r)→zgm cx f m nt (zh cx) N as fr σ K=some r→Ev λ n=>zgm cx f m nt (wh cx n) n as fr σ (K' n)=some r
 | [],K,K',r,fr,σ,hK,h=>hK _ _ _ h
 | c::as,K,K',r,fr,σ,hK,h=>by
  simp only [zgm] at h ⊢;refine zf0 c (λ e fr σ h=>?_) h;cases e with
  | normal=>exact zq8 as hK h
  | _=>exact hK _ _ _ h
theorem zzt{N g:Nat}{args:List V}{σ σ':St}{u:Option D}(h:zbg cx (zh cx) N g args σ u=some σ'):Ev λ n=>zbg cx (wh cx n) n g args σ u=some σ':=by
 unfold zbg at h ⊢;split at h
 ·cases h
 ·rename_i fn hfn;split at h
  ·rename_i id ops c hb;split at h
   ·rename_i o r hops;obtain ⟨t,ht,h⟩:=zb h;obtain ⟨hc,h⟩:=zc h;simp only [hops,ht,zd,hc,za,cond_true];rw [hops] at h;refine zbz (λ e fr σ h=>?_) _ _ _ h;cases e with
    | normal=>exact zf0 c (λ _ _ _ h=>.all h) h
    | _=>cases h
   ·cases h
  ·cases h
theorem zlc{N:Nat}{σ:St}{g:Nat}{cap:List V}{u:Option D}{K:De→Option R}{r:R}
  (h:zg6 cx (zbg cx (zh cx) N) σ g cap u K=some r):Ev λ n=>zg6 cx (zbg cx (wh cx n) n) σ g cap u K=some r:=by
 unfold zg6 at h ⊢;simp only at h ⊢;obtain ⟨hc,h⟩:=zc h;rw [hc];simp only [za,cond_true];cases hq:zbg cx (zh cx) N g (V.renL (xc (w8 σ 1000 (V.idsL cap) [])) cap) (xb σ (w8 σ 1000 (V.idsL cap) []) 0 (w8 σ 1000 (V.idsL cap) [])) u with
 | none=>rw [hq] at h; cases h
 | some p=>rw [hq] at h; exact (zzt hq).mono λ n hn=>by rw [hn]; exact h
theorem z29{N f m:Nat}{res:List ResultVar}{g:Nat}{cap:List V}{e:Ex}{fr:Fr}{σ:St}{r:Out×St}
  (h:zpq cx (zbg cx (zh cx) N) f m res g cap e fr σ=some r):Ev λ n=>zpq cx (zbg cx (wh cx n) n) f m res g cap e fr σ=some r:=by
 unfold zpq at h ⊢;split at h
 ·exact zlc h
 ·exact zlc h
 ·exact zlc h
 ·cases h
theorem zzx{f m nt N:Nat}{res:List ResultVar}{c:Code}{fr:Fr}{σ:St}{r:Out×St}
  (h:zg4 cx f m nt res (zh cx) N c fr σ=some r):Ev λ n=>zg4 cx f m nt res (wh cx n) n c fr σ=some r:=by
 unfold zg4 at h ⊢;split at h
 ·cases h
 ·rename_i as id ops t b hsp;refine zq8 as (K':=λ n e fr σ=>_) (λ e fr σ h=>?_) h;cases e with
  | normal=>
   refine zbz (K':=λ n e fr σ=>_) (λ e fr σ h=>?_) _ _ _ h;cases e with
   | normal=>
    simp only at h ⊢;obtain ⟨fv,hfv,h⟩:=zb h;simp only [hfv,zd];split at h
    ·obtain ⟨ht,h⟩:=zc h;simp only [ht,za,cond_true];exact zf0 b (λ e fr σ h=>z29 h) h
    ·cases h
   | _=>exact .all h
  | _=>exact .all h
theorem z2f{N f:Nat}{args:List V}{σ:St}{r:Out×St}(h:zah cx (zh cx) N f args σ=some r):zh cx f args σ=some r:=by
 have:Ev λ n=>zah cx (wh cx n) n f args σ=some r:=by
  unfold zah at h ⊢;split at h
  ·exact .all h
  split at h
  ·cases h
  ·rename_i fn hfn;split at h
   ·cases h
   ·rename_i c hc;cases hd:cx.dfr f <;> rw [hd] at h
    ·exact zf0 c (λ e fr σ h=>.all h) h
    ·exact zzx h
 obtain ⟨a,ha⟩:=this;exact zg0 (n:=a+1) (by rw [zn2]; exact ha a (Nat.le_refl a))
end
section
variable {α R:Type} {cx:Cx} {σ:St}
theorem zsx(site t:Nat)(s x:V)(b:Bool)(F:V→De→List Nat→Option α)(K:α→Option R):zd (zej cx σ site t s x b F) K=zej cx σ site t s x b λ a b c=>zd (F a b c) K:=by
 unfold zej;split <;> try rfl
 simp only [zu4,zw,y5];congr 1; funext a l; congr 1; congr 1;split <;> try rfl
 all_goals (split <;> simp only [zw,zu])
theorem ztn(site t:Nat)(x:V)(lo hi mx:Option V)(F:V→De→List Nat→Option α)(K:α→Option R):zd (zfj cx σ site t x lo hi mx F) K=zfj cx σ site t x lo hi mx λ a b c=>zd (F a b c) K:=by
 unfold zfj;split <;> try rfl
 ·split <;> simp only [zov,zu]
 ·simp only [zoi,zw];congr 1; congr 1; funext a l; congr 1;split <;> simp only [zov,zw,y5]
theorem zzh(t:Nat)(x:V)(F:V→List Nat→Option α)(K:α→Option R):zd (lenV cx σ t x F) K=lenV cx σ t x λ a b=>zd (F a b) K:=by
 unfold lenV;split <;> try rfl
 split <;> rfl
theorem zmd(t:Nat)(x i:V)(F:V→Option α)(K:α→Option R):zd (zbw cx t x i F) K=zbw cx t x i λ a=>zd (F a) K:=by
 unfold zbw;split <;> try rfl
 all_goals
  simp only [zw];congr 1;split <;> simp only [zis,zaz,zw,zu]
theorem zmf(s:Nat)(x:V)(f:Nat)(F:V→Option α)(K:α→Option R):zd (zby cx s x f F) K=zby cx s x f λ a=>zd (F a) K:=by
 unfold zby;simp only [ym,zw];congr 1; funext p; congr 1;split <;> rfl
theorem zm6(t:Nat)(v:V)(off:Nat)(F:V→Option α)(K:α→Option R):zd (zjo cx t v off F) K=zjo cx t v off λ a=>zd (F a) K:=by
 unfold zjo;simp only [zw,y5,zdf,zf7]
theorem zud(t:Nat)(x i:V)(F:V→Option α)(K:α→Option R):zd (zk3 cx t x i F) K=zk3 cx t x i λ a=>zd (F a) K:=by
 unfold zk3;split <;> try rfl
 ·split <;> simp only [zis,ym,zu]
 ·simp only [zis,zm6]
theorem zsw(P:Program)(t:Nat)(ok:Bool)(x:V)(F:V→Option α)(K:α→Option R):zd (zkf P t ok x F) K=zkf P t ok x λ a=>zd (F a) K:=by
 unfold zkf;rw [zw];split
 ·rw [y5]; rfl
 ·rfl
theorem zza(l:List V)(F:V→Option α)(K:α→Option R):zd (zzb l F) K=zzb l λ a=>zd (F a) K:=by
 unfold zzb;split <;> rfl
theorem zwd(site g:Nat)(cap:List V)(args:List Operand)(fr:Fr)(F:Oc→De→List Nat→Option α)(K:α→Option R):zd (zic cx σ site g cap args fr F) K=zic cx σ site g cap args fr λ a b c=>zd (F a b c) K:=by
 unfold zic;split <;> try rfl
 simp only [ym];congr 1; funext e; congr 1; funext v;split <;> simp only [zw,zu]
theorem zw1(s t:Nat)(x:V)(F:V→List Nat→Option α)(K:α→Option R):zd (zoj cx σ s t x F) K=zoj cx σ s t x λ a b=>zd (F a b) K:=by
 unfold zoj;split <;> try rfl
 split <;> simp only [zw,zu]
theorem zku{β:Type}(o:Option β)(F:β→Option α)(E:Option α)(K:α→Option R):zd (zim o F E) K=zim o (λ b=>zd (F b) K) (zd E K):=by cases o <;> rfl
theorem zsb(t:Nat)(x k:V)(ok:Bool)(F:V→List Nat→Option α)(K:α→Option R):zd (zc4 cx σ t x k ok F) K=zc4 cx σ t x k ok λ a b=>zd (F a b) K:=by
 unfold zc4;split <;> try rfl
 simp only [ym,zo4,zw];congr 1; funext z; congr 1; funext key; congr 1;split <;> try rfl
 ·simp only [ym,zku,zaz,zax]
 ·split <;> simp only [ym,zku,zaz,zax,zu]
theorem zr9(t:Nat)(x k v:V)(F:De→List Nat→Option α)(K:α→Option R):zd (zc3 cx σ t x k v F) K=zc3 cx σ t x k v λ a b=>zd (F a b) K:=by
 unfold zc3;split <;> try rfl
 split <;> try rfl
 split <;> simp only [ym,zo4,zw,zku,zu]
theorem zmc(site t:Nat)(l c:V)(F:V→De→List Nat→Option α)(K:α→Option R):zd (vu cx σ site t l c F) K=vu cx σ site t l c λ a b d=>zd (F a b d) K:=by
 unfold vu;split <;> simp only [ym,zw,zu]
theorem zvl(v:V)(F:V→De→List Nat→Option α)(K:α→Option R):zd (zh8 σ v F) K=zh8 σ v λ a b d=>zd (F a b d) K:=by
 unfold zh8;split <;> try rfl
 split <;> simp only [zw,zu]
theorem zzv{m nt:Nat}{call:yk}{o:Oper}{fr:Fr}(F:Oc→De→List Nat→Option α)(K:α→Option R):zd (xn cx m nt call o fr σ F) K=xn cx m nt call o fr σ λ a b c=>zd (F a b c) K:=by
 obtain ⟨dst,op,type,pos,after,guard⟩:=o;cases op
 case makeFunc fn first caps=>cases fn <;> simp only [xn,zw,ym,zu,y5]
 case makeMap t r=>cases r <;> simp only [xn,zw,zu]
 case move x | assign x=>
  simp only [xn];split
  ·split <;> try rfl
   split <;> simp only [y5,zvu]
  ·simp only [ym,y5,zvl]
 case buildSlice t n ps=>
  simp only [xn];cases zsf cx nt dst ps.toList <;> cases cx.own nt (dst.getD 0) <;> split <;> simp only [ym,zw,zu,cond_true,cond_false]
 case nilCheck x=>
  simp only [xn,ym];congr 1; funext v;split <;> rfl
 case convert s t x=>
  simp only [xn,ym];congr 1; funext v;split
  ·split <;> simp only [zw,zu]
  ·simp only [zw0,zw1,y5]
 case makeInterface t x=>
  simp only [xn];split <;> try rfl
  simp only [ym];congr 1; funext v;split <;> rfl
 case panic x=>
  simp only [xn,ym];congr 1; funext v;split <;> rfl
 case call c=>
  obtain ⟨callee,cargs,ctypes⟩:=c;cases callee with
  | value f=>
   simp only [xn,ym];congr 1; funext v;split
   ·simp only [ym,zi2]
   ·simp only [y5,ym,zw,zi2,zza,zwd]
   ·rfl
  | invoke r nm=>rfl
  | builtin b=>
   cases b <;> try rfl
   ·simp only [xn];split <;> simp only [ym,zw,zsx,zu]
   ·simp only [xn];split <;> simp only [ym,zzh,zu]
 all_goals first | rfl | (simp only [xn,ym,zw,y5,zu,zsb,zr9,zmc,z3y,zv6,zti,z0d,z1d,zy8,ztn,zmf,zm6,zmd,zud,zo0,zdf,zsw]; done)
theorem zn1{m nt:Nat}{call:yk}{o:Oper}{fr:Fr}(K:Tri→Option R):zd (zam cx m nt call o fr σ) K=xn cx m nt call o fr σ λ a b c=>K (a,b,c):=by
 unfold zam;rw [zzv];rfl
structure CK (R:Type) where
 S:yk
 run:Nat→List V→St→(Out→St→Option R)→Option R
 ok:∀ g a σ K,run g a σ K=(match S g a σ with | some (o,σ')=>K o σ' | none=>none)
def CK.plain{R:Type}(S:yk):CK R:=⟨S,λ g a σ K=>match S g a σ with | some (o,σ')=>K o σ' | none=>none,λ _ _ _ _=>rfl⟩
instance {R:Type}:Coe yk (CK R):=⟨CK.plain⟩
def zlb(cx:Cx)(call:CK R)(σ:St)(t f:Nat)(args:List V)(xs:List Nat)(K:Oc→De→List Nat→Option R):Option R:=
 let ren:=w8 σ 1000 (V.idsL args++xs) []
 za (closedIn σ (V.idsL args++xs) ren) <| za (cx.dom f (V.renL (xc ren) args)) <| call.run f (V.renL (xc ren) args) (xb σ ren 0 ren) λ oc σ'=>match oc with
  | .ret v=>zai ren σ σ' 0 ren λ δ=>zf9 cx.P t (v.ren (zbi ren)) λ v=>K (.val v) δ ren
  | .pan v=>zai ren σ σ' 0 ren λ δ=>K (.pan (v.ren (zbi ren))) δ ren
theorem z0b{call:CK R}{t f:Nat}{args:List V}{xs:List Nat}{K:Oc→De→List Nat→Option R}:zlb cx call σ t f args xs K=vp cx call.S σ t f args xs K:=by
 unfold zlb vp;simp only;congr 1;congr 1;rw [call.ok];cases call.S f (V.renL (xc (w8 σ 1000 (V.idsL args++xs) [])) args) (xb σ (w8 σ 1000 (V.idsL args++xs) []) 0 (w8 σ 1000 (V.idsL args++xs) [])) with
 | none=>rfl
 | some p=>
  obtain ⟨o,s⟩:=p;cases o <;> rfl
def zyg(cx : Cx)(m nt : Nat)(call : CK R)(o : Oper)(fr : Fr)(σ : St)(K : Oc → De → List Nat → Option R) : Option R :=
  match o.op with
  | .call ⟨.value f, cargs, ctypes⟩ => zd (opd fr f) λ fv => (match fv with
        | .mfunc g first => zd (vz cx.P fr cargs.toList ctypes.toList) λ args => zlb cx call σ o.type g (first.map .d ++ zal (cx.keep g) args) [] K
        | .func g cap => bif (cx.grow g).isSome then zic cx σ (m + o.dst.getD 0) g cap cargs.toList fr K else bif zg1 cx.P g && cap.isEmpty then zd (vz cx.P fr cargs.toList ctypes.toList) λ l => zzb l λ v => K (.val v) [] [] else bif cx.gives g
          then zd (vz cx.P fr cargs.toList ctypes.toList) λ l => za (z7 σ [(m + o.dst.getD 0, .tok 0)]) (zlb cx call (vk σ (m + o.dst.getD 0) (.tok 0)) o.type g (zal (cx.keep g) l ++ cap) [m + o.dst.getD 0] λ oc δ fp => K oc ((m + o.dst.getD 0, .tok 0) :: δ) ((m + o.dst.getD 0) :: fp))
          else bif cx.keep g && zit cargs.toList
          then zd (zaq cx.P fr (m + o.dst.getD 0) cargs.toList ctypes.toList) λ l => za (z7 σ [(m + o.dst.getD 0, .tok 0)]) (zlb cx call (vk σ (m + o.dst.getD 0) (.tok 0)) o.type g (l ++ cap) [] λ oc δ fp => K oc ((m + o.dst.getD 0, .tok 0) :: δ) ((m + o.dst.getD 0) :: fp))
          else zd (vz cx.P fr cargs.toList ctypes.toList) λ args => zlb cx call σ o.type g (zal (cx.keep g) args ++ cap) [] K
        | _ => none)
  | _ => xn cx m nt call.S o fr σ K
theorem zut{m nt:Nat}{call:CK R}{o:Oper}{fr:Fr}{K:Oc→De→List Nat→Option R}:zyg cx m nt call o fr σ K=xn cx m nt call.S o fr σ K:=by
 obtain ⟨dst,op,type,pos,after,guard⟩:=o;cases op <;> try rfl
 case call c=>
  obtain ⟨callee,cargs,ctypes⟩:=c;cases callee <;> try rfl
  unfold zyg xn;simp only [z0b];congr 1
def zeu(cx:Cx)(m nt:Nat)(call:CK R)(ops:List Oper):List Oper→Fr→St→(Ex→Fr→St→Option R)→Option R
 | [],fr,σ,K=>K .normal fr σ
 | o::r,fr,σ,K=>za (zlz nt o.dst) <| zct ops o fr
   (λ fr=>zyg cx m nt call o fr σ λ oc δ _=>match oc with
    | .val v=>zeu cx m nt call ops r (zd4 fr o.dst v) (zf σ δ) K
    | .pan v=>K (.pan v) fr (zf σ δ))
   (λ fr=>zeu cx m nt call ops r (zd4 fr o.dst vq) σ K)
theorem zhv{m nt:Nat}{call:CK R}{ops:List Oper}{K:Ex→Fr→St→Option R}:∀ (l:List Oper) (fr:Fr) (σ:St),zbq cx m nt call.S ops l fr σ K=zeu cx m nt call ops l fr σ K
 | [],_,_=>rfl
 | o::l,fr,σ=>by
  unfold zbq zeu;congr 1;congr 1
  ·funext fr;rw [zn1,zut];congr 1;funext oc δ fp;cases oc with
   | val v=>exact zhv l _ _
   | pan v=>rfl
  ·funext fr;exact zhv l _ _
def zei(cx:Cx)(m nt:Nat)(call:CK R)(ops:List Oper)(pre:List Nat) :
  Nat→List Oper→List Log→Option (Nat×V)→Fr→St→(Ex→Fr→St→Option R)→Option R
 | _,[],_,none,fr,σ,K=>K .normal fr σ
 | _,[],log,some (k,v),_,σ,K=>za (log.all λ a=>a.w.isEmpty||Nat.beq a.i k||yx pre k a.i) (K (.pan v) [] σ)
 | i,o::r,log,dead,fr,σ,K=>
   bif zkb pre i dead then zei cx m nt call ops pre (i+1) r log dead fr σ K
   else za (zlz nt o.dst) <| zct ops o fr
    (λ fr=>zyg cx m nt call o fr σ λ oc δ fp=>za (log.all λ a=>zen pre a ⟨i,δ.map (·.1)++fp,δ.map (·.1)⟩) (match oc,dead with
     | .val u,_=>zei cx m nt call ops pre (i+1) r (⟨i,δ.map (·.1)++fp,δ.map (·.1)⟩::log) dead (zd4 fr o.dst u) (zf σ δ) K
     | .pan v,none=>zei cx m nt call ops pre (i+1) r (⟨i,δ.map (·.1)++fp,δ.map (·.1)⟩::log) (some (i,v)) fr (zf σ δ) K
     | .pan _,some _=>none))
    (λ fr=>zei cx m nt call ops pre (i+1) r log dead (zd4 fr o.dst vq) σ K)
theorem ze8{m nt:Nat}{call:CK R}{ops:List Oper}{pre:List Nat}{K:Ex→Fr→St→Option R}:∀ (l:List Oper) (i:Nat) (log:List Log) (dead:Option (Nat×V)) (fr:Fr) (σ:St),
  wv cx m nt call.S ops pre i l log dead fr σ K=zei cx m nt call ops pre i l log dead fr σ K
 | [],_,_,none,_,_=>rfl
 | [],_,_,some _,_,_=>rfl
 | o::l,i,log,dead,fr,σ=>by
  unfold wv zei;rw [ze8 l];congr 1;congr 1;congr 1
  ·funext fr;rw [zn1,zut];congr 1;funext oc δ fp;congr 1;cases oc with
   | val v=>exact ze8 l _ _ _ _ _
   | pan v=>
    cases dead with
    | none=>exact ze8 l _ _ _ _ _
    | some q=>rfl
  ·funext fr;exact ze8 l _ _ _ _ _
end
section
variable {R:Type} {cx:Cx}
def xv(cx:Cx)(f m nt:Nat)(call:CK R)(n:Nat):Code→Fr→St→(Ex→Fr→St→Option R)→Option R
 | .skip,fr,σ,K=>K .normal fr σ
 | .label _,fr,σ,K=>K .normal fr σ
 | .region id ops false,fr,σ,K=>(match cx.pend f id with
   | none=>zeu cx m nt call ops.toList ops.toList fr σ K
   | some k=>zeu cx m nt call ops.toList (ops.toList.take k) fr σ λ e fr σ=>match e with
     | .normal=>zet cx nt ops.toList k fr σ λ r fr σ=>zeu cx m nt call ops.toList r fr σ K
     | e=>K e fr σ)
 | .region id ops true,fr,σ,K=>(match cx.pend f id with
   | none=>za (zf2 ops.toList (vr ops.toList [])) (zei cx m nt call ops.toList (vr ops.toList []) 0 ops.toList [] none fr σ K)
   | some k=>za (zgs ops.toList k) <| za (zf2 ops.toList (vr ops.toList [])) (zei cx m nt call ops.toList (vr ops.toList []) 0 (ops.toList.take k) [] none fr σ λ e fr σ=>match e with
     | .normal=>zes cx nt ops.toList k fr σ (K .normal)
     | e=>K e fr σ))
 | .seq a b,fr,σ,K=>xv cx f m nt call n a fr σ λ e fr σ=>match e with
   | .normal=>xv cx f m nt call n b fr σ K
   | e=>K e fr σ
 | .cond c a b,fr,σ,K=>zd (opd fr c) λ v=>asB v λ t=>bif t then xv cx f m nt call n a fr σ K else xv cx f m nt call n b fr σ K
 | .block id c,fr,σ,K=>xv cx f m nt call n c fr σ λ e fr σ=>match e with
   | .normal=>tidy cx m f (2 * id) fr σ (K .normal)
   | .exit id'=>bif Nat.beq id' id then tidy cx m f (2 * id) fr σ (K .normal) else K (.exit id') fr σ
   | e=>K e fr σ
 | .loop c,fr,σ,K=>tidy cx m f (2 * yc c+1) fr σ λ fr σ=>
   iter (xv cx f m nt call n c) (tidy cx m f (2 * yc c+1)) n fr σ K
 | .exit id,fr,σ,K=>K (.exit id) fr σ
 | .goto l,fr,σ,K=>K (.goto l) fr σ
 | .ret,fr,σ,K=>K .ret fr σ
 | .scope c,fr,σ,K=>xv cx f m nt call n c fr σ λ e fr σ=>match e with
   | .goto _=>none
   | e=>K e fr σ
 | _,_,_,_=>none
theorem zj7{f m nt n:Nat}{call:CK R}:∀ (c:Code) (fr:Fr) (σ:St) (K:Ex→Fr→St→Option R),yi cx f m nt call.S n c fr σ K=xv cx f m nt call n c fr σ K:=by
 intro c
 induction c with
 | skip=>intros; rfl
 | label l=>intros; rfl
 | exit id=>intros; rfl
 | goto l=>intros; rfl
 | ret=>intros; rfl
 | refuse why=>intros; rfl
 | rangeFunc f params assign body _ _=>intros; rfl
 | region id ops draw=>
  intro fr σ K;cases draw
  ·unfold yi xv;cases cx.pend f id with
   | none=>exact zhv _ _ _
   | some k=>
    simp only [zhv];rfl
  ·unfold yi xv;cases cx.pend f id with
   | none=>simp only [ze8]
   | some k=>
    simp only [ze8];rfl
 | seq x y ihx ihy=>
  intro fr σ K;unfold yi xv;rw [ihx];congr 1;funext e fr σ;cases e <;> first | rfl | exact ihy _ _ _
 | cond c x y ihx ihy=>
  intro fr σ K;unfold yi xv;simp only [ihx,ihy]
 | block id c ih=>
  intro fr σ K;unfold yi xv;rw [ih];congr 1
 | loop c ih=>
  intro fr σ K;unfold yi xv;congr 1;funext fr σ;have e:(λ (fr:Fr) (σ:St) (K:Ex→Fr→St→Option R)=>yi cx f m nt call.S n c fr σ K)=λ fr σ K=>xv cx f m nt call n c fr σ K:=by
   funext fr σ K;exact ih fr σ K
  exact congrArg (λ body=>iter body (tidy cx m f (2 * yc c+1)) n fr σ K) e
 | scope c ih=>
  intro fr σ K;unfold yi xv;rw [ih];congr 1
def zsj(cx:Cx)(f m nt:Nat)(call:CK R)(n:Nat):List Code→Fr→St→(Ex→Fr→St→Option R)→Option R
 | [],fr,σ,K=>K .normal fr σ
 | a::r,fr,σ,K=>xv cx f m nt call n a fr σ λ e fr σ=>match e with
   | .normal=>zsj cx f m nt call n r fr σ K
   | e=>K e fr σ
theorem zye{f m nt n:Nat}{call:CK R}:∀ (as:List Code) (fr:Fr) (σ:St) (K:Ex→Fr→St→Option R),zgm cx f m nt call.S n as fr σ K=zsj cx f m nt call n as fr σ K
 | [],_,_,_=>rfl
 | a::as,fr,σ,K=>by
  unfold zgm zsj;rw [zj7];congr 1;funext e fr σ;cases e <;> first | rfl | exact zye as _ _ _
def zwk(cx:Cx)(call:yk)(n g:Nat)(args:List V)(σ:St)(u:Option D):Option St:=
 match cx.P.funcs[g]? with
 | none=>none
 | some fn=>
  match fn.body with
  | some (.seq (.region _ ops false) c)=>
   (match ops.toList with
    | o::r=>zd (zjn o) λ t=>za (Nat.blt t fn.ntmps&&fn.results.isEmpty) <|
     zeu cx σ.length fn.ntmps (CK.plain call) ops.toList r ((t,.d (z6l u))::qt 0 args) σ λ e fr σ'=>match e with
      | .normal=>xv cx g σ.length fn.ntmps (CK.plain call) n c fr σ' λ e _ σ'=>(match e with | .normal | .ret=>qn σ.length σ' (List.range σ.length) | _=>none)
      | _=>none
    | []=>none)
  | _=>none
theorem z45{call:yk}{n:Nat}:zbg cx call n=zwk cx call n:=by
 funext g args σ u;unfold zbg zwk;have e:∀ {R:Type},(CK.plain call:CK R).S=call:=rfl;simp only [←zhv,←zj7,e];rfl
def zwn(cx:Cx)(f m nt:Nat)(res:List ResultVar)(call:CK (Out×St))(n:Nat)(c:Code)(fr:Fr)(σ:St):Option (Out×St):=
 match zfi c with
 | none=>none
 | some (as,_,ops,t,b)=>
  zsj cx f m nt call n as fr σ λ e fr σ=>match e with
   | .normal=>zeu cx m nt call ops.toList ops.toList.dropLast fr σ λ e fr σ=>(match e with
     | .normal=>zd (zg fr t) λ fv=>(match fv with
       | .func g cap=>za (!zao b) (xv cx f m nt call n b fr σ (zpq cx (zwk cx call.S n) f m res g cap))
       | _=>none)
     | e=>zka cx f m res e fr σ)
   | e=>zka cx f m res e fr σ
theorem z48{f m nt n:Nat}{res:List ResultVar}{call:CK (Out×St)}{c:Code}{fr:Fr}{σ:St}:zg4 cx f m nt res call.S n c fr σ=zwn cx f m nt res call n c fr σ:=by
 unfold zg4 zwn;simp only [zye,zhv,zj7,z45];rfl
def zk(cx:Cx)(call:CK (Out×St))(n f:Nat)(args:List V)(σ:St):Option (Out×St):=
 match cx.nat f args σ with
 | some r=>some r
 | none=>
 match cx.P.funcs[f]? with
 | none=>none
 | some fn=>
  match fn.body with
  | none=>none
  | some c=>bif cx.dfr f then zwn cx f σ.length fn.ntmps fn.results.toList call n c (qt 0 args) σ
   else xv cx f σ.length fn.ntmps call n c (qt 0 args) σ (zka cx f σ.length fn.results.toList)
theorem zuo{call:CK (Out×St)}{n f:Nat}{args:List V}{σ:St}:zah cx call.S n f args σ=zk cx call n f args σ:=by
 unfold zah zk;simp only [z48,zj7];rfl
theorem zl{call:CK (Out×St)}(hk:knows cx call.S (zh cx)){N f:Nat}{args:List V}{σ:St}{r:Out×St}(h:zk cx call N f args σ=some r):zh cx f args σ=some r:=
 z2f (N:=N) (zly hk (Nat.le_refl N) f args σ r (by rw [zuo]; exact h))
theorem xl{call:yk}(hk:knows cx call (zh cx)){N f:Nat}{args:List V}{σ:St}{r:Out×St}(h:zk cx (CK.plain call) N f args σ=some r):zh cx f args σ=some r:=
 zl (call:=CK.plain call) hk h
end
section
variable {R:Type}
def codeOf(cx:Cx)(f:Nat):Code:=match cx.P.funcs[f]? with | some fn=>(match fn.body with | some c=>c | none=>.skip) | none=>.skip
def z13(cx:Cx)(f:Nat):Nat:=match cx.P.funcs[f]? with | some fn=>fn.ntmps | none=>0
def z81(cx:Cx)(f:Nat):List ResultVar:=match cx.P.funcs[f]? with | some fn=>fn.results.toList | none=>[]
def findLoop(r:Nat):Code→Option Code
 | .loop c=>bif Nat.beq (yc c) r then some c else findLoop r c
 | .seq a b=>(match findLoop r a with | some c=>some c | none=>findLoop r b)
 | .cond _ a b=>(match findLoop r a with | some c=>some c | none=>findLoop r b)
 | .block _ c=>findLoop r c
 | .scope c=>findLoop r c
 | _=>none
def z5y(cx:Cx)(f r:Nat):Code:=match findLoop r (codeOf cx f) with | some c=>c | none=>.skip
def LP(cx:Cx)(call:CK R)(n f m r k:Nat)(fr:Fr)(σ:St)(K:Ex→Fr→St→Option R):Option R:=
 iter (xv cx f m (z13 cx f) call n (z5y cx f r)) (tidy cx m f (2 * r+1)) k fr σ K
def zu5(cx:Cx)(f m nt:Nat)(call:CK R)(n r:Nat):Code→(Ex→Fr→St→Option R)→Option (Ex→Fr→St→Option R)
 | .loop c,K=>bif Nat.beq (yc c) r then some K else none
 | .seq a b,K=>(match zu5 cx f m nt call n r a (λ e fr σ=>match e with
   | .normal=>xv cx f m nt call n b fr σ K
   | e=>K e fr σ) with | some k=>some k | none=>zu5 cx f m nt call n r b K)
 | .cond _ a b,K=>(match zu5 cx f m nt call n r a K with | some k=>some k | none=>zu5 cx f m nt call n r b K)
 | .block id c,K=>zu5 cx f m nt call n r c λ e fr σ=>match e with
   | .normal=>tidy cx m f (2 * id) fr σ (K .normal)
   | .exit id'=>bif Nat.beq id' id then tidy cx m f (2 * id) fr σ (K .normal) else K (.exit id') fr σ
   | e=>K e fr σ
 | .scope c,K=>zu5 cx f m nt call n r c λ e fr σ=>match e with
   | .goto _=>none
   | e=>K e fr σ
 | _,_=>none
def AK(cx:Cx)(call:CK R)(n f m r:Nat)(K:Ex→Fr→St→Option R):Ex→Fr→St→Option R:=
 match zu5 cx f m (z13 cx f) call n r (codeOf cx f) K with | some k=>k | none=>λ _ _ _=>none
def inK(cx:Cx)(call:CK R)(n f m r k:Nat)(K:Ex→Fr→St→Option R):Ex→Fr→St→Option R:=λ e fr σ=>
 match e with
 | .normal=>tidy cx m f (2 * r+1) fr σ λ fr σ=>LP cx call n f m r k fr σ K
 | e=>K e fr σ
def AL(cx:Cx)(call:CK R)(n f m r r':Nat)(K:Ex→Fr→St→Option R):Ex→Fr→St→Option R:=
 match zu5 cx f m (z13 cx f) call n r' (z5y cx f r) K with | some k=>k | none=>λ _ _ _=>none
def EK(cx:Cx)(f m:Nat):Ex→Fr→St→Option (Out×St):=zka cx f m (z81 cx f)
end
section
variable {R:Type}
def qw(r:Nat):Code→Option (List Oper)
 | .region id ops _=>bif Nat.beq id r then some ops.toList else none
 | .loop c=>qw r c
 | .seq a b=>(match qw r a with | some c=>some c | none=>qw r b)
 | .cond _ a b=>(match qw r a with | some c=>some c | none=>qw r b)
 | .block _ c=>qw r c
 | .scope c=>qw r c
 | _=>none
def z1v(cx:Cx)(f r:Nat):List Oper:=match qw r (codeOf cx f) with | some l=>l | none=>[]
def zwz(cx:Cx)(f m nt:Nat)(call:CK R)(n r:Nat):Code→(Ex→Fr→St→Option R)→Option (Ex→Fr→St→Option R)
 | .region id _ _,K=>bif Nat.beq id r then some K else none
 | .seq a b,K=>(match zwz cx f m nt call n r a (λ e fr σ=>match e with
   | .normal=>xv cx f m nt call n b fr σ K
   | e=>K e fr σ) with | some k=>some k | none=>zwz cx f m nt call n r b K)
 | .cond _ a b,K=>(match zwz cx f m nt call n r a K with | some k=>some k | none=>zwz cx f m nt call n r b K)
 | .block id c,K=>zwz cx f m nt call n r c λ e fr σ=>match e with
   | .normal=>tidy cx m f (2 * id) fr σ (K .normal)
   | .exit id'=>bif Nat.beq id' id then tidy cx m f (2 * id) fr σ (K .normal) else K (.exit id') fr σ
   | e=>K e fr σ
 | .scope c,K=>zwz cx f m nt call n r c λ e fr σ=>match e with
   | .goto _=>none
   | e=>K e fr σ
 | _,_=>none
def AR(cx:Cx)(call:CK R)(n f m r:Nat)(K:Ex→Fr→St→Option R):Ex→Fr→St→Option R:=
 match zwz cx f m (z13 cx f) call n r (codeOf cx f) K with | some k=>k | none=>λ _ _ _=>none
def OPS(cx:Cx)(call:CK R)(n f m r j:Nat)(fr:Fr)(σ:St)(K:Ex→Fr→St→Option R):Option R:=
 zeu cx m (z13 cx f) call (z1v cx f r) ((z1v cx f r).drop j) fr σ K
end
end Go.Vai
end

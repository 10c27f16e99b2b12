/-
  Each operation of the interpreter is the machine's: all of them. To: Regions whose order is open: the interpreter's one order stands for all.
-/
import Derived.Test.YtmolcgfhgdhgoaaGreatDoorVaiPart3
import Derived.Lib.Builder
import Derived.Orders
import Derived.LoopN
import Derived.Scope
set_option linter.all false
noncomputable section
namespace Go.Vai
section
variable {R:Type} {cx:Cx} {w:World} {σ:St} {μ:Mu}
theorem wy{s:Sem Value}{P:Program}{w w':World}{v:Value}(h:s.run P w=.ok v w'):(do pure (Next.value (←s)):Sem Next).run P w=.ok (.value v) w':=by
 rw [Sem.run_bind,h]; rfl
theorem zxr{s:Sem Unit}{P:Program}{w w':World}(h:s.run P w=.ok () w'):(do s; pure Next.skip:Sem Next).run P w=.ok .skip w':=by
 rw [Sem.run_bind,h]; rfl
theorem zf5{x:V}{K:Nat→List D→Option R}{r:R}(h:dataOf x K=some r):∃ sz l,dataOf x (λ a b=>some (a,b))=some (sz,l)∧K sz l=some r:=by
 unfold dataOf at h ⊢
 split at h <;> first
  | exact ⟨_,_,rfl,h⟩
  | cases h
theorem va{id:Nat}{o:Ob}(h:z7 σ [(id,o)]=true):zg σ id=none:=by
 unfold z7 at h;cases hg:zg σ id with
 | none=>rfl
 | some q=>rw [hg] at h; simp at h
def yy(P : Program) : Prop := ∀ (f : Nat) (fn : Func), P.funcs[f]? = some fn → fn.name ≠ "runtime.NumGoroutine"
theorem zfn(hn:yy cx.P){f:Nat}{fn:Func}{args:Array Value}(hf:cx.P.funcs[f]?=some fn)(hb:fn.body.isNone=false) :
  (callFunc f args).run cx.P w=.ok (.enter f args) w:=by
 have h1 : (fn.name == "runtime.NumGoroutine") = false := by simpa using hn f fn hf
 unfold callFunc;rw [Sem.run_bind,run_program,Result.andThen_ok];simp only [hf,h1,hb,Bool.false_eq_true,if_false];rfl
theorem zqz{v:V}{v':Value}(h:RV w σ μ v' v):RV w σ μ v' v.handed:=by
 cases h with
 | sl v sz l id n h ht hn he=>exact .d _ _ h
 | d v x h=>exact .d _ _ h
 | ptr id off b hi hb=>exact .ptr id off b hi hb
 | eptr x b o off xs hc h=>exact .eptr x b o off xs hc h
 | gptr g off=>exact .gptr g off
 | agg cs l hl ho h=>exact .agg cs l hl ho h
 | slo id sz k cap base l hi hk hcap hn he=>exact .slo id sz k cap base l hi hk hcap hn he
 | wptr id sz k i off a l hi hk he=>exact .wptr id sz k i off a l hi hk he
 | mfunc f cs l h=>exact .mfunc f cs l h
 | func f cs l hl h=>exact .func f cs l hl h
 | map id b ks vs hi hb=>exact .map id b ks vs hi hb
 | iface t v u h=>exact .iface t v u h
 | tup cs l hl h=>exact .tup cs l hl h
theorem ziu{v:V}{v':Value}(h:RV w σ μ v' v):RV w σ μ v' v.handed2:=by
 cases v with
 | agg l=>
  cases hd:zgo (.agg l) with
  | some d=>
   have e:V.handed2 (.agg l)=.d d:=by simp [V.handed2,hd]
   rw [e];exact .d _ _ (ze9 h hd)
  | none=>
   have e:V.handed2 (.agg l)=.agg l:=by simp [V.handed2,hd]
   rw [e];exact h
 | _=>exact zqz h
theorem z3x{b:Bool}{v:V}{v':Value}(h:RV w σ μ v' v):RV w σ μ v' (z58 b v):=by
 cases b
 ·exact h
 ·exact ziu h
theorem zg3{keep:Bool}{vs:List Value}{l:List V}(h:RVs w σ μ vs l):RVs w σ μ vs (zal keep l):=by
 unfold zal;cases keep
 ·refine ⟨by simp [h.1],λ i x y hx hy=>?_⟩
  simp only [cond_false,List.getElem?_map,Option.map_eq_some_iff] at hy;obtain ⟨z,hz,rfl⟩:=hy;exact ziu (h.2 i x z hx hz)
 ·exact h
theorem RVs.append'{vs ws:List Value}{l k:List V}(h:RVs w σ μ vs l)(h':RVs w σ μ ws k):RVs w σ μ (vs++ws) (l++k):=by
 refine ⟨by simp [h.1,h'.1],λ i x y hx hy=>?_⟩
 by_cases hi:i<vs.length
 ·rw [List.getElem?_append_left hi] at hx;rw [List.getElem?_append_left (by rw [←h.1]; exact hi)] at hy
  exact h.2 i x y hx hy
 ·rw [List.getElem?_append_right (by omega)] at hx
  rw [List.getElem?_append_right (by rw [←h.1]; omega)] at hy
  rw [←h.1] at hy;exact h'.2 _ x y hx hy
theorem zs7:∀ {l:List V} {ds:List D},zdl l=some ds→l=ds.map .d
 | [],ds,h=>by cases h; rfl
 | x::l,ds,h=>by
  cases x <;> first | (simp [zdl] at h; done) | skip
  simp only [zdl] at h;split at h
  ·rename_i l' hl; cases h; rw [zs7 hl]; rfl
  ·cases h
theorem zm9{a:Act}{fr:Fr}(hf:FR w σ μ a.tmps fr){x:Option Operand}{K:Option V→Option R}{r:R}
  (h:zfq fr x K=some r):∃ v,K v=some r∧zqd w σ μ v (x.map a.eval):=by
 cases x with
 | none=>exact ⟨none,h,trivial⟩
 | some x=>obtain ⟨v,hv,h⟩:=zb h; exact ⟨some v,h,xi hf hv⟩
theorem zo6{a:Act}{fr:Fr}(hi:Inv cx w σ μ)(hf:FR w σ μ a.tmps fr){id:Nat}(haf:After cx w σ μ w (zf σ [(id,.tok 0)]) (setMu μ id ⟨none,0,0,0⟩))(hg:zg σ id=none) :
  ∀ (xs:List Operand) (ts:List Nat) (l:List V),zaq cx.P fr id xs ts=some l→RVs w (zf σ [(id,.tok 0)]) (setMu μ id ⟨none,0,0,0⟩) (xs.map a.eval) l
 | [],ts,l,h=>by simp only [zaq] at h; cases h; exact ⟨rfl,by simp⟩
 | x::xs,ts,l,h=>by
  simp only [zaq] at h;split at h
  ·cases h
  ·rename_i l' hl;have ih:=zo6 hi hf haf hg xs _ l' hl;have one:∀ {v:V},RV w (zf σ [(id,.tok 0)]) (setMu μ id ⟨none,0,0,0⟩) (a.eval x) v→RVs w (zf σ [(id,.tok 0)]) (setMu μ id ⟨none,0,0,0⟩) ((x::xs).map a.eval) (v::l'):=by
    intro v hv;refine ⟨by simp [ih.1],λ i p q hp hq=>?_⟩
    cases i with
    | zero=>simp at hp hq; subst hp; subst hq; exact hv
    | succ i=>exact ih.2 i p q (by simpa using hp) (by simpa using hq)
   split at h
   ·split at h
    ·cases h;exact one (zh1 (w:=w) (μ:=μ) (base:=none) hg (cap:=0) rfl (.inr rfl)).2
    ·cases h
   ·split at h
    ·rename_i v hv;cases h;exact one (haf.rv hi (xi hf hv))
    ·cases h
theorem zrt{P:Program}{t xt:Nat}{ok:Bool}{v:Value}{w:World}(ht:qv P t=true)(hif:isIface P t=false) :
  (Instr.typeAssert (.iface t v) xt t ok).run P w=.ok (if ok then .tuple #[v,.bool true] else v) w:=by
 unfold qv at ht;unfold isIface at hif;cases hu:P.underlying t with
 | none=>rw [hu] at ht; cases ht
 | some u=>
  rw [hu] at hif;unfold Instr.typeAssert;cases u <;> first | (cases hif; done) | simp [run_underlying hu]
theorem z1t{P:Program}{g:Nat}(h:zg1 P g=true)(x:Value){w:World}:(callFunc g #[x]).run P w=.ok (.value x) w:=by
 unfold zg1 at h;split at h
 ·rename_i fn hfn;simp only [ph,beq_iff_eq] at h;obtain ⟨⟨h1,h2⟩,h3⟩:=h;have e1:Extern.findNext fn=none:=by
   unfold Extern.findNext;rw [h2,h3];kernel_rfl
  have e2:Extern.find fn=some Extern.AbiNoEscape.same:=by
   unfold Extern.find;rw [h2,h3];kernel_rfl
  rw [run_callFunc_extern hfn (by rw [h2]; decide) h1 e1 e2]
  rfl
 ·cases h
theorem z3s{R:Type}{s t:Nat}{x:V}{x':Value}{K:V→List Nat→Option R}{r:R}(hi:Inv cx w σ μ)(hx:RV w σ μ x' x)(h:zoj cx σ s t x K=some r) :
  ∃ v fp,K v fp=some r∧∃ v',(convert s t x').run cx.P w=.ok v' w∧RV w σ μ v' v:=by
 unfold zoj at h;split at h
 ·rename_i id off;split at h
  ·rename_i n u ho;obtain ⟨hc,h⟩:=zc h;have hx0:=hx;cases hx with | ptr _ _ b hcell hb=>?_
   obtain ⟨b',cs,el,hb',hh,hn,htup,h1,hr,htag⟩:=hi.ob id _ ho;obtain rfl:b=b':=by rw [hb] at hb'; exact Option.some.inj hb'
   have hsh:w.shape? b=some (el,cs.size):=by simp [World.shape?,hh]
   refine ⟨_,_,h,_,?_,hx0⟩;unfold z5u at hc;split at hc
   ·rename_i e hs ht;rw [ph] at hc;obtain ⟨c1,c2⟩:=hc;split at c1
    ·rename_i j hj;have c3:off<cs.size:=by
      have:off<szN n:=by simpa using c2
      omega
     exact Go.Lib.run_to_unsafe w ⟨b,off,none⟩ hs ht hj (λ e0=>by rw [e0] at c1; cases c1) hsh c3
    ·cases c1
   ·rename_i e hs ht;simp only [ph,Bool.not_eq_true'] at hc;obtain ⟨⟨c1,c2⟩,c3⟩:=hc;obtain ⟨j,hj⟩:=Option.isSome_iff_exists.1 c1;have hel:el=n / 1048576 - 1:=by
     rcases htag with h | h
     ·have:Nat.blt n 1048576=true:=by simpa using h
      rw [this] at c2; cases c2
     ·show el=n / 1048576 - 1;rw [h]; rfl
    refine Go.Lib.run_from_unsafe w ⟨b,off,none⟩ hs ht hj hsh ?_;rw [hel,hn];exact c3
   ·cases hc
  ·cases h
 ·cases h
theorem zj4{m nt:Nat}{call:Nat→List V→St→Option (Out×St)}(hcall:v8 cx call)(hn:yy cx.P)(hi:Inv cx w σ μ){a:Act}{fr:Fr}(hf:FR w σ μ a.tmps fr){o:Oper}
  {K:Oc→De→List Nat→Option R} {r:R} (h:xn cx m nt call o fr σ K=some r):∃ oc δ fp,K oc δ fp=some r∧zbp cx w σ μ a o oc δ:=by
 obtain ⟨dst,op,type,pos,after,guard⟩:=o
 have hval:∀ {v:V} {v':Value} {fp},K (.val v) [] fp=some r→True→RV w σ μ v' v→((execOp a.eval ⟨dst,op,type,pos,after,guard⟩).run cx.P w=.ok (.value v') w) →
   ∃ oc δ fp,K oc δ fp=some r∧zbp cx w σ μ a ⟨dst,op,type,pos,after,guard⟩ oc δ:=λ hK _ hv hr=>⟨_,_,_,hK,zbp.value hi _ hr hv⟩
 have hmove:∀ {x:Operand},(execOp a.eval ⟨dst,op,type,pos,after,guard⟩=pure (.value (a.eval x))) →
   (match x with
   | .const (.slice none 0 0)=>
    (match cx.P.underlying type with
    | some (.slice e)=>(match zg σ (m+dst.getD 0) with
     | none=>bif cx.own nt (dst.getD 0) then K (.val (.slo (m+dst.getD 0) (cx.P.cellsOf e) 0)) [(m+dst.getD 0,.row [])] [m+dst.getD 0] else K (.val (.sl (cx.P.cellsOf e) [] (m+dst.getD 0))) [(m+dst.getD 0,.tok 0)] [m+dst.getD 0]
     | some _=>K (.val (.d (.sl (cx.P.cellsOf e) []))) [] [m+dst.getD 0])
    | _=>none)
   | x=>zd (opd fr x) λ v=>bif cx.thaw nt (dst.getD 0) then zh8 σ v λ v δ fp=>K (.val v) δ fp else K (.val v) [] [])=some r→∃ oc δ fp,K oc δ fp=some r∧zbp cx w σ μ a ⟨dst,op,type,pos,after,guard⟩ oc δ:=by
  intro x he h;split at h
  ·split at h
   ·split at h
    ·rename_i hg;cases hown:cx.own nt (dst.getD 0) <;> rw [hown] at h
     ·obtain ⟨h1,h2⟩:=zh1 (w:=w) (μ:=μ) (sz:=cx.P.cellsOf _) (base:=none) hg rfl (.inr rfl);exact ⟨_,_,_,h,zbp.of_upd hi _ (by rw [he]; rfl) (zh2 hg) h1 h2⟩
     ·obtain ⟨h1,h2⟩:=zy7 (w:=w) (μ:=μ) (sz:=cx.P.cellsOf _) hg;exact ⟨_,_,_,h,zbp.of_upd hi _ (by rw [he]; rfl) (zh2 hg) h1 h2⟩
    ·exact hval h trivial (.d _ _ (.sl0 none 0 _)) (by rw [he]; rfl)
   ·cases h
  ·obtain ⟨v,hv,h⟩:=zb h;cases hth:cx.thaw nt (dst.getD 0) <;> rw [hth] at h
   ·exact hval h trivial (xi hf hv) (by rw [he]; rfl)
   ·rw [cond_true] at h;obtain ⟨u,δ,fp,hK,μ',ids,h1,h2,h3⟩:=z1h hi (xi hf hv) h;exact ⟨_,_,_,hK,zbp.of_upd hi _ (by rw [he]; rfl) h1 h2 h3⟩
 cases op
 case makeFunc fn first caps=>
  cases fn <;> simp only [xn] at h <;> first | (cases h; done) | skip
  cases hfe:first.isEmpty <;> rw [hfe] at h
  ·rw [cond_false] at h;obtain ⟨hc,q1⟩:=zc h;obtain ⟨l,hl,q2⟩:=zb q1;obtain ⟨ds,hds,hKK⟩:=zb q2;have hce:caps = #[]:=by simpa using hc
   subst hce;have h1:=zb3 hf _ _ _ hl;have h2:RVs w σ μ (first.toList.map a.eval) (l.map V.handed2):=⟨by simpa using h1.1,λ i x y hx hy=>by
    rw [List.getElem?_map,Option.map_eq_some_iff] at hy;obtain ⟨z,hz,rfl⟩:=hy;exact ziu (h1.2 i x z hx hz)⟩
   rw [zs7 hds] at h2;exact hval hKK trivial (.mfunc _ (first.map a.eval) ds (by simpa using h2.rd)) (wy (by simp [Instr.makeFunc]))
  ·rw [cond_true] at h;obtain ⟨l,hl,h⟩:=zb h;have hfe:first = #[]:=by simpa using hfe
   subst hfe;obtain ⟨h1,h2⟩:=zb3 hf _ _ _ hl;exact hval h trivial (.func _ (caps.map a.eval) l (by rw [←h1]; simp) λ i x y hx hy=>h2 i x y (by simpa using hx) hy) (wy (by simp [Instr.makeFunc]))
 case makeMap t rr=>
  cases rr <;> simp only [xn] at h <;> first | (cases h; done) | skip
  obtain ⟨hc,h⟩:=zc h;obtain ⟨w',h1,h2,h3,h4⟩:=zv3 (cx:=cx) (w:=w) (μ:=μ) (t:=t) (va hc);exact ⟨_,_,_,h,zbp.of_upd hi _ (wy h1) h2 h3 h4⟩
 all_goals simp only [xn] at h
 all_goals first | (cases h; done) | skip
 case move x=>exact hmove rfl h
 case assign x=>exact hmove rfl h
 case pick c x y=>
  obtain ⟨c',hc,h⟩:=zb h;obtain ⟨b,rfl,h⟩:=zkg h;have hcb:a.eval c=.bool b:=by
   have hr:=xi hf hc;generalize a.eval c=q at hr;cases hr with | d _ _ hd=>cases hd; rfl
  cases b
  ·obtain ⟨v,hv,h⟩:=zb h;exact hval h trivial (xi hf hv) (by simp [execOp,hcb,Go.asBool])
  ·obtain ⟨v,hv,h⟩:=zb h;exact hval h trivial (xi hf hv) (by simp [execOp,hcb,Go.asBool])
 case alloc e=>
  obtain ⟨z,hz,h⟩:=zb h;obtain ⟨hc,h⟩:=zc h;rw [ph,ph] at hc;obtain ⟨t1,t2⟩:=zrr (cx:=cx) (nt:=nt) (dst:=dst) hc.2;obtain ⟨w',μ',h1,h2,h3,h4⟩:=z30 (w:=w) (μ:=μ) t1 t2 hz _ rfl hc.1.1 (by
   have:=hc.1.2;cases ha:xj cx.P e
   ·right; simpa [ha] using this
   ·exact .inl rfl)
  exact ⟨_,_,_,h,zbp.of_upd hi _ (wy h1) h2 h3 h4⟩
 case box e x=>
  obtain ⟨v,hv,h⟩:=zb h;obtain ⟨hc,h⟩:=zc h;simp only [ph,Bool.not_eq_true'] at hc;obtain ⟨w',h1,h2,h3,h4⟩:=z79 (e:=e) hi (x9 hf hv) hc.1.1.1 ((pg hc.1.1.2).trans (zrr (cx:=cx) (nt:=nt) (dst:=dst) hc.2).1.symm) (zrr hc.2).2 (va hc.1.2);exact ⟨_,_,_,h,zbp.of_upd hi _ (wy h1) h2 h3 h4⟩
 case build t ps=>
  cases hty:cx.typed nt (dst.getD 0)
  ·rw [hty,cond_false] at h;obtain ⟨z,hz,h⟩:=zb h;obtain ⟨l,hl,h⟩:=zb h;obtain ⟨cs,hcs,h⟩:=zb h;obtain ⟨hk,h⟩:=zc h;obtain ⟨v',h1,h2⟩:=z3v (w:=w) hf hz hl hcs hk;exact hval h trivial (z3x h2) (wy h1)
  ·rw [hty,cond_true] at h;obtain ⟨z,hz,h⟩:=zb h;obtain ⟨hc,h⟩:=zc h;simp only [ph] at hc;have hps:ps = #[]:=by simpa using hc.1.1
   obtain ⟨v',μ',h1,h2,h3,h4⟩:=z0c (w:=w) (μ:=μ) hz hc.1.2 hc.2;exact ⟨_,_,_,h,zbp.of_upd hi _ (wy (by rw [hps]; simpa using h1)) h2 h3 h4⟩
 case buildSlice t n ps=>
  split at h
  ·rename_i e hu;obtain ⟨z,hz,h⟩:=zb h;obtain ⟨l,hl,h⟩:=zb h;obtain ⟨xs,hx,h⟩:=zb h;obtain ⟨hc,h⟩:=zc h;simp only [ph,Bool.not_eq_true'] at hc;cases hbare:zsf cx nt dst ps.toList <;> rw [hbare] at h
   case true=>
    obtain ⟨w',h1,h2,h3⟩:=zst hi hf hu hz hl hx (va hc.1.1.1) (pq hc.1.1.2) (pq hc.1.2)
     (λ e=>by simp [e] at hc)
    exact ⟨_,_,_,h,zbp.of_upd hi _ (wy h1) h2 (λ j hj=>by simp at hj) h3⟩
   cases hown:cx.own nt (dst.getD 0) <;> rw [hown] at h
   ·obtain ⟨w',lo,h1,h2,h3,h4⟩:=zif hi hf hu hz hl hx (va hc.1.1.1) (pq hc.1.1.2) (pq hc.1.2)
     (λ e=>by simp [e] at hc)
    exact ⟨_,_,_,h,zbp.of_upd hi _ (wy h1) h2 h3 h4⟩
   ·obtain ⟨w',lo,h1,h2,h3,h4⟩:=zot hi hf hu hz hl hx (va hc.1.1.1) (pq hc.1.1.2) (pq hc.1.2)
     (λ e=>by simp [e] at hc)
    exact ⟨_,_,_,h,zbp.of_upd hi _ (wy h1) h2 h3 h4⟩
  ·cases h
 case makeSlice t n c=>
  obtain ⟨a',ha,h⟩:=zb h;obtain ⟨b',hb,h⟩:=zb h;obtain ⟨v,δ,fp,hK,v',w',μ',h1,h2,h3,h4⟩:=zpj hi (xi hf ha) (xi hf hb) h;exact ⟨_,_,_,hK,zbp.of_upd hi _ (wy h1) h2 h3 h4⟩
 case lookup t x i ok=>
  obtain ⟨a',ha,h⟩:=zb h;obtain ⟨b',hb,h⟩:=zb h;obtain ⟨v,fp,hK,v',h1,h2⟩:=zv5 hi (xi hf ha) (xi hf hb) h;exact hval hK trivial h2 (wy h1)
 case mapUpdate t mm k x | insert t mm k x=>
  obtain ⟨a',ha,h⟩:=zb h;obtain ⟨b',hb,h⟩:=zb h;obtain ⟨c',hc,h⟩:=zb h;obtain ⟨δ,fp,hK,w',id,h1,h2,h3⟩:=zv2 hi (xi hf ha) (xi hf hb) (x9 hf hc) h;exact ⟨_,_,_,hK,zbp.of_skip hi (zxr h1) h2 h3⟩
 case load t p=>
  obtain ⟨p',hp,h⟩:=zb h;obtain ⟨v,fp,h,v',h1,h2⟩:=zt2 hi (xi hf hp) h;exact hval h trivial h2 (wy h1)
 case store t p x=>
  obtain ⟨p',hp,h⟩:=zb h;obtain ⟨v,hv,h⟩:=zb h;obtain ⟨hty,h⟩:=zc h;obtain ⟨δ,fp,h,w',id,h1,h2,h3⟩:=zpy hi (xi hf hp) (x9 hf hv) h hty;exact ⟨_,_,_,h,zbp.of_skip hi (zxr h1) h2 h3⟩
 case nilCheck x=>
  obtain ⟨v,hv,h⟩:=zb h;have hr:=xi hf hv;split at h
  ·refine hval h trivial hr ?_;generalize hq:a.eval x=q at hr ⊢;cases hr with | ptr id off b _ _=>simp [execOp,hq]
  ·refine hval h trivial hr ?_;generalize hq:a.eval x=q at hr ⊢;cases hr with | eptr x b o off xs hc hh=>simp [execOp,hq]
  ·refine hval h trivial hr ?_;generalize hq:a.eval x=q at hr ⊢;cases hr with | gptr g off=>simp [execOp,hq]
  ·refine hval h trivial hr ?_;generalize hq:a.eval x=q at hr ⊢;cases hr with | wptr id sz k i off a l _ _ _=>simp [execOp,hq]
  ·refine hval h trivial hr ?_;generalize hq:a.eval x=q at hr ⊢;cases hr with | func f cs l hl hh=>simp [execOp,hq]
  ·refine hval h trivial hr ?_;generalize hq:a.eval x=q at hr ⊢;cases hr with | mfunc f cs l hh=>simp [execOp,hq]
  ·cases h
 case binOp op t x y u=>
  obtain ⟨v1,hv1,h⟩:=zb h;obtain ⟨v2,hv2,h⟩:=zb h;obtain ⟨v,h,v',h1,h2⟩:=z5k (w:=w) (x9 hf hv1) (x9 hf hv2) h;exact hval h trivial h2 (wy h1)
 case unOp op t x=>
  obtain ⟨v1,hv1,h⟩:=zb h;obtain ⟨v,h,v',h1,h2⟩:=z6h (P:=cx.P) (w:=w) (xi hf hv1) h;exact hval h trivial h2 (wy h1)
 case convert s t x=>
  obtain ⟨v1,hv1,h⟩:=zb h;split at h
  ·rename_i e' e sz l id hu1 hu2;split at h
   ·rename_i n hu3 hg;obtain ⟨hc,h'⟩:=zc h;clear h;simp only [ph,Bool.not_eq_true',decide_eq_true_eq] at hc;obtain e3:=pg hc.1.1;subst e3;have h:=h';rw [hu1] at hu2; cases hu2;obtain ⟨w',h1,h2,h3,h4⟩:=zzr hi (x9 hf hv1) (by have:=hc.1.2; intro e; simp [e] at this) hg hc.2 hu1 hu3
    exact ⟨_,_,_,h,zbp.of_upd hi _ (wy h1) h2 h3 h4⟩
   ·cases h
  ·cases hun:z2n cx.P s t <;> rw [hun] at h <;> simp only [cond_true,cond_false] at h
   ·obtain ⟨v,h,v',h1,h2⟩:=z3r (w:=w) (x9 hf hv1) h;exact hval h trivial h2 (wy h1)
   ·obtain ⟨v,fp,h,v',h1,h2⟩:=z3s hi (x9 hf hv1) h;exact hval h trivial h2 (wy h1)
 case makeInterface t x=>
  split at h
  ·cases h
  ·cases h
  ·rename_i hu1 hu2;obtain ⟨v,hv,h⟩:=zb h;have hr:=x9 hf hv;have hrun:(Instr.makeInterface t (a.eval x)).run cx.P w=.ok (.iface t (a.eval x)) w:=by
    unfold Instr.makeInterface;cases hu:cx.P.underlying t with
    | none=>exact absurd hu hu2
    | some u=>
     rw [Sem.run_bind,run_underlying hu,Result.andThen_ok];cases u <;> first | rfl | exact absurd hu (hu1 _)
   split at h
   ·rename_i y hy;exact hval h trivial (.d _ _ (.iface t _ _ (ze9 hr hy))) (wy hrun)
   ·exact hval h trivial (.iface t _ _ hr) (wy hrun)
 case slice t x lo hii mx=>
  obtain ⟨v1,hv1,h⟩:=zb h;obtain ⟨l,h,hl⟩:=zm9 hf h;obtain ⟨hh,h,hhh⟩:=zm9 hf h;obtain ⟨mm,h,hm⟩:=zm9 hf h;obtain ⟨v,δ,fp,h,v',μ',ids,h1,h2,h3,h4⟩:=zyz (x9 hf hv1) hl hhh hm h;exact ⟨_,_,_,h,zbp.of_upd hi _ (wy h1) h2 h3 h4⟩
 case fieldAddr s x f=>
  obtain ⟨v1,hv1,h⟩:=zb h;obtain ⟨v,h,v',h1,h2⟩:=zpm (w:=w) (xi hf hv1) h;exact hval h trivial h2 (wy h1)
 case field t x f=>
  obtain ⟨v1,hv1,h⟩:=zb h;obtain ⟨p,hp,h⟩:=zb h;obtain ⟨v,h,v',h1,h2⟩:=z21 (w:=w) (xi hf hv1) hp h;exact hval h trivial h2 (wy h1)
 case indexAddr t x i=>
  obtain ⟨v1,hv1,h⟩:=zb h;obtain ⟨v2,hv2,h⟩:=zb h;obtain ⟨v,h,v',h1,h2⟩:=zpk (w:=w) (xi hf hv1) (xi hf hv2) h;exact hval h trivial h2 (wy h1)
 case index t x i=>
  obtain ⟨v1,hv1,h⟩:=zb h;obtain ⟨v2,hv2,h⟩:=zb h;obtain ⟨v,h,v',h1,h2⟩:=zzo (w:=w) (xi hf hv1) (xi hf hv2) h;exact hval h trivial h2 (wy h1)
 case extract t i=>
  obtain ⟨v1,hv1,h⟩:=zb h;obtain ⟨l,rfl,h⟩:=zoz h;obtain ⟨v,hv,h⟩:=zho h;have hr:=xi hf hv1;generalize hq:a.eval t=q at hr;cases hr with | tup cs _ hl hh=>?_
  have hlt:i<cs.size:=by rw [hl]; exact (pj.1 hv).1
  exact hval h trivial (hh i cs[i] v (by simp) hv) (wy (by simp [Instr.extract,hq,hlt]))
 case panic x=>
  obtain ⟨v1,hv1,h⟩:=zb h;split at h <;> first | (cases h; done) | skip
  rename_i t y;have hr:=xi hf hv1;refine ⟨_,_,_,h,λ next Q hk=>?_⟩
  have hk:=hk _ w μ (After.refl hi) hr;generalize hq:a.eval x=q at hr hk;cases hr with | d v' _ hd=>?_
  cases hd with | iface _ v0 _ h0=>?_
  unfold Oper.wp;have:(execOp a.eval ⟨dst,.panic x,type,pos,after,guard⟩).run cx.P w=.halt (.panic (.iface t v0)) w:=by
   simp [execOp,hq,Instr.panic]
  rw [this];exact hk
 case typeAssert x xt t ok=>
  obtain ⟨v,hv,h1⟩:=zb h;clear h;unfold zkf at h1;obtain ⟨hc,h2⟩:=zc h1;clear h1;simp only [ph,Bool.not_eq_true'] at hc;split at h2
  ·rename_i t' y;cases hb:Nat.beq t' t <;> rw [hb] at h2
   ·cases h2
   ·obtain rfl:=pg hb;have hr:=xi hf hv;generalize hq:a.eval x=q at hr;cases hr with | d v' _ hd=>?_
    cases hd with | iface _ v0 _ h0=>?_
    refine hval h2 trivial ?_ (wy (v:=if ok then .tuple #[v0,.bool true] else v0) (by rw [hq]; exact zrt hc.1 hc.2))
    cases ok
    ·exact .d _ _ h0
    ·refine .tup _ _ rfl λ i p q hp hq=>?_
     match i with
     | 0=>simp at hp hq; subst hp; subst hq; exact .d _ _ h0
     | 1=>simp at hp hq; subst hp; subst hq; exact .d _ _ (.bool true)
     | i+2=>simp at hp
  ·cases h2
 case call c=>
  obtain ⟨callee,cargs,ctypes⟩:=c;split at h
  ·rename_i f hcl;simp only at hcl;subst hcl;obtain ⟨fv,hfv,h⟩:=zb h;split at h <;> first | (cases h; done) | skip
   ·rename_i g first
    have hr:=xi hf hfv;generalize hq:a.eval f=q at hr;cases hr with | mfunc _ cs _ hcs=>?_
    have hrun:∀ {fn:Func},cx.P.funcs[g]?=some fn→fn.body.isNone=false→(execOp a.eval ⟨dst,.call ⟨.value f,cargs,ctypes⟩,type,pos,after,guard⟩).run cx.P w=.ok (.enter g (cs.toList++cargs.toList.map a.eval).toArray) w:=by
     intro fn hfn hbody;simp only [execOp,resolve,hq,Deferred.ofValue];rw [Sem.run_bind];simp only [Sem.run_pure,Result.andThen_ok,invoke];rw [show (cs++Array.map a.eval cargs++#[])=(cs.toList++cargs.toList.map a.eval).toArray by
      apply Array.ext'; simp]
     exact zfn hn hfn hbody
    obtain ⟨l,hl,h⟩:=zb h
    have hargs:RVs w σ μ (cs.toList++cargs.toList.map a.eval) (first.map .d++zal (cx.keep g) l):=
     RVs.append' hcs.rv (zg3 (zb3 hf _ _ _ hl))
    obtain ⟨oc,δ,fp,hK,⟨fn,hfn,hbody⟩,hcalls⟩:=zop hcall hi hargs h;refine ⟨oc,δ,fp,hK,λ next Q hk=>?_⟩
    unfold Oper.wp;rw [hrun hfn hbody,Oper.upon_enter];refine hcalls.mono λ e w' ⟨μ',haf,he⟩=>?_;cases oc with
    | val v=>cases e <;> first | exact hk _ _ _ haf he | exact he.elim
    | pan v=>cases e <;> first | exact he.elim | (obtain ⟨x,rfl,hx⟩:=he; exact hk _ _ _ haf hx)
   rename_i g cap;have hr:=xi hf hfv;generalize hq:a.eval f=q at hr;cases hr with | func _ cs _ hcl hch=>?_
   have hrun:∀ {fn:Func},cx.P.funcs[g]?=some fn→fn.body.isNone=false→(execOp a.eval ⟨dst,.call ⟨.value f,cargs,ctypes⟩,type,pos,after,guard⟩).run cx.P w=.ok (.enter g (cargs.toList.map a.eval++cs.toList).toArray) w:=by
    intro fn hfn hbody;simp only [execOp,resolve,hq,Deferred.ofValue];rw [Sem.run_bind];simp only [Sem.run_pure,Result.andThen_ok,invoke];rw [show (#[]++Array.map a.eval cargs++cs)=(cargs.toList.map a.eval++cs.toList).toArray by
     apply Array.ext'; simp]
    exact zfn hn hfn hbody
   have hcap:RVs w σ μ cs.toList cap:=⟨by simpa using hcl,λ i x y hx hy=>hch i x y (by simpa using hx) hy⟩
   have tokd:∀ {l:List V} {xs:List Nat},z7 σ [(m+dst.getD 0,Ob.tok 0)]=true →
     (zg σ (m+dst.getD 0)=none→After cx w σ μ w (zf σ [(m+dst.getD 0,.tok 0)]) (setMu μ (m+dst.getD 0) ⟨none,0,0,0⟩)→RVs w (zf σ [(m+dst.getD 0,.tok 0)]) (setMu μ (m+dst.getD 0) ⟨none,0,0,0⟩) (cargs.toList.map a.eval) l) →
     (vp cx call (vk σ (m+dst.getD 0) (.tok 0)) type g (l++cap) xs λ oc δ fp=>K oc ((m+dst.getD 0,Ob.tok 0)::δ) ((m+dst.getD 0)::fp))=some r →
     ∃ oc δ fp,K oc δ fp=some r∧zbp cx w σ μ a ⟨dst,.call ⟨.value f,cargs,ctypes⟩,type,pos,after,guard⟩ oc δ:=by
    intro l xs hfr hl h;have hg:=va hfr;obtain ⟨hob,_⟩:=zh1 (w:=w) (μ:=μ) (sz:=0) (base:=none) hg (cap:=0) rfl (.inr rfl);have haf0:=(zh2 (cx:=cx) (w:=w) (μ:=μ) (ob:=.tok 0) hg).after hi hob
    have hargs:RVs w (vk σ (m+dst.getD 0) (.tok 0)) (setMu μ (m+dst.getD 0) ⟨none,0,0,0⟩) (cargs.toList.map a.eval++cs.toList) (l++cap):=
     RVs.append' (hl hg haf0) (hcap.map λ v x _ hv=>haf0.rv hi hv)
    obtain ⟨oc,δ,fp,hK,⟨fn,hfn,hbody⟩,hcalls⟩:=zop hcall haf0.inv hargs h;refine ⟨oc,_,_,hK,λ next Q hk=>?_⟩
    unfold Oper.wp;rw [hrun hfn hbody,Oper.upon_enter];refine hcalls.mono λ e w' ⟨μ',haf,he⟩=>?_;cases oc with
    | val v=>cases e <;> first | exact hk _ _ _ (haf0.trans haf) he | exact he.elim
    | pan v=>cases e <;> first | exact he.elim | (obtain ⟨x,rfl,hx⟩:=he; exact hk _ _ _ (haf0.trans haf) hx)
   cases hgr:(cx.grow g).isSome <;> rw [hgr] at h <;> simp only [cond_true,cond_false] at h
   rotate_left
   ·unfold zic at h;split at h
    ·rename_i y hargs;obtain ⟨e,he,h⟩:=zb h;obtain ⟨v,hv,h⟩:=zb h;split at h
     ·rename_i n;obtain ⟨hc,hK⟩:=zc h;simp only [ph,decide_eq_true_eq] at hc;obtain ⟨⟨⟨⟨h0,h1⟩,hce⟩,hfr⟩,hsm⟩:=hc;have hg:=va hfr;have hc0:cs.toList=[]:=by
       have h1:cap.length=0:=by simpa using hce
       exact List.eq_nil_of_length_eq_zero (by rw [hcap.1]; exact h1)
      obtain ⟨⟨fn,hfn,hbody⟩,hcalls⟩:=hcall.1 g e he n w h0 h1;have hya:=(xi hf hv).int_inv;have hav:(cargs.toList.map a.eval++cs.toList).toArray = #[.slice none 0 0,.int .i64 n]:=by
       rw [hargs,hc0]; simp [hya]; rfl
      have hsm:cx.P.cellsOf e<1048576:=by simpa using hsm
      refine ⟨_,_,_,hK,λ next Q hk=>?_⟩
      unfold Oper.wp;rw [hrun hfn hbody,Oper.upon_enter,hav];refine hcalls.mono λ x w' ⟨base,c,hx,hw⟩=>?_;subst hx;rcases hw with ⟨rfl,rfl,rfl⟩ | ⟨ncs,el,rfl,rfl,hsize⟩
      ·obtain ⟨b1,b2⟩:=zh1 (w:=w') (μ:=μ) (sz:=cx.P.cellsOf e) (base:=none) (cap:=0) hg rfl (.inr rfl);exact hk _ _ _ ((zh2 (cx:=cx) hg).after hi b1) b2
      ·have hnh:(w.drew.alloc (.cells ncs el)).heap[w.heap.size]?=some (.cells ncs el (0,0)):=wt (w:=w.drew)
       have hup:Upd cx w σ μ (w.drew.alloc (.cells ncs el)) (zf σ [(m+dst.getD 0,.tok 0)]) (setMu μ (m+dst.getD 0) ⟨some w.heap.size,0,c * cx.P.cellsOf e,el⟩) [m+dst.getD 0]:=
        ziq (δ:=[(m+dst.getD 0,.tok 0)]) rfl rfl (by simp) (λ b hb=>alloc_old (w:=w.drew) b hb) hfr rfl (λ j hj=>by simp at hj; simp [setMu,hj])
         (λ j hj b hb=>by simp at hj; subst hj; simp [setMu] at hb; omega) (λ j hj j' hj' b _ _=>by simp at hj hj'; rw [hj,hj'])
       have hnew:zg (zf σ [(m+dst.getD 0,Ob.tok 0)]) (m+dst.getD 0)=some (.tok 0):=by simp [zf,zn]
       refine hk _ _ _ (hup.after hi λ j hj o' ho'=>?_) ?_
       ·simp at hj; subst hj;rw [hnew] at ho'; cases ho';intro b' hb';have hbb:w.heap.size=b':=by simpa [setMu] using hb'
        subst hbb;exact ⟨ncs,el,(0,0),hnh,by simp [setMu],by simp [setMu,hsize],.inl rfl⟩
       ·exact .slm (zkj hsm) (.sl0 _ _ _) hnew (Nat.le_refl _) λ _=>zff (zkj hsm) (by simp [setMu]) (by simp [setMu]) (by simp [setMu]) (Nat.zero_le _) (.inl hsm)
     ·cases h
    ·cases h
   cases hsm:(zg1 cx.P g&&cap.isEmpty) <;> rw [hsm] at h <;> simp only [cond_true,cond_false] at h
   rotate_left
   ·rw [ph] at hsm;obtain ⟨l,hl,h⟩:=zb h;have hal:=zb3 hf _ _ _ hl;unfold zzb at h;split at h
    ·rename_i v;have hc0:cs.toList=[]:=by
      have h1:cap.length=0:=by simpa using hsm.2
      exact List.eq_nil_of_length_eq_zero (by rw [hcap.1]; exact h1)
     obtain ⟨x,hx⟩:∃ x,cargs.toList.map a.eval=[x]:=List.length_eq_one_iff.1 hal.1;have hrx:RV w σ μ x v:=hal.2 0 x v (by rw [hx]; rfl) rfl
     exact hval h trivial hrx (by
      simp only [execOp,resolve,hq,Deferred.ofValue];rw [Sem.run_bind];simp only [Sem.run_pure,Result.andThen_ok,invoke];rw [show (#[]++Array.map a.eval cargs++cs) = #[x] by
       apply Array.ext'; simp [hc0,hx]]
      exact z1t hsm.1 x)
    ·cases h
   cases hgv:cx.gives g <;> rw [hgv] at h
   ·cases hnil:(cx.keep g&&zit cargs.toList) <;> rw [hnil] at h
    ·obtain ⟨l,hl,h⟩:=zb h
     have hargs:RVs w σ μ (cargs.toList.map a.eval++cs.toList) (zal (cx.keep g) l++cap):=
      RVs.append' (zg3 (zb3 hf _ _ _ hl)) hcap
     obtain ⟨oc,δ,fp,hK,⟨fn,hfn,hbody⟩,hcalls⟩:=zop hcall hi hargs h;refine ⟨oc,δ,fp,hK,λ next Q hk=>?_⟩
     unfold Oper.wp;rw [hrun hfn hbody,Oper.upon_enter];refine hcalls.mono λ e w' ⟨μ',haf,he⟩=>?_;cases oc with
     | val v=>cases e <;> first | exact hk _ _ _ haf he | exact he.elim
     | pan v=>cases e <;> first | exact he.elim | (obtain ⟨x,rfl,hx⟩:=he; exact hk _ _ _ haf hx)
    ·obtain ⟨l,hl,h⟩:=zb h;obtain ⟨hfr,h⟩:=zc h;exact tokd hfr (λ hg haf0=>zo6 hi hf haf0 hg _ _ _ hl) h
   ·obtain ⟨l,hl,h⟩:=zb h;obtain ⟨hfr,h⟩:=zc h;exact tokd hfr (λ hg haf0=>zg3 ((zb3 hf _ _ _ hl).map λ v x _ hv=>haf0.rv hi hv)) h
  ·rename_i hcl;simp only at hcl;subst hcl;split at h
   ·rename_i x t hx ht;obtain ⟨v1,hv1,h⟩:=zb h;obtain ⟨v,fp,h,v',h1,h2⟩:=z4x (ty:=type) hi (x9 hf hv1) h;have e1:cargs = #[x]:=by apply Array.ext'; simpa using hx
    have e2:ctypes = #[t]:=by apply Array.ext'; simpa using ht
    subst e1 e2;exact hval h trivial h2 (by
     simp only [execOp,resolve];rw [Sem.run_bind];simp only [Sem.run_pure,Result.andThen_ok,invoke,builtin];exact wy (by simpa using h1))
   ·cases h
  ·rename_i hcl;simp only at hcl;subst hcl;split at h
   ·rename_i s x t t' hx ht;obtain ⟨v1,hv1,h⟩:=zb h;obtain ⟨v2,hv2,h⟩:=zb h;obtain ⟨ht',h⟩:=zc h;have e1:cargs = #[s,x]:=by apply Array.ext'; simpa using hx
    have e2:ctypes = #[t,t']:=by apply Array.ext'; simpa using ht
    subst e1 e2
    have hexec:∀ {v' w'},(Builtin.append_ #[t,t'] type #[a.eval s,a.eval x]).run cx.P w=.ok v' w' →
      (execOp a.eval ⟨dst,.call ⟨.builtin .append,#[s,x],#[t,t']⟩,type,pos,after,guard⟩).run cx.P w=.ok (.value v') w':=by
     intro v' w' h1;simp only [execOp,resolve];rw [Sem.run_bind];simp only [Sem.run_pure,Result.andThen_ok,invoke,builtin];exact wy (by simpa using h1)
    unfold zej at h;split at h
    ·rename_i e hu;obtain ⟨sz',ys,hd,h⟩:=zf5 h;obtain ⟨hc,h⟩:=zc h;simp only [ph,Bool.or_eq_true,Nat.beq_eq] at hc;obtain ⟨z,hz⟩:=Option.isSome_iff_exists.1 hc.2;have hsz':sz'=cx.P.cellsOf e∨ys=[]:=hc.1.1.imp id λ h=>by simpa using h
     have hby:=pq hc.1.2;cases hnil:ze2 s
     ·rw [hnil,cond_false] at h;split at h
      ·rename_i sz l id;split at h
       ·rename_i n hg;obtain ⟨hc2,h⟩:=zc h;simp only [ph,decide_eq_true_eq] at hc2;obtain ⟨⟨⟨hc3,hcT⟩,hc4⟩,hc5⟩:=hc2;obtain ⟨v',w',lo,h1,h2,h3,h4⟩:=z0g (ty:=type) hi (x9 hf hv1) (x9 hf hv2) hd hu hz ht' hsz' (pg hc3) (zxm hcT) hby (hc4 ▸ hg) hc5;exact ⟨_,_,_,h,zbp.of_upd hi _ (hexec h1) h2 h3 h4⟩
       ·cases h
      ·rename_i id sz k;split at h
       ·rename_i l hg;obtain ⟨hc2,hK⟩:=zc h;clear h;simp only [ph,decide_eq_true_eq] at hc2;obtain ⟨⟨hc3,hc4⟩,hc5⟩:=hc2;obtain rfl:=pg hc4;obtain ⟨v',w',lo,h1,h2,h3,h4⟩:=zsy (ty:=type) hi (x9 hf hv1) (x9 hf hv2) hd hu hz ht' hsz' (pg hc3) hby hg hc5;exact ⟨_,_,_,hK,zbp.of_upd hi _ (hexec h1) h2 h3 h4⟩
       ·cases h
      ·cases h
     ·rw [hnil,cond_true] at h;obtain ⟨hc2,h⟩:=zc h;simp only [ph,decide_eq_true_eq] at hc2;have hs:a.eval s=.slice none 0 0:=by
       unfold ze2 at hnil;split at hnil
       ·rfl
       ·cases hnil
      obtain ⟨v',w',lo,h1,h2,h3,h4⟩:=zpr (ty:=type) hi (x9 hf hv2) hd hu hz ht' hsz' hby (va hc2.1.1) hc2.1.2 (by simpa using hc2.2)
      rw [←hs] at h1;exact ⟨_,_,_,h,zbp.of_upd hi _ (hexec h1) h2 h3 h4⟩
    ·cases h
   ·cases h
  ·cases h
end
section
variable {R α:Type} {cx:Cx} {σ:St}
abbrev yk:=Nat→List V→St→Option (Out×St)
theorem ym{β:Type}(o:Option β)(F:β→Option α)(K:α→Option R):zd (zd o F) K=zd o λ x=>zd (F x) K:=by cases o <;> rfl
theorem zw(b:Bool)(X:Option α)(K:α→Option R):zd (za b X) K=za b (zd X K):=by cases b <;> rfl
theorem y5(b:Bool)(X Y:Option α)(K:α→Option R):zd (bif b then X else Y) K=bif b then zd X K else zd Y K:=by cases b <;> rfl
theorem zu(K:α→Option R):zd none K=none:=rfl
theorem zvu(x:α)(K:α→Option R):zd (some x) K=K x:=rfl
theorem z3y(v:V)(F:Bool→Option α)(K:α→Option R):zd (asB v F) K=asB v λ x=>zd (F x) K:=by unfold asB; split <;> rfl
theorem zo3(x:D)(k:IntKind)(F:Int→Option α)(K:α→Option R):zd (asInt x k F) K=asInt x k λ x=>zd (F x) K:=by unfold asInt; split <;> simp only [y5,zu]
theorem zl9(x:D)(F:Bool→Option α)(K:α→Option R):zd (asBool x F) K=asBool x λ x=>zd (F x) K:=by unfold asBool; split <;> rfl
theorem zo2(x:D)(F:List UInt8→Option α)(K:α→Option R):zd (zl8 x F) K=zl8 x λ x=>zd (F x) K:=by unfold zl8; split <;> rfl
theorem zrl(x:D)(n:Nat)(F:List D→Option α)(K:α→Option R):zd (zva x n F) K=zva x n λ x=>zd (F x) K:=by unfold zva; split <;> simp only [y5,zu]
theorem zo5(x:D)(n:Nat)(F:D→Option α)(K:α→Option R):zd (asAgg x n F) K=asAgg x n λ x=>zd (F x) K:=by unfold asAgg; split <;> simp only [y5,zu]
theorem zo4(x:V)(F:D→Option α)(K:α→Option R):zd (asD x F) K=asD x λ x=>zd (F x) K:=by unfold asD; split <;> rfl
theorem zaz(l:List D)(i:Nat)(F:D→Option α)(K:α→Option R):zd (ze l i F) K=ze l i λ x=>zd (F x) K:=by unfold ze; split <;> rfl
theorem zdf(l:List V)(i:Nat)(F:V→Option α)(K:α→Option R):zd (zju l i F) K=zju l i λ x=>zd (F x) K:=by unfold zju; split <;> rfl
theorem zo0(x:V)(F:List V→Option α)(K:α→Option R):zd (zo1 x F) K=zo1 x λ x=>zd (F x) K:=by unfold zo1; split <;> rfl
theorem zs9(l:List V)(F:V→List V→Option α)(K:α→Option R):zd (unc l F) K=unc l λ x y=>zd (F x y) K:=by unfold unc; split <;> rfl
theorem zs6(l:List V)(F:Option α)(K:α→Option R):zd (unn l F) K=unn l (zd F K):=by unfold unn; split <;> rfl
theorem zax(P:Program)(t:Nat)(x:D)(F:V→Option α)(K:α→Option R):zd (zcl P t x F) K=zcl P t x λ x=>zd (F x) K:=by
 unfold zcl;split <;> simp only [zo3,zl9,zo2,zrl,zo5,zu];split <;> rfl
theorem zf7(P:Program)(t:Nat)(x:V)(F:V→Option α)(K:α→Option R):zd (zc0 P t x F) K=zc0 P t x λ x=>zd (F x) K:=by
 unfold zc0;split
 ·exact zax P t _ F K
 ·exact zw _ _ _
theorem zwb(op:BinOp)(k:IntKind)(a b:Int)(F:V→Option α)(K:α→Option R):zd (zqx op k a b F) K=zqx op k a b λ x=>zd (F x) K:=by cases op <;> first | rfl | simp only [zqx,zw,zu]
theorem zvo(op:BinOp)(a b:List UInt8)(F:V→Option α)(K:α→Option R):zd (zpx op a b F) K=zpx op a b λ x=>zd (F x) K:=by cases op <;> first | rfl | simp only [zpx,zw,zu]
theorem zrs(op:BinOp)(k:IntKind)(a b:Int)(F:V→Option α)(K:α→Option R):zd (zfk op k a b F) K=zfk op k a b λ x=>zd (F x) K:=by cases op <;> first | rfl | simp only [zfk,zw,zu]
theorem z27(op:BinOp)(b:Bool)(F:V→Option α)(K:α→Option R):zd (eqV op b F) K=eqV op b λ x=>zd (F x) K:=by cases op <;> first | rfl | simp only [eqV,zu]
theorem z0d(P:Program)(cst:Bool)(op:BinOp)(t:Nat)(x y:V)(F:V→Option α)(K:α→Option R):zd (z0e P cst op t x y F) K=z0e P cst op t x y λ x=>zd (F x) K:=by
 unfold z0e;split <;> first | rfl | simp only [zvo,zw,z27,zu] | skip
 split <;> simp only [zrs,zwb,y5,zu]
theorem z1d(op:UnOp)(x:V)(F:V→Option α)(K:α→Option R):zd (unV op x F) K=unV op x λ x=>zd (F x) K:=by unfold unV; split <;> rfl
theorem zu4(x:V)(F:Nat→List D→Option α)(K:α→Option R):zd (dataOf x F) K=dataOf x λ a b=>zd (F a b) K:=by unfold dataOf; split <;> rfl
theorem zoi(x:V)(F:Nat→List D→Option α)(K:α→Option R):zd (zl5 x F) K=zl5 x λ a b=>zd (F a b) K:=by unfold zl5; split <;> rfl
theorem zw0(P:Program)(s d:Nat)(x:V)(F:V→Option α)(K:α→Option R):zd (zre P s d x F) K=zre P s d x λ x=>zd (F x) K:=by
 unfold zre;split <;> try rfl
 split <;> simp only [zoi,zw,zu];congr 1; funext a b; congr 1;split <;> rfl
theorem zov(v:Option V)(y d:Nat)(F:Nat→Option α)(K:α→Option R):zd (bound v y d F) K=bound v y d λ x=>zd (F x) K:=by unfold bound; split <;> simp only [zw,zu]
theorem zis(v:V)(n:Nat)(F:Nat→Option α)(K:α→Option R):zd (index v n F) K=index v n λ x=>zd (F x) K:=by unfold index; split <;> simp only [zw,zu]
theorem zy8(fr:Fr)(x:Option Operand)(F:Option V→Option α)(K:α→Option R):zd (zfq fr x F) K=zfq fr x λ x=>zd (F x) K:=by unfold zfq; split <;> simp only [ym]
theorem zfh(x:D):∀ (n off:Nat) (F:List D→Option α) (K:α→Option R),zd (zea x off n F) K=zea x off n λ x=>zd (F x) K
 | 0,off,F,K=>rfl
 | n+1,off,F,K=>by simp only [zea,zaz,zfh x n]
theorem zv6(t:Nat)(p:V)(F:V→List Nat→Option α)(K:α→Option R):zd (zdr cx σ t p F) K=zdr cx σ t p λ a b=>zd (F a b) K:=by
 unfold zdr;rw [zw];congr 1;split
 ·split <;> simp only [y5,zf7,zax,zw,zdf,zaz,zu]
 ·simp only [y5,zfh,zax,zw,zdf,zaz,zu]
 ·split <;> simp only [y5,zfh,zax,zw,zdf,zaz,zu]
 ·simp only [ym,y5,zo5,zax,zw,zdf,zaz,zu]
 ·rfl
theorem zti(t:Nat)(p v:V)(F:De→List Nat→Option α)(K:α→Option R):zd (za9 cx σ t p v F) K=za9 cx σ t p v λ a b=>zd (F a b) K:=by
 unfold za9;split <;> try rfl
 all_goals (split <;> simp only [ym,y5,zw,zu])
theorem zkd(P:Program):∀ (ts:List Nat) (vs:List V) (F:List V→Option α) (K:α→Option R),zd (zf8 P ts vs F) K=zf8 P ts vs λ x=>zd (F x) K
 | [],vs,F,K=>by simp only [zf8,zs6]
 | t::ts,vs,F,K=>by
  simp only [zf8,zs9,zf7];congr 1; funext v r; congr 1; funext u;exact zkd P ts r _ K
theorem zsr(P:Program)(t:Nat)(v:V)(F:V→Option α)(K:α→Option R):zd (zf9 P t v F) K=zf9 P t v λ x=>zd (F x) K:=by
 unfold zf9;split
 ·split <;> simp only [zo0,zkd]
 ·exact zf7 P t v F K
theorem znj(o x:V)(F:V→Option α)(K:α→Option R):zd (znk o x F) K=znk o x λ x=>zd (F x) K:=by
 unfold znk;split <;> simp only [zo4,zo3,zl9,zo2,zrl];split <;> simp only [y5,zu]
theorem znl:∀ (os vs:List V) (F:List V→Option α) (K:α→Option R),zd (znm os vs F) K=znm os vs λ x=>zd (F x) K
 | [],vs,F,K=>by simp only [znm,zs6]
 | o::os,vs,F,K=>by
  simp only [znm,zs9,znj];congr 1; funext v r; congr 1; funext u;exact znl os r _ K
theorem zv7(o x:Ob)(F:Ob→Option α)(K:α→Option R):zd (zqq o x F) K=zqq o x λ x=>zd (F x) K:=by
 unfold zqq;split
 ·rw [zw];congr 1;split
  ·exact znl _ _ _ K
  ·rfl
 ·rw [zw,znj]
 ·rfl
theorem zl7(ren:List Nat)(σ':St):∀ (l:List Nat) (k:Nat) (F:De→Option α) (K:α→Option R),zd (zai ren σ σ' k l F) K=zai ren σ σ' k l λ x=>zd (F x) K
 | [],k,F,K=>rfl
 | i::l,k,F,K=>by
  simp only [zai,ym,zv7];congr 1; funext a; congr 1; funext b; congr 1; funext c;exact zl7 ren σ' l (k+1) _ K
theorem zi2(call:yk)(t f:Nat)(args:List V)(xs:List Nat)(F:Oc→De→List Nat→Option α)(K:α→Option R):zd (vp cx call σ t f args xs F) K=vp cx call σ t f args xs λ a b c=>zd (F a b c) K:=by
 unfold vp;simp only [zw];congr 1;congr 1;split <;> simp only [zl7,zsr,zu]
end
section
variable {R:Type} {cx:Cx} {w:World} {σ:St} {μ:Mu}
def zgl(w:World)(σ:St)(μ:Mu):Ex→Exit→Prop
 | .normal,.normal=>True
 | .ret,.ret=>True
 | .exit i,.exit j=>i=j
 | .goto i,.goto j=>i=j
 | .pan v,.panic chain=>∃ x,chain=[{ v:=x,recovered:=false }]∧RV w σ μ x v
 | _,_=>False
structure Now (cx:Cx) (nt:Nat) (ds:List Deferred) (w₀:World) (σ₀:St) (μ₀:Mu) (a:Act) (w:World) (σ:St) (μ:Mu) (fr:Fr):Prop where
 after:After cx w₀ σ₀ μ₀ w σ μ
 fr:FR w σ μ a.tmps fr
 size:nt≤a.tmps.size
 defers:a.defers=ds
def y8(fr fr':Fr):Prop:=∀ t,zg fr' t=zg fr t
theorem FR.same{tmps:Array Value}{fr fr':Fr}(h:FR w σ μ tmps fr)(hs:y8 fr fr'):FR w σ μ tmps fr':=λ t v ht=>h t v (by rw [←hs t]; exact ht)
theorem y8.refl(fr:Fr):y8 fr fr:=λ _=>rfl
theorem y8.dup{fr:Fr}{t:Nat}{v:V}(h:zg fr t=some v):y8 fr ((t,v)::fr):=by
 intro t';simp only [zg];cases hb:Nat.beq t t'
 ·rfl
 ·obtain rfl:=pg hb;exact h.symm
theorem RV.bool_of{v:V}{b:Bool}(h:RV w σ μ (.bool b) v):v=.d (.bool b):=by
 cases h with
 | d _ x hd=>cases hd; rfl
 | sl _ sz l id n hd=>cases hd
theorem z42{tmps:Array Value}{t:Nat}{v:Value}(h:tmps[t]?=some v):tmps.getD t undef=v:=by
 simp [Array.getD_eq_getD_getElem?,h]
theorem z4m{tmps:Array Value}{t:Nat}{b:Bool}(h:tmps.getD t undef=.bool b):tmps[t]?=some (.bool b):=by
 cases hg:tmps[t]? with
 | none=>simp [Array.getD_eq_getD_getElem?,hg,undef] at h
 | some v=>simp [Array.getD_eq_getD_getElem?,hg] at h; rw [h]
def zgr(ops:List Oper)(o:Oper)(fr:Fr):Option Bool:=
 match o.guard with
 | none=>some true
 | some (j,want)=>
  match zmv ops j with
  | none=>some false
  | some t=>
   match zg fr t with
   | some (.d (.bool b))=>some (b == want)
   | some _=>some false
   | none=>none
theorem zlv{ops:List Oper}{o:Oper}{fr:Fr}{yes no:Fr→Option R}{r:R}(h:zct ops o fr yes no=some r) :
  ∃ fr',y8 fr fr'∧((zgr ops o fr=some true∧yes fr'=some r)∨(zgr ops o fr=some false∧no fr'=some r)):=by
 unfold zct at h;unfold zgr;split at h
 ·exact ⟨fr,y8.refl fr,.inl ⟨by simp [*],h⟩⟩
 ·rename_i j want hg;simp only [hg];split at h
  ·exact ⟨fr,y8.refl fr,.inr ⟨by simp [*],h⟩⟩
  ·rename_i t ht;simp only [ht];split at h
   ·rename_i b hb;cases b <;> cases want <;> simp only [cond_true,cond_false] at h
    ·exact ⟨_,y8.dup hb,.inl ⟨by simp [hb],h⟩⟩
    ·exact ⟨_,y8.dup hb,.inr ⟨by simp [hb],h⟩⟩
    ·exact ⟨_,y8.dup hb,.inr ⟨by simp [hb],h⟩⟩
    ·exact ⟨_,y8.dup hb,.inl ⟨by simp [hb],h⟩⟩
   ·rename_i x hn hx;refine ⟨fr,y8.refl fr,.inr ⟨?_,h⟩⟩;rw [hx];split
    ·rename_i b hb; exact (hn _ (Option.some.inj hb)).elim
    ·rfl
    ·rename_i hb; cases hb
   ·cases h
theorem ztm{ops:List Oper}{arr:Array Oper}(h:arr.toList=ops)(j:Nat):(arr[j]?).bind (·.dst)=zmv ops j:=by
 unfold zmv;rw [←h,Array.getElem?_toList];cases arr[j]? <;> rfl
theorem zcd{ops:List Oper}{arr:Array Oper}(harr:arr.toList=ops){o:Oper}{fr:Fr}{tmps:Array Value}(hf:FR w σ μ tmps fr){b:Bool}(h:zgr ops o fr=some b) :
  Region.wanted o (yielded arr tmps)=b:=by
 unfold zgr at h;unfold Region.wanted;split at h
 ·rename_i hg; simp only [hg]; cases h; rfl
 ·rename_i j want hg;simp only [hg,yielded,ztm harr];split at h
  ·rename_i ht; cases h; simp [ht]
  ·rename_i t ht;simp only [ht,Option.bind_some];split at h
   ·rename_i c hb;cases h;have hr:=hf t _ hb;have:tmps[t]?=some (.bool c):=by
     cases hr':tmps.getD t undef <;> rw [hr'] at hr
     case bool c'=>
      have:=hr.bool_of; cases this;exact z4m hr'
     all_goals (cases hr with | d _ _ hd=>cases hd)
    rw [this];cases c <;> cases want <;> rfl
   ·rename_i x hn hx;cases h;have hr:=hf t _ hx;cases hq:tmps[t]? with
    | none=>simp
    | some q=>
     rw [z42 hq] at hr;cases q <;> first | rfl | skip
     have:=hr.bool_of;subst this;exact (hn _ rfl).elim
   ·cases h
theorem zk4{fr:Fr}{dst:Option Nat}{v:V}{t:Nat}:zg (zd4 fr dst v) t=if dst=some t then some v else zg fr t:=by
 cases dst with
 | none=>simp [zd4]
 | some d=>
  simp only [zd4,zg];by_cases h:d=t
  ·subst h; simp
  ·simp [h,zi5 h]
theorem FR.put{nt:Nat}{a:Act}{fr:Fr}(h:FR w σ μ a.tmps fr){dst:Option Nat}(hd:zlz nt dst=true)(hs:nt≤a.tmps.size){v':Value}{v:V}(hv:RV w σ μ v' v) :
  FR w σ μ (a.put dst v').tmps (zd4 fr dst v):=by
 intro t u ht;rw [zk4] at ht;cases dst with
 | none=>exact h t u (by simpa using ht)
 | some d=>
  have hlt:d<a.tmps.size:=Nat.lt_of_lt_of_le (pq hd) hs;by_cases he:d=t
  ·subst he;simp at ht; subst ht;simpa [Act.put,Array.getD_eq_getD_getElem?,hlt] using hv
  ·simp [he] at ht;have:=h t u ht;simpa [Act.put,Array.getD_eq_getD_getElem?,Array.getElem?_setIfInBounds_ne he] using this
theorem vj(a:Act)(dst:Option Nat)(v:Value):(a.put dst v).tmps.size=a.tmps.size:=by cases dst <;> simp [Act.put]
theorem we(a:Act)(dst:Option Nat)(v:Value):(a.put dst v).defers=a.defers:=by cases dst <;> rfl
theorem zmr:RV w σ μ undef vq:=.tup #[] [] rfl (by simp)
theorem FR.nil{tmps:Array Value}:FR w σ μ tmps []:=λ _ _ h=>by cases h
variable {nt:Nat} {ds:List Deferred} {w₀:World} {σ₀:St} {μ₀:Mu}
theorem zfy{m:Nat}{call:Nat→List V→St→Option (Out×St)}(hcall:v8 cx call)(hn:yy cx.P){arr:Array Oper}{tl:List Oper}{K:Ex→Fr→St→Option R}{r:R}
  {Q:Exit→Act→World→Prop}
  (hend:∀ fr σ,K .normal fr σ=some r→∀ a w μ,Now cx nt ds w₀ σ₀ μ₀ a w σ μ fr→∀ i,arr.toList.drop i=tl→wpOps cx.P arr Q ((List.range arr.size).drop i) a w)
  (hQ:∀ v fr σ,K (.pan v) fr σ=some r→∀ x a w μ,zgl w σ μ (.pan v) x→Now cx nt ds w₀ σ₀ μ₀ a w σ μ fr→Q x a w) :
  ∀ (l:List Oper) (i:Nat),arr.toList.drop i=l++tl→∀ (fr:Fr) (σ:St),zbq cx m nt call arr.toList l fr σ K=some r →
   ∀ a w μ,Now cx nt ds w₀ σ₀ μ₀ a w σ μ fr→wpOps cx.P arr Q ((List.range arr.size).drop i) a w:=by
 intro l
 induction l with
 | nil=>
  intro i hi fr σ h a w μ hnow;exact hend _ _ h _ _ _ hnow i hi
 | cons o l ih=>
  intro i hi fr σ h a w μ hnow;have hlt:i<arr.size:=by
   have:=congrArg List.length hi;simp at this; omega
  have ho:arr[i]?=some o:=by
   have:=congrArg (·[0]?) hi;simpa using this
  have hrest:arr.toList.drop (i+1)=l++tl:=by
   rw [←List.drop_drop,hi]; rfl
  have hdrop:(List.range arr.size).drop i=i::(List.range arr.size).drop (i+1):=by
   rw [List.drop_eq_getElem_cons (by simpa using hlt)]; simp
  rw [hdrop];simp only [wpOps,ho];unfold zbq at h;obtain ⟨hd,h⟩:=zc h;obtain ⟨fr',hs,h⟩:=zlv h;have hf':=hnow.fr.same hs;rcases h with ⟨hw,h⟩ | ⟨hw,h⟩
  ·rw [zcd rfl hnow.fr hw,if_pos rfl];left;obtain ⟨p,hp,h⟩:=zb h;obtain ⟨oc,δ,fp,hK0,hok⟩:=zj4 hcall hn hnow.after.inv hf' hp;cases hK0;have hK:=h;refine hok _ _ ?_;cases oc with
   | val v=>
    intro v' w' μ' haf hv;refine ih (i+1) hrest _ _ hK _ _ μ' ⟨hnow.after.trans haf,FR.put (haf.frs hnow.after.inv hf') hd hnow.size hv,?_,?_⟩
    ·rw [vj]; exact hnow.size
    ·rw [we]; exact hnow.defers
   | pan v=>
    intro x w' μ' haf hv;exact hQ _ _ _ hK _ _ _ μ' ⟨x,rfl,hv⟩ ⟨hnow.after.trans haf,haf.frs hnow.after.inv hf',hnow.size,hnow.defers⟩
  ·rw [zcd rfl hnow.fr hw];simp only [Bool.false_eq_true,if_false];refine ih (i+1) hrest _ _ h _ _ μ ⟨hnow.after,FR.put hf' hd hnow.size zmr,?_,?_⟩
   ·rw [vj]; exact hnow.size
   ·rw [we]; exact hnow.defers
theorem zus{m:Nat}{call:Nat→List V→St→Option (Out×St)}(hcall:v8 cx call)(hn:yy cx.P){arr:Array Oper}{K:Ex→Fr→St→Option R}{r:R}
  {Q:Exit→Act→World→Prop}
  (hQ:∀ e fr σ,K e fr σ=some r→∀ x a w μ,zgl w σ μ e x→Now cx nt ds w₀ σ₀ μ₀ a w σ μ fr→Q x a w) :
  ∀ (l:List Oper) (i:Nat),arr.toList.drop i=l→∀ (fr:Fr) (σ:St),zbq cx m nt call arr.toList l fr σ K=some r →
   ∀ a w μ,Now cx nt ds w₀ σ₀ μ₀ a w σ μ fr→wpOps cx.P arr Q ((List.range arr.size).drop i) a w:=by
 intro l i hi;refine zfy hcall hn (tl:=[]) (λ fr σ h a w μ hnow i hi=>?_) (λ v=>hQ (.pan v)) l i (by rw [hi,List.append_nil])
 have:arr.size≤i:=by have:=congrArg List.length hi; simp at this; omega
 rw [List.drop_eq_nil_of_le (by simpa using this)]
 exact hQ _ _ _ h _ _ _ _ trivial hnow
end
section
variable {R:Type} {cx:Cx} {w:World} {σ:St} {μ:Mu} {nt:Nat} {ds:List Deferred} {w₀:World} {σ₀:St} {μ₀:Mu}
theorem zqe{y:Operand}{a:Nat}(h:zy9 y a=true):y=.tmp a:=by
 unfold zy9 at h;split at h
 ·rw [pg h]
 ·cases h
theorem zfr{y:Operand}{a:Nat}(h:zcx y a=true)(c:Act)(v:Value):(c.put (some a) v).eval y=c.eval y:=by
 unfold zcx at h;split at h
 ·rename_i b;have hne:b ≠ a:=by
   intro e;subst e;simp at h
  simp only [Act.eval,Act.put];simp [Array.getD_eq_getD_getElem?,Array.getElem?_setIfInBounds_ne (Ne.symm hne)]
 ·cases y <;> first | rfl | (rename_i hn; exact (hn _ rfl).elim)
theorem zgw{o i s:Oper}{q:Pend}(h:zkt o i s=some q) :
  ∃ ty1 p1 f1 ty2 p2 f2 ty3 p3 f3,o=⟨some q.a,.call ⟨.builtin .append,#[q.sv,q.pv],#[q.t,q.t2]⟩,ty1,p1,f1,none⟩∧i=⟨some q.p,.indexAddr q.t (.tmp q.a) q.j,ty2,p2,f2,none⟩ ∧
   s=⟨none,.store q.e (.tmp q.p) q.x,ty3,p3,f3,none⟩∧zcx q.j q.a=true∧zcx q.x q.a=true∧zcx q.x q.p=true∧q.a ≠ q.p:=by
 obtain ⟨d1,op1,ty1,p1,f1,g1⟩:=o;obtain ⟨d2,op2,ty2,p2,f2,g2⟩:=i;obtain ⟨d3,op3,ty3,p3,f3,g3⟩:=s;unfold zkt at h;split at h
 ·rename_i c t' y j e q' x h1 h2 h3;simp only at h1 h2 h3;subst h1 h2 h3;split at h
  ·rename_i sv pv t t2 a p hc ha hty hd1 hd2;simp only at hd1 hd2;subst hd1 hd2;cases hb:(zy9 y a&&zy9 q' p&&zcx j a&&zcx x a&&zcx x p&&!Nat.beq a p&&Nat.beq t' t&&g1.isNone&&g2.isNone&&g3.isNone&&d3.isNone) <;> simp only [hb] at h
   ·cases h
   ·cases h;simp only [ph,Bool.not_eq_true',Option.isNone_iff_eq_none] at hb;obtain ⟨⟨⟨⟨⟨⟨⟨⟨⟨⟨k1,k2⟩,k3⟩,k4⟩,k5⟩,k6⟩,k7⟩,k8⟩,k9⟩,k10⟩,k11⟩:=hb;subst k8 k9 k10 k11;have k7:=pg k7;subst k7;obtain rfl:=zqe k1;obtain rfl:=zqe k2;obtain ⟨callee,cargs,ctys⟩:=c;simp only at hc ha hty;subst hc;have e1:cargs = #[sv,pv]:=by apply Array.ext'; simpa using ha
    have e2:ctys = #[t',t2]:=by apply Array.ext'; simpa using hty
    subst e1 e2;exact ⟨_,_,_,_,_,_,_,_,_,rfl,rfl,rfl,k3,k4,k5,λ e=>by have e':a=p:=e; subst e'; simp at k6⟩
  ·cases h
 ·cases h
theorem ztx{P:Program}{t:Nat}(h:z16 P t=true):(match P.underlying t with | some (.int _)=>false | some _=>true | none=>false)=true:=h
theorem zts(hi:Inv cx w σ μ){a:Act}{fr:Fr}(hf:FR w σ μ a.tmps fr)(hs:nt≤a.tmps.size){q:Pend}{K:Fr→St→Option R}{r:R}{o i s:Oper}(hq:zkt o i s=some q)(h:zgv cx nt σ fr q K=some r) :
  ∃ fr' σ',K fr' σ'=some r∧∃ v1 v2 w1 w' μ',(execOp a.eval o).run cx.P w=.ok (.value v1) w1∧(execOp (a.put o.dst v1).eval i).run cx.P w1=.ok (.value v2) w1 ∧
   (execOp ((a.put o.dst v1).put i.dst v2).eval s).run cx.P w1=.ok .skip w'∧After cx w σ μ w' σ' μ'∧FR w' σ' μ' (((a.put o.dst v1).put i.dst v2).put s.dst undef).tmps fr' ∧
   (∀ w2,(execOp (a.put o.dst v1).eval i).run cx.P w2=.ok (.value v2) w2)∧∃ b ncs id n,zg σ' id=some (.tok n)∧(μ' id).blk=some b∧w'=w1.setRow b ncs ∧
    ∀ w2:World,w2.heap[b]?=w1.heap[b]?→(execOp ((a.put o.dst v1).put i.dst v2).eval s).run cx.P w2=.ok .skip (w2.setRow b ncs):=by
 obtain ⟨ty1,p1,f1,ty2,p2,f2,ty3,p3,f3,rfl,rfl,rfl,hj,hx1,hx2,hap⟩:=zgw hq;unfold zgv at h;obtain ⟨hlt,h0⟩:=zc h;clear h;rw [ph] at hlt;split at h0
 case h_2=>cases h0
 rename_i e hu;obtain ⟨hc,h1⟩:=zc h0;clear h0;simp only [ph] at hc;obtain ⟨⟨⟨⟨he,hty⟩,hby⟩,hz⟩,hni⟩:=hc;have he:=pg he;subst he;obtain ⟨z,hz⟩:=Option.isSome_iff_exists.1 hz;obtain ⟨sv,hsv,h2⟩:=zb h1;clear h1;obtain ⟨pl,hpl,h3⟩:=zb h2;clear h2;obtain ⟨jv,hjv,h4⟩:=zb h3;clear h3;obtain ⟨v,hv,h5⟩:=zb h4;clear h4;obtain ⟨y,hy,h6⟩:=zb h5;clear h5;split at h6
 case h_2=>cases h6
 rename_i sz l id k n;split at h6
 case h_2=>cases h6
 rename_i kk hid;obtain ⟨hc,h7⟩:=zc h6;clear h6;simp only [ph,decide_eq_true_eq,Bool.not_eq_true'] at hc;obtain ⟨⟨⟨⟨⟨⟨hsz,hT⟩,hkk⟩,hn⟩,hle⟩,hyc⟩,htup⟩:=hc;have hsz:=pg hsz;have hyc:=pg hyc;subst hkk hn;obtain ⟨sz',ps,hd,h8⟩:=zf5 h7;clear h7;obtain ⟨hc,h⟩:=zc h8;clear h8;rw [ph] at hc;have hsz':=pg hc.1;have hps:=pg hc.2;have rs:=x9 (t:=q.t) hf hsv;have rp:=x9 (t:=q.t2) hf hpl;have rj:=xi hf hjv;have rv:=x9 (t:=q.e) hf hv;have hyr:=ze9 rv hy;have hcells:=V.cells_ok (RV.d _ _ hyr);have hvd:RDs w (zp σ μ) (a.eval q.x).cells.toList y.cells:=by
  have:(V.d y).cells=y.cells.map .d:=by cases y <;> rfl
  rw [this] at hcells;exact hcells.rd
 have hone:=V.cells_one (RV.d _ _ hyr) rfl;obtain ⟨b,oo,cap,w1,w',lo,g1,g2,g3,g4,g5,g6,ncs,g7,g8⟩:=z44 (ty:=ty1) hi rs rp hd hps hvd hone hyc hu hz (ztx hni) (.inl hsz') hsz (zxm hT) (pq hby) hid hle;have haf:=g3.after hi g4;have hjint:a.eval q.j=.int k (l.length:Int):=rj.int_inv;have hidx:∀ w2:World,(execOp (a.put (some q.a) (.slice (some ⟨b,oo,none⟩) (l.length+1) cap)).eval ⟨some q.p,.indexAddr q.t (.tmp q.a) q.j,ty2,p2,f2,none⟩).run cx.P w2=.ok (.value (.pointer (some ⟨b,oo+l.length * cx.P.cellsOf q.e,none⟩))) w2:=by
  intro w2;simp only [execOp];refine wy ?_;rw [zfr hj,hjint];have hsl:(a.put (some q.a) (.slice (some ⟨b,oo,none⟩) (l.length+1) cap)).eval (.tmp q.a)=.slice (some ⟨b,oo,none⟩) (l.length+1) cap:=by
   have:q.a<a.tmps.size:=Nat.lt_of_lt_of_le (pq hlt.1) hs;simp [Act.eval,Act.put,Array.getD_eq_getD_getElem?,this]
  rw [hsl];have:=run_indexAt_slice (w:=w2) (k:=k) (i:=(l.length:Int)) (b:=b) (o:=oo) (n:=l.length+1) (cap:=cap) hu (by omega) (by omega) (vf hty)
  simpa using this
 have hput:∀ w2 w3:World,(storeCells ⟨b,oo+l.length * cx.P.cellsOf q.e,none⟩ (a.eval q.x).cells.toList).run cx.P w2=.ok () w3 →
   (execOp ((a.put (some q.a) (.slice (some ⟨b,oo,none⟩) (l.length+1) cap)).put (some q.p) (.pointer (some ⟨b,oo+l.length * cx.P.cellsOf q.e,none⟩))).eval ⟨none,.store q.e (.tmp q.p) q.x,ty3,p3,f3,none⟩).run cx.P w2=.ok .skip w3:=by
  intro w2 w3 hst;simp only [execOp];refine zxr ?_;rw [zfr hx2,zfr hx1];have hpp:((a.put (some q.a) (.slice (some ⟨b,oo,none⟩) (l.length+1) cap)).put (some q.p) (.pointer (some ⟨b,oo+l.length * cx.P.cellsOf q.e,none⟩))).eval (.tmp q.p)=.pointer (some ⟨b,oo+l.length * cx.P.cellsOf q.e,none⟩):=by
   have:q.p<a.tmps.size:=Nat.lt_of_lt_of_le (pq hlt.2) hs;simp [Act.eval,Act.put,Array.getD_eq_getD_getElem?,this]
  rw [hpp];obtain ⟨dd,hdd⟩:=qu hty;unfold Instr.storeAt Instr.sureAddr storeVar;have hcs:(a.eval q.x).cells.size=cx.P.cellsOf q.e:=by have:=hvd.1; simp at this; omega
  simp [run_sizeOf hdd,hcs,hst]
 refine ⟨_,_,h,.slice (some ⟨b,oo,none⟩) (l.length+1) cap,.pointer (some ⟨b,oo+l.length * cx.P.cellsOf q.e,none⟩),w1,w',_,?_,hidx w1,hput w1 w' g2,haf,?_,hidx,
  b,ncs,id,l.length+1,by simp [zn],by simp [setMu,g6],g7,λ w2 h2=>hput w2 _ (g8 w2 h2)⟩
 ·simp only [execOp,resolve,invoke,builtin];simp [Sem.run_bind,g1]
 ·have hptr:RV w' (vk σ id (.tok (l.length+1))) (setMu μ id lo) (.pointer (some ⟨b,oo+l.length * cx.P.cellsOf q.e,none⟩)) (.eptr y 0):=by
   have hrd:=g5.slD;rw [hsz] at hrd;obtain ⟨b',o',n',cap',xs,he,_,hyl,hc1,hr1⟩:=hrd.slot (j:=l.length) (y:=y) (by simp)
   cases he;exact .eptr y b _ 0 xs (λ k hk=>hc1 k (by omega)) hr1
  exact FR.put (dst:=some q.p) (a:=a.put (some q.a) (.slice (some ⟨b,oo,none⟩) (l.length+1) cap)) (FR.put (dst:=some q.a) (haf.frs hi hf) hlt.1 hs g5) hlt.2 (by rw [vj]; exact hs) hptr
theorem z07{P:Program}{arr:Array Oper}{Q:Exit→Act→World→Prop}{k:Nat}{o i s:Oper}{l:List Oper}{a:Act}{w w1 w':World}{v1 v2:Value}(hdrop:arr.toList.drop k=o::i::s::l)
  (hg:o.guard=none∧i.guard=none∧s.guard=none) (h1:(execOp a.eval o).run P w=.ok (.value v1) w1) (h2:(execOp (a.put o.dst v1).eval i).run P w1=.ok (.value v2) w1)
  (h3:(execOp ((a.put o.dst v1).put i.dst v2).eval s).run P w1=.ok .skip w') (h:wpOps P arr Q ((List.range arr.size).drop (k+3)) (((a.put o.dst v1).put i.dst v2).put s.dst undef) w') :
  wpOps P arr Q ((List.range arr.size).drop k) a w:=by
 have hlen:k+3≤arr.size:=by have:=congrArg List.length hdrop; simp at this; omega
 have ho:arr[k]?=some o:=by have:=congrArg (·[0]?) hdrop; simpa using this
 have hi:arr[k+1]?=some i:=by have:=congrArg (·[1]?) hdrop; simpa using this
 have hs:arr[k+2]?=some s:=by have:=congrArg (·[2]?) hdrop; simpa using this
 have hd:(List.range arr.size).drop k=k::(k+1)::(k+2)::(List.range arr.size).drop (k+3):=by
  rw [List.drop_eq_getElem_cons (by simp; omega),List.drop_eq_getElem_cons (by simp; omega),List.drop_eq_getElem_cons (by simp; omega)]
  simp
 rw [hd];simp only [wpOps,ho,hi,hs];rw [if_pos (by simp [Region.wanted,hg.1])]
 left;unfold Oper.wp;rw [h1,Oper.upon_value,if_pos (by simp [Region.wanted,hg.2.1])]
 left;rw [h2,Oper.upon_value,if_pos (by simp [Region.wanted,hg.2.2])]
 left;rw [h3,Oper.upon_skip];exact h
theorem zph{o i s:Oper}{q:Pend}(h:zkt o i s=some q):o.guard=none∧i.guard=none∧s.guard=none:=by
 obtain ⟨ty1,p1,f1,ty2,p2,f2,ty3,p3,f3,rfl,rfl,rfl,_⟩:=zgw h;exact ⟨rfl,rfl,rfl⟩
theorem zp2(a:Act)(x y z:Option Nat)(u v t:Value):(((a.put x u).put y v).put z t).tmps.size=a.tmps.size∧(((a.put x u).put y v).put z t).defers=a.defers:=by
 rw [vj,vj,vj,we,we,we];exact ⟨rfl,rfl⟩
theorem zzu{arr:Array Oper}{Q:Exit→Act→World→Prop}{k:Nat}{fr:Fr}{K:List Oper→Fr→St→Option R}{r:R}(h:zet cx nt arr.toList k fr σ K=some r){a:Act}(hnow:Now cx nt ds w₀ σ₀ μ₀ a w σ μ fr)
  (hnext:∀ l fr' σ',K l fr' σ'=some r→arr.toList.drop (k+3)=l→∀ a w μ,Now cx nt ds w₀ σ₀ μ₀ a w σ' μ fr'→wpOps cx.P arr Q ((List.range arr.size).drop (k+3)) a w) :
  wpOps cx.P arr Q ((List.range arr.size).drop k) a w:=by
 unfold zet at h;split at h
 case h_2=>cases h
 rename_i o i s l hdrop;obtain ⟨q,hq,h⟩:=zb h;obtain ⟨fr',σ',hK,v1,v2,w1,w',μ',g1,g2,g3,haf,hf,_⟩:=zts hnow.after.inv hnow.fr hnow.size hq h;refine z07 hdrop (zph hq) g1 g2 g3 (hnext l fr' σ' hK ?_ _ _ μ' ⟨hnow.after.trans haf,hf,?_,?_⟩)
 ·rw [←List.drop_drop,hdrop]; rfl
 ·rw [(zp2 ..).1]; exact hnow.size
 ·rw [(zp2 ..).2]; exact hnow.defers
end
section
variable {R:Type} {cx:Cx} {σ σ':St}
theorem zbd{P:Program}{t:Nat}{fr fr':Fr}{x:Operand}(h:opd fr' x=opd fr x):zdo P t fr' x=zdo P t fr x:=by
 unfold zdo;split
 ·rfl
 ·exact h
theorem zrz{P:Program}{t:Nat}{fr fr':Fr}:∀ {ps:List (Nat×Operand)},(∀ p∈ps,opd fr' p.2=opd fr p.2)→zjs P fr' t ps=zjs P fr t ps
 | [],_=>rfl
 | (i,x)::ps,h=>by
  simp only [zjs];rw [zbd (h (i,x) pn),zrz λ p hp=>h p (pp _ hp)]
theorem zh3{P:Program}{fr fr':Fr}:∀ {xs:List Operand} {ts:List Nat},(∀ x∈xs,opd fr' x=opd fr x)→vz P fr' xs ts=vz P fr xs ts
 | [],_,_=>rfl
 | x::xs,ts,h=>by
  simp only [vz];rw [zbd (h x pn),zh3 λ p hp=>h p (pp _ hp)]
theorem zo7{P:Program}{fr fr':Fr}{id:Nat}:∀ {xs:List Operand} {ts:List Nat},(∀ x∈xs,opd fr' x=opd fr x)→zaq P fr' id xs ts=zaq P fr id xs ts
 | [],_,_=>rfl
 | x::xs,ts,h=>by
  have e:=zo7 (P:=P) (id:=id) (ts:=ts.tail) λ p hp=>h p (pp _ hp);have e2:=h x pn;simp only [zaq];rw [e];cases zaq P fr id xs ts.tail with
  | none=>rfl
  | some l=>
   simp only;split
   ·rfl
   ·rw [e2]
theorem zr0{fr fr':Fr}{x:Option Operand}(h:∀ y∈x,opd fr' y=opd fr y){K:Option V→Option R}:zfq fr' x K=zfq fr x K:=by
 cases x with
 | none=>rfl
 | some x=>simp only [zfq,h x rfl]
theorem zyf{m nt : Nat}{call : Nat → List V → St → Option (Out × St)}{o : Oper}{fr fr' : Fr}(h : ∀ x ∈ o.op.operands, opd fr' x = opd fr x){K : Oc → De → List Nat → Option R} :
    xn cx m nt call o fr' σ K = xn cx m nt call o fr σ K := by
  obtain ⟨dst, op, type, pos, after, guard⟩ := o;cases op <;> simp only [Op.operands] at h
  case move x | assign x =>
    simp only [xn];split
    · rfl
    · rw [h x (by simp)]
  case makeFunc fn first caps =>
    cases fn <;> simp only [xn];rw [zh3 λ x hx => h x (by simp at hx; simp [hx]), zh3 λ x hx => h x (by simp at hx; simp [hx])]
  case makeMap t r => cases r <;> simp only [xn]
  case makeSlice t n c => simp only [xn]; rw [h n (by simp), h c (by simp)]
  case lookup t x i ok => simp only [xn]; rw [h x (by simp), h i (by simp)]
  case mapUpdate t mm k x | insert t mm k x => simp only [xn]; rw [h mm (by simp), h k (by simp), zbd (h x (by simp))]
  case build t ps => simp only [xn]; rw [zrz λ p hp => h p.2 (by simp; exact ⟨p.1, by simpa using hp⟩)]
  case buildSlice t n ps => simp only [xn]; rw [zrz λ p hp => h p.2 (by simp; exact ⟨p.1, by simpa using hp⟩)]
  case box t x => simp only [xn]; rw [zbd (h x (by simp))]
  case store t p x => simp only [xn]; rw [h p (by simp), zbd (h x (by simp))]
  case binOp op t x y u => simp only [xn]; rw [zbd (h x (by simp)), zbd (h y (by simp))]
  case convert s t x => simp only [xn]; rw [zbd (h x (by simp))]
  case makeInterface t x => simp only [xn]; rw [zbd (h x (by simp))]
  case slice t x lo hi mx =>
    simp only [xn];have e1 : ∀ {K : Option V → Option R}, zfq fr' lo K = zfq fr lo K := zr0 λ y hy => h y (by cases hy; simp)
    have e2 : ∀ {K : Option V → Option R}, zfq fr' hi K = zfq fr hi K := zr0 λ y hy => h y (by cases hy; simp)
    have e3 : ∀ {K : Option V → Option R}, zfq fr' mx K = zfq fr mx K := zr0 λ y hy => h y (by cases hy; simp)
    simp only [zbd (h x (by simp)), e1, e2, e3]
  case call c =>
    obtain ⟨callee, cargs, ctypes⟩ := c;simp only [Call.operands] at h;cases callee with
    | value f =>
      simp only [xn];rw [h f (by simp)]
      have e : ∀ {ts}, vz cx.P fr' cargs.toList ts = vz cx.P fr cargs.toList ts := zh3 λ x hx => h x (by simp at hx; simp [hx])
      have e' : ∀ {id ts}, zaq cx.P fr' id cargs.toList ts = zaq cx.P fr id cargs.toList ts := zo7 λ x hx => h x (by simp at hx; simp [hx])
      have e2 : ∀ {site g cap} {K : Oc → De → List Nat → Option R}, zic cx σ site g cap cargs.toList fr' K = zic cx σ site g cap cargs.toList fr K := by
        intro site g cap K;unfold zic;split
        · rename_i y hy
          rw [h y (by have : y ∈ cargs.toList := by rw [hy]; simp
                      simp at this; simp [this])]
        · rfl
      simp only [e, e', e2]
    | invoke r nm => simp only [xn]
    | builtin b =>
      have e : ∀ x ∈ cargs.toList, ∀ {P t}, zdo P t fr' x = zdo P t fr x := λ x hx {P t} => zbd (h x (by simp at hx; simp [hx]))
      cases b <;> simp only [xn]
      · split
        · rename_i s x t t' hx ht;rw [e s (by rw [hx]; simp), e x (by rw [hx]; simp)]
        · rfl
      · split
        · rename_i x t hx ht;rw [e x (by rw [hx]; simp)]
        · rfl
  all_goals simp only [xn]
  all_goals first | rfl | skip
  all_goals (simp only [Array.mem_def, List.mem_cons, List.not_mem_nil, or_false, forall_eq_or_imp, forall_eq] at h)
  all_goals first | (simp only [h]; done) | (simp only [h.1, h.2]; done) | (simp only [h.1, h.2.1, h.2.2]; done)
end
section
variable {R:Type} {cx:Cx} {σ σ':St}
def agree(S:List Nat)(σ σ':St):Prop:=∀ i∈S,zg σ' i=zg σ i
theorem z1x{S:List Nat}(ha:agree S σ σ')(hc:∀ i∈S,∃ o,zg σ i=some o∧∀ j∈o.ids,j∈S) :
  ∀ (n:Nat) (todo seen:List Nat),(∀ i∈todo,i∈S)→w8 σ' n todo seen=w8 σ n todo seen:=by
 intro n
 induction n with
 | zero=>intro todo seen _; rfl
 | succ n ih=>
  intro todo seen ht;cases todo with
  | nil=>rfl
  | cons i todo=>
   have hi:=ht i pn;have htl:∀ j∈todo,j∈S:=λ j hj=>ht j (pp _ hj);simp only [w8];rw [ha i hi];obtain ⟨o,ho,hids⟩:=hc i hi;rw [ho];cases seen.elem i
   ·simp only [cond_false];exact ih _ _ λ j hj=>by
     rcases List.mem_append.1 hj with h | h
     ·exact hids j h
     ·exact htl j h
   ·exact ih _ _ htl
theorem zm1(full:List Nat):∀ (ren:List Nat) (k:Nat),agree ren σ σ'→xb σ' full k ren=xb σ full k ren
 | [],_,_=>rfl
 | i::r,k,h=>by
  simp only [xb,h i pn];split
  ·rw [zm1 full r (k+1) λ j hj=>h j (pp _ hj)]
  ·exact zm1 full r (k+1) λ j hj=>h j (pp _ hj)
theorem zrk{full:List Nat}{τ:St}:∀ (ren:List Nat) (k:Nat) {K:De→Option R},agree ren σ σ'→zai full σ' τ k ren K=zai full σ τ k ren K
 | [],_,_,_=>rfl
 | i::r,k,K,h=>by
  have e:∀ K:De→Option R,zai full σ' τ (k+1) r K=zai full σ τ (k+1) r K:=λ K=>zrk r (k+1) λ j hj=>h j (pp _ hj);simp only [zai,h i pn,e]
theorem zw9{α:Type}{l:List α}{f g:α→Bool}(h:∀ x∈l,f x=g x):l.all f=l.all g:=by
 induction l with
 | nil=>rfl
 | cons a l ih=>simp only [List.all_cons]; rw [h a pn,ih λ x hx=>h x (pp _ hx)]
theorem zu6{ids:List Nat}{ren:List Nat}(h:agree ren σ σ'):closedIn σ' ids ren=closedIn σ ids ren:=by
 unfold closedIn;congr 1;exact zw9 λ i hi=>by rw [h i hi]
abbrev Tri:=Oc×De×List Nat
theorem zoo{call:Nat→List V→St→Option (Out×St)}{t f:Nat}{args:List V}{xs:List Nat}{p:Tri}(h:vp cx call σ t f args xs (λ oc δ fp=>some (oc,δ,fp))=some p)(ha:agree p.2.2 σ σ') :
  vp cx call σ' t f args xs (λ oc δ fp=>some (oc,δ,fp))=some p:=by
 have hfp:w8 σ 1000 (V.idsL args++xs) []=p.2.2:=by
  unfold vp at h;obtain ⟨_,h⟩:=zc h;obtain ⟨_,h⟩:=zc h;split at h
  ·obtain ⟨δ,h1,_⟩:=zdk _ _ h;obtain ⟨u,h2,_⟩:=zon h1;cases h2; rfl
  ·obtain ⟨δ,h1,_⟩:=zdk _ _ h;cases h1; rfl
  ·cases h
 unfold vp at h ⊢;simp only [hfp] at h ⊢;obtain ⟨hc,h⟩:=zc h;obtain ⟨_,hargs,hcl⟩:=zev hc;obtain ⟨hdom,h⟩:=zc h;rw [z1x ha hcl 1000 _ _ hargs,hfp,zu6 ha,hc,hdom];simp only [zm1 _ _ _ ha,zrk _ _ ha];exact h
theorem zeh:∀ {δ:De},agree (δ.map (·.1)) σ σ'→z7 σ' δ=z7 σ δ
 | [],_=>rfl
 | (i,o)::δ,h=>by
  simp only [z7];rw [h i (by simp),zeh (δ:=δ) λ j hj=>h j (by simp at hj ⊢; exact .inr hj)]
theorem vy{i:Nat}{o:Ob}(h:zg σ' i=zg σ i):z7 σ' [(i,o)]=z7 σ [(i,o)]:=zeh (by intro j hj; simp at hj; subst hj; exact h)
theorem z2e{t:Nat}{q:V}{p:Tri}(h:zdr cx σ t q (λ v fp=>some (Oc.val v,([]:De),fp))=some p)(ha:agree p.2.2 σ σ') :
  zdr cx σ' t q (λ v fp=>some (Oc.val v,([]:De),fp))=some p:=by
 cases q with
 | ptr id off=>
  have:zg σ' id=zg σ id:=by
   refine ha id ?_;unfold zdr at h;obtain ⟨_,h⟩:=zc h;simp only at h;split at h
   ·cases hb:(Nat.beq off 0&&Nat.beq _ (cx.P.cellsOf t)) <;> rw [hb] at h
    ·rw [cond_false] at h;cases ha:xj cx.P t <;> rw [ha] at h
     ·obtain ⟨c,_,h⟩:=zho h;obtain ⟨u,h,_⟩:=zdj h;cases h; simp
     ·obtain ⟨_,h⟩:=zc h;cases h; simp
    ·obtain ⟨u,h,_⟩:=zdj h;cases h; simp
   ·cases h
  unfold zdr at h ⊢;simp only [this];exact h
 | wptr id sz k i off=>
  have:zg σ' id=zg σ id:=by
   refine ha id ?_;unfold zdr at h;obtain ⟨_,h⟩:=zc h;simp only at h;split at h
   ·obtain ⟨_,h⟩:=zc h;obtain ⟨x,_,h⟩:=qh h;cases ha:xj cx.P t <;> rw [ha] at h
    ·obtain ⟨c,_,h⟩:=qh h;obtain ⟨u,h,_⟩:=zdj (v:=.d c) (K:=λ v=>some (Oc.val v,([]:De),[id])) (by simpa only [zc0] using h)
     cases h; simp
    ·obtain ⟨_,h⟩:=zc2 _ _ h;cases h; simp
   ·cases h
  unfold zdr at h ⊢;simp only [this];exact h
 | _=>exact h
theorem zyv{t:Nat}{q v:V}{p:Tri}(h:za9 cx σ t q v (λ δ fp=>some (Oc.val vq,δ,fp))=some p)(ha:agree p.2.2 σ σ') :
  za9 cx σ' t q v (λ δ fp=>some (Oc.val vq,δ,fp))=some p:=by
 cases q with
 | ptr id off=>
  have:zg σ' id=zg σ id:=by
   refine ha id ?_;unfold za9 at h;simp only at h;split at h
   ·cases hb:(Nat.beq off 0&&Nat.beq _ (cx.P.cellsOf t)) <;> rw [hb] at h
    ·rw [cond_false] at h;obtain ⟨_,h⟩:=zc h;cases h; simp
    ·obtain ⟨_,h⟩:=zc h;cases h; simp
   ·cases h
  unfold za9 at h ⊢;simp only [this];exact h
 | wptr id sz k i off=>
  have:zg σ' id=zg σ id:=by
   refine ha id ?_;unfold za9 at h;simp only at h;split at h
   ·obtain ⟨_,h⟩:=zc h;obtain ⟨y,_,h⟩:=zb h;obtain ⟨_,h⟩:=zc h;cases h; simp
   ·cases h
  unfold za9 at h ⊢;simp only [this];exact h
 | _=>exact h
theorem z4w{t:Nat}{x:V}{p:Tri}(h:lenV cx σ t x (λ v fp=>some (Oc.val v,([]:De),fp))=some p)(ha:agree p.2.2 σ σ') :
  lenV cx σ' t x (λ v fp=>some (Oc.val v,([]:De),fp))=some p:=by
 unfold lenV at h ⊢;split at h <;> first | exact h | skip
 split at h
 ·rename_i ks vs hg;cases h;have:zg σ' _=zg σ _:=ha _ pn;rw [this,hg]
 ·cases h
theorem zw8{site t:Nat}{s x:V}{b:Bool}{p:Tri}(h:zej cx σ site t s x b (λ v δ fp=>some (Oc.val v,δ,fp))=some p)(ha:agree p.2.2 σ σ') :
  zej cx σ' site t s x b (λ v δ fp=>some (Oc.val v,δ,fp))=some p:=by
 unfold zej at h ⊢;split at h <;> first | (cases h; done) | skip
 unfold dataOf at h ⊢;split at h <;> first | (cases h; done) | skip
 all_goals
  obtain ⟨hc,h⟩:=zc h;simp only [hc,za,cond_true];cases b
  ·simp only [cond_false] at h ⊢;split at h
   ·rename_i id _;split at h
    ·rename_i n hg;obtain ⟨hc2,h⟩:=zc h;cases h;have:zg σ' _=zg σ _:=ha _ pn;rw [this,hg];simp only [hc2,cond_true]
    ·cases h
   ·rename_i id sz k;split at h
    ·rename_i l hg;obtain ⟨hc2,h⟩:=zc h;cases h;have:zg σ' _=zg σ _:=ha _ pn;rw [this,hg];simp only [hc2,cond_true]
    ·cases h
   ·cases h
  ·simp only [cond_true] at h ⊢;obtain ⟨hc2,h⟩:=zc h;cases h;rw [vy (ha _ pn),hc2];rfl
theorem zzf{P:Program}{e id:Nat}{vs:List D}{a b:V→V}{z:D}{o:Option (Option Nat)}{q:Tri}(h:(zd o λ o=>zim o (λ i=>ze vs i λ y=>zcl P e y λ v=>some (Oc.val (a v),([]:De),[id]))
  (some (Oc.val (b (.d z)),([]:De),[id])))=some q):q.2.2=[id]:=by
 obtain ⟨o,_,h⟩:=zb h;rcases zhn h with ⟨i,_,h⟩ | ⟨_,h⟩
 ·obtain ⟨y,_,h⟩:=qh h;obtain ⟨u,h,_⟩:=zdj (v:=.d y) (K:=λ v=>some (Oc.val (a v),([]:De),[id])) (by simpa only [zc0] using h)
  cases h; rfl
 ·cases h; rfl
theorem zv4{t:Nat}{x k:V}{ok:Bool}{p:Tri}(h:zc4 cx σ t x k ok (λ v fp=>some (Oc.val v,([]:De),fp))=some p)(ha:agree p.2.2 σ σ') :
  zc4 cx σ' t x k ok (λ v fp=>some (Oc.val v,([]:De),fp))=some p:=by
 unfold zc4 at h ⊢;split at h
 ·rename_i kt e hu;obtain ⟨z,hz,q1⟩:=zb h;clear h;obtain ⟨key,rfl,q2⟩:=zbj q1;clear q1;obtain ⟨hty,h⟩:=zc q2;clear q2;simp only [hz,zd,asD,hty,za,cond_true];split at h <;> first | exact h | skip
  rename_i id;split at h
  ·rename_i ks vs hg;have:=zzf (id:=id) (a:=λ v=>bif ok then V.tup [v,.d (.bool true)] else v) (b:=λ v=>bif ok then V.tup [v,.d (.bool false)] else v) h;rw [this] at ha;simp only [ha _ pn,hg];exact h
  ·cases h
 ·cases h
theorem zv1{t:Nat}{x k v:V}{p:Tri}(h:zc3 cx σ t x k v (λ δ fp=>some (Oc.val vq,δ,fp))=some p)(ha:agree p.2.2 σ σ') :
  zc3 cx σ' t x k v (λ δ fp=>some (Oc.val vq,δ,fp))=some p:=by
 unfold zc3 at h ⊢;split at h
 ·rename_i kt e hu;split at h
  ·rename_i id;split at h
   ·rename_i ks vs hg;obtain ⟨key,rfl,h⟩:=zbj h;obtain ⟨y,hy,h⟩:=zb h;obtain ⟨hty,h⟩:=zc h;obtain ⟨o,ho,h⟩:=zb h;have:zg σ' id=zg σ id:=by
     refine ha id ?_;rcases zhn h with ⟨i,_,h⟩ | ⟨_,h⟩ <;> cases h <;> simp
    simp only [this,hg,asD,hy,zd,hty,za,cond_true,ho];exact h
   ·cases h
  ·cases h
 ·cases h
theorem zpi{site t:Nat}{l c:V}{p:Tri}(h:vu cx σ site t l c (λ v δ fp=>some (Oc.val v,δ,fp))=some p)(ha:agree p.2.2 σ σ') :
  vu cx σ' site t l c (λ v δ fp=>some (Oc.val v,δ,fp))=some p:=by
 unfold vu at h ⊢;split at h
 ·obtain ⟨z,hz,h⟩:=zb h;obtain ⟨hc,h⟩:=zc h;cases h;simp only [hz,zd];rw [vy (ha _ pn),hc];rfl
 ·cases h
theorem z1g{v:V}{p:Tri}(h:zh8 σ v (λ v δ fp=>some (Oc.val v,δ,fp))=some p)(ha:agree p.2.2 σ σ') :
  zh8 σ' v (λ v δ fp=>some (Oc.val v,δ,fp))=some p:=by
 unfold zh8 at h ⊢;split at h
 ·split at h
  ·rename_i l hg;obtain ⟨hc,h⟩:=zc h;cases h;rw [ha _ pn,hg];simp only [hc,za,cond_true]
  ·cases h
 ·cases h
theorem zld{v:Option V}{y d:Nat}{K:Nat→Option R}{r:R}(h:bound v y d K=some r):∃ n,K n=some r∧∀ (R':Type) (K':Nat→Option R'),bound v y d K'=K' n:=by
 unfold bound at h ⊢;split at h
 ·exact ⟨_,h,λ _ _=>rfl⟩
 ·obtain ⟨hc,h⟩:=zc h;exact ⟨_,h,λ _ _=>by simp only [hc,za,cond_true]⟩
 ·cases h
theorem zyy{site t:Nat}{x:V}{lo hi mx:Option V}{p:Tri}(h:zfj cx σ site t x lo hi mx (λ v δ fp=>some (Oc.val v,δ,fp))=some p)(ha:agree p.2.2 σ σ') :
  zfj cx σ' site t x lo hi mx (λ v δ fp=>some (Oc.val v,δ,fp))=some p:=by
 unfold zfj at h ⊢;split at h <;> first | exact h | skip
 obtain ⟨h1,h⟩:=zc h;simp only [h1,za,cond_true];unfold zl5 at h ⊢;split at h <;> first | (cases h; done) | skip
 all_goals
  obtain ⟨h2,h⟩:=zc h;simp only [h2,za,cond_true];split at h <;> first | exact h | skip
  obtain ⟨h3,h⟩:=zc h;simp only [h3,za,cond_true];obtain ⟨n1,h,e1⟩:=zld h;obtain ⟨n2,h,e2⟩:=zld h;obtain ⟨n3,h,e3⟩:=zld h;rw [e1,e2,e3];cases hb:Nat.beq n1 n3 <;> rw [hb] at h
  ·exact h
  ·rw [cond_true] at h ⊢;obtain ⟨h4,h⟩:=zc h;cases h;rw [vy (ha _ pn),h4];rfl
theorem zna{fr:Fr}{x:Option Operand}{K:Option V→Option R}{r:R}(h:zfq fr x K=some r):∃ v,K v=some r∧∀ (R':Type) (K':Option V→Option R'),zfq fr x K'=K' v:=by
 unfold zfq at h ⊢;split at h
 ·exact ⟨_,h,λ _ _=>rfl⟩
 ·obtain ⟨v,hv,h⟩:=zb h;exact ⟨_,h,λ _ _=>by simp only [hv,zd]⟩
theorem z47{m nt:Nat}{call:Nat→List V→St→Option (Out×St)}{o:Oper}{fr:Fr}{p:Tri}(h:zam cx m nt call o fr σ=some p)(ha:agree p.2.2 σ σ') :
  zam cx m nt call o fr σ'=some p:=by
 unfold zam at h ⊢;obtain ⟨dst,op,type,pos,after,guard⟩:=o;cases op
 case makeFunc fn first caps=>cases fn <;> exact h
 case makeMap t r=>
  cases r <;> simp only [xn] at h ⊢
  ·obtain ⟨hc,h⟩:=zc h;cases h;rw [vy (ha _ pn),hc];rfl
  ·cases h
 case move x | assign x=>
  simp only [xn] at h ⊢;split at h
  ·split at h <;> first | exact h | skip
   split at h
   ·rename_i hg;cases hown:cx.own nt (dst.getD 0) <;> rw [hown] at h <;> cases h <;> rw [ha _ pn,hg] <;> rfl
   ·rename_i hg;cases h;rw [ha _ pn,hg]
  ·obtain ⟨v,hv,h⟩:=zb h;simp only [hv,zd];cases hth:cx.thaw nt (dst.getD 0) <;> rw [hth] at h
   ·exact h
   ·exact z1g h ha
 case alloc e=>
  simp only [xn] at h ⊢;obtain ⟨z,hz,h⟩:=zb h;simp only [hz,zd];obtain ⟨hc,h⟩:=zc h;cases h;rw [zeh ha,hc];rfl
 case box e x=>
  simp only [xn] at h ⊢;obtain ⟨z,hz,h⟩:=zb h;simp only [hz,zd];obtain ⟨hc,h⟩:=zc h;cases h;rw [vy (ha _ pn),hc];rfl
 case build t ps=>
  simp only [xn] at h ⊢;cases hty:cx.typed nt (dst.getD 0)
  ·rw [hty] at h; exact h
  ·rw [hty] at h;simp only [cond_true] at h ⊢;obtain ⟨z,hz,h⟩:=zb h;simp only [hz,zd];obtain ⟨hc,h⟩:=zc h;cases h;rw [zeh ha,hc];rfl
 case buildSlice t n ps=>
  simp only [xn] at h ⊢;split at h
  ·obtain ⟨z,hz,h⟩:=zb h;obtain ⟨l,hl,h⟩:=zb h;obtain ⟨xs,hx,h⟩:=zb h;obtain ⟨hc,h⟩:=zc h;cases hbare:zsf cx nt dst ps.toList <;> rw [hbare] at h <;> cases hown:cx.own nt (dst.getD 0) <;> rw [hown] at h <;>
   ·cases h;simp only [hz,hl,hx,zd];rw [vy (ha _ pn),hc];rfl
  ·cases h
 case makeSlice t n c=>
  simp only [xn] at h ⊢;obtain ⟨z,hz,h⟩:=zb h;obtain ⟨y,hy,h⟩:=zb h;simp only [hz,hy,zd];exact zpi h ha
 case lookup t x i ok=>
  simp only [xn] at h ⊢;obtain ⟨z,hz,h⟩:=zb h;obtain ⟨y,hy,h⟩:=zb h;simp only [hz,hy,zd];exact zv4 h ha
 case mapUpdate t mm k x | insert t mm k x=>
  simp only [xn] at h ⊢;obtain ⟨z,hz,h⟩:=zb h;obtain ⟨y,hy,h⟩:=zb h;obtain ⟨q,hq,h⟩:=zb h;simp only [hz,hy,hq,zd];exact zv1 h ha
 case load t q=>
  simp only [xn] at h ⊢;obtain ⟨z,hz,h⟩:=zb h;simp only [hz,zd];exact z2e h ha
 case store t q x=>
  simp only [xn] at h ⊢;obtain ⟨z,hz,h⟩:=zb h;obtain ⟨v,hv,h⟩:=zb h;obtain ⟨hc,h⟩:=zc h;simp only [hz,hv,hc,zd,za,cond_true];exact zyv h ha
 case convert s t x=>
  simp only [xn] at h ⊢;obtain ⟨v,hv,h⟩:=zb h;simp only [hv,zd];split at h
  ·split at h
   ·rename_i hu hg;obtain ⟨hc,h⟩:=zc h;cases h;rw [hu,ha _ pn,hg];simp only [hc,za,cond_true]
   ·cases h
  ·rename_i hno;cases hun:z2n cx.P s t <;> rw [hun] at h
   ·exact h
   ·simp only [cond_true] at h ⊢;unfold zoj at h ⊢;split at h
    ·split at h
     ·rename_i hg;obtain ⟨hc,h⟩:=zc h;cases h;rw [ha _ pn,hg];simp only [hc,za,cond_true]
     ·cases h
    ·cases h
 case slice t x lo hi mx=>
  simp only [xn] at h ⊢;obtain ⟨v,hv,h⟩:=zb h;simp only [hv,zd];obtain ⟨v1,h,e1⟩:=zna h;obtain ⟨v2,h,e2⟩:=zna h;obtain ⟨v3,h,e3⟩:=zna h;rw [e1,e2,e3];exact zyy h ha
 case call c=>
  obtain ⟨callee,cargs,ctypes⟩:=c;cases callee with
  | value f=>
   simp only [xn] at h ⊢;obtain ⟨v,hv,h⟩:=zb h;simp only [hv,zd];split at h
   ·rename_i g first
    obtain ⟨l,hl,h⟩:=zb h;simp only [hl];exact zoo h ha
   ·rename_i g cap
    have wrap:∀ {l:List V} {xs:List Nat},z7 σ [(m+dst.getD 0,Ob.tok 0)]=true →
      (vp cx call (vk σ (m+dst.getD 0) (.tok 0)) type g l xs λ oc δ fp=>some (oc,(m+dst.getD 0,Ob.tok 0)::δ,(m+dst.getD 0)::fp))=some p →
      (za (z7 σ' [(m+dst.getD 0,Ob.tok 0)]) (vp cx call (vk σ' (m+dst.getD 0) (.tok 0)) type g l xs λ oc δ fp=>some (oc,(m+dst.getD 0,Ob.tok 0)::δ,(m+dst.getD 0)::fp)))=some p:=by
     intro l xs hfr h
     have e:∀ τ:St,(vp cx call (vk τ (m+dst.getD 0) (.tok 0)) type g l xs λ oc δ fp=>some (oc,(m+dst.getD 0,Ob.tok 0)::δ,(m+dst.getD 0)::fp)) =
       zd (vp cx call (vk τ (m+dst.getD 0) (.tok 0)) type g l xs λ oc δ fp=>some (oc,δ,fp)) λ p=>some (p.1,(m+dst.getD 0,Ob.tok 0)::p.2.1,(m+dst.getD 0)::p.2.2):=λ τ=>(zi2 (σ:=vk τ (m+dst.getD 0) (.tok 0)) call type g l xs (λ oc δ fp=>some (oc,δ,fp)) (λ p:Tri=>some (p.1,(m+dst.getD 0,Ob.tok 0)::p.2.1,(m+dst.getD 0)::p.2.2))).symm
     rw [e] at h;obtain ⟨q,hq,h⟩:=zb h;cases h;have hfr':z7 σ' [(m+dst.getD 0,Ob.tok 0)]=true:=by
      have:=ha (m+dst.getD 0) pn;unfold z7 at hfr ⊢;rw [this]; exact hfr
     rw [hfr',e,zoo hq (σ':=vk σ' (m+dst.getD 0) (.tok 0)) λ i hi=>by
      rw [zn,zn,ha i (pp _ hi)]]
     rfl
    cases hgr:(cx.grow g).isSome <;> rw [hgr] at h <;> simp only [cond_true,cond_false] at h ⊢
    rotate_left
    ·unfold zic at h ⊢;split at h
     ·rename_i y hargs;obtain ⟨e,he,h⟩:=zb h;obtain ⟨v,hv,h⟩:=zb h;simp only [hargs,he,hv,zd];split at h
      ·obtain ⟨hc,h⟩:=zc h;cases h;rw [vy (ha _ pn),hc];rfl
      ·cases h
     ·cases h
    cases hsm:(zg1 cx.P g&&cap.isEmpty) <;> rw [hsm] at h <;> simp only [cond_true,cond_false] at h ⊢
    rotate_left
    ·obtain ⟨l,hl,h⟩:=zb h;simp only [hl];exact h
    cases hgv:cx.gives g <;> rw [hgv] at h
    ·cases hnil:(cx.keep g&&zit cargs.toList) <;> rw [hnil] at h
     ·obtain ⟨l,hl,h⟩:=zb h;simp only [hl,cond_false];exact zoo h ha
     ·obtain ⟨l,hl,h⟩:=zb h;obtain ⟨hfr,h⟩:=zc h;simp only [hl,cond_true,cond_false];exact wrap hfr h
    ·obtain ⟨l,hl,h⟩:=zb h;obtain ⟨hfr,h⟩:=zc h;simp only [hl,cond_true];exact wrap hfr h
   ·cases h
  | invoke r nm=>exact h
  | builtin b=>
   cases b <;> first | exact h | skip
   ·simp only [xn] at h ⊢;split at h
    ·obtain ⟨v,hv,h⟩:=zb h;obtain ⟨u,hu,h⟩:=zb h;obtain ⟨hc,h⟩:=zc h;simp only [hv,hu,zd,hc,za,cond_true];exact zw8 h ha
    ·cases h
   ·simp only [xn] at h ⊢;split at h
    ·obtain ⟨v,hv,h⟩:=zb h;simp only [hv,zd];exact z4w h ha
    ·cases h
 all_goals exact h
end
section
variable {R:Type} {cx:Cx} {w:World} {σ σ':St} {μ:Mu}
def xy(σ σ':St):Prop:=∀ i,zg σ' i=zg σ i
theorem xy.own(h:xy σ σ'):zp σ' μ=zp σ μ:=by
 funext b i;simp only [zp,Mine,h _]
theorem xy.after(h:xy σ σ')(hi:Inv cx w σ μ):After cx w σ μ w σ' μ:=by
 have hown:=h.own (μ:=μ);have hst:Stays w (zp σ μ) w (zp σ' μ):=by rw [hown]; exact Stays.refl _ _
 have hstill:∀ id o,zg σ id=some o→yt μ id o μ (zg σ' id):=λ id o ho=>by rw [h id,ho]; exact yt.refl μ id o
 have rv:∀ v x,RV w σ μ v x→RV w σ' μ v x:=λ v x hv=>hv.stays hst λ id _ o ho=>hstill id o ho;have hm:Mine σ' μ=Mine σ μ:=by funext b i; simp only [Mine,h _]
 refine ⟨⟨λ id o ho=>?_,λ id id' o o' b i ho ho'=>hi.apart id id' o o' b i (h id ▸ ho) (h id' ▸ ho'),by rw [hown]; exact hi.glob,λ id o b i ho=>hi.frame id o b i (h id ▸ ho),hi.frLt,hi.frMap⟩,⟨⟨rfl,rfl,Nat.le_refl _,λ _ _ _=>rfl,λ _ _ _ _ h=>h⟩,λ b i _ ho=>by rw [hm] at ho; exact ho,rfl⟩,hstill,rfl⟩
 have hok:=hi.ob id o (h id ▸ ho);cases o with
 | val n v=>
  obtain ⟨b,cs,el,hb,hh,hn,ht,h1,hr,htag⟩:=hok;exact ⟨b,cs,el,hb,hh,hn,ht,h1,hr.map λ v x _=>rv v x,htag⟩
 | row l=>
  exact vh.stays hst hok λ _ _ _=>rfl
 | tok n=>exact hok
 | map ks vs=>
  obtain ⟨b,es,clock,hb,hh,hk,hv⟩:=hok;exact ⟨b,es,clock,hb,hh,hk.stays hst,hv.stays hst⟩
inductive Res where
 | dep
 | off
 | val (v:V) (δ:De) (fp:List Nat)
 | pan (v:V) (δ:De) (fp:List Nat)
structure It where
 i:Nat
 o:Oper
 res:Res
def It.wf(t:It):Option (Nat×V):=
 match t.res with
 | .off=>t.o.dst.map λ d=>(d,vq)
 | .val v _ _=>t.o.dst.map λ d=>(d,v)
 | _=>none
def It.ws(t:It):De:=
 match t.res with
 | .val _ δ _ | .pan _ δ _=>δ
 | _=>[]
def It.rf(ops:List Oper)(t:It):List Nat:=
 match t.res with
 | .dep=>[]
 | _=>looks ops t.o
def It.rs(t:It):List Nat:=
 match t.res with
 | .val _ _ fp | .pan _ _ fp=>fp
 | _=>[]
def It.nextF(t:It)(fr:Fr):Fr:=match t.wf with | some p=>p::fr | none=>fr
def It.nextS(t:It)(σ:St):St:=zf σ t.ws
def Good(cx:Cx)(m nt:Nat)(call:Nat→List V→St→Option (Out×St))(ops:List Oper)(fr:Fr)(σ:St)(t:It):Prop:=
 match t.res with
 | .dep=>True
 | .off=>zgr ops t.o fr=some false
 | .val v δ fp=>zgr ops t.o fr=some true∧zam cx m nt call t.o fr σ=some (.val v,δ,fp)
 | .pan v δ fp=>zgr ops t.o fr=some true∧zam cx m nt call t.o fr σ=some (.pan v,δ,fp)
structure Comm (ops:List Oper) (a b:It):Prop where
 ab:∀ p,a.wf=some p→p.1 ∉ b.rf ops
 ba:∀ p,b.wf=some p→p.1 ∉ a.rf ops
 ff:∀ p q,a.wf=some p→b.wf=some q→p.1 ≠ q.1
 sab:∀ i∈a.ws.map (·.1),i ∉ b.rs∧i ∉ b.ws.map (·.1)
 sba:∀ i∈b.ws.map (·.1),i ∉ a.rs∧i ∉ a.ws.map (·.1)
variable {m nt:Nat} {call:Nat→List V→St→Option (Out×St)} {ops:List Oper}
theorem ztv{fr fr':Fr}{x:Operand}(h:∀ t,x=.tmp t→zg fr' t=zg fr t):opd fr' x=opd fr x:=by
 cases x <;> first | rfl | exact h _ rfl
theorem z2d{o:Oper}{x:Operand}(hx:x∈o.op.operands){t:Nat}(ht:x=.tmp t):t∈looks ops o:=by
 subst ht;exact List.mem_append_left _ (List.mem_filterMap.2 ⟨.tmp t,by simpa using hx,rfl⟩)
theorem zii{o:Oper}{fr fr':Fr}(h:∀ t∈looks ops o,zg fr' t=zg fr t):zgr ops o fr'=zgr ops o fr:=by
 unfold zgr;split
 ·rfl
 ·rename_i j want hg;split
  ·rfl
  ·rename_i t ht;rw [h t (List.mem_append_right _ (by simp [hg,ht]))]
theorem Good.same{fr fr':Fr}{t:It}(h:Good cx m nt call ops fr σ t)(hf:∀ s∈t.rf ops,zg fr' s=zg fr s)(hs:agree t.rs σ σ'):Good cx m nt call ops fr' σ' t:=by
 unfold Good at h ⊢;obtain ⟨i,o,res⟩:=t;have key:∀ p:Tri,(∀ s∈looks ops o,zg fr' s=zg fr s)→zam cx m nt call o fr σ=some p→agree p.2.2 σ σ'→zam cx m nt call o fr' σ'=some p:=λ p hl h1 h2=>by
  have:zam cx m nt call o fr' σ'=zam cx m nt call o fr σ':=zyf λ x hx=>ztv λ t ht=>hl t (z2d hx ht);rw [this];exact z47 h1 h2
 cases res with
 | dep=>trivial
 | off=>exact (zii hf).trans h
 | val v δ fp=>exact ⟨(zii hf).trans h.1,key _ hf h.2 hs⟩
 | pan v δ fp=>exact ⟨(zii hf).trans h.1,key _ hf h.2 hs⟩
theorem zab(t:It)(fr:Fr)(s:Nat):zg (t.nextF fr) s=match t.wf with | some p=>if p.1=s then some p.2 else zg fr s | none=>zg fr s:=by
 unfold It.nextF;cases t.wf with
 | none=>rfl
 | some p=>
  obtain ⟨d,v⟩:=p;simp only [zg];by_cases h:d=s
  ·subst h; simp
  ·simp [h,zi5 h]
theorem zqh{t:It}{fr:Fr}{s:Nat}(h:∀ p,t.wf=some p→p.1 ≠ s):zg (t.nextF fr) s=zg fr s:=by
 rw [zab];cases hw:t.wf with
 | none=>rfl
 | some p=>simp [h p hw]
theorem zbu{t:It}{s:Nat}(h:s ∉ t.ws.map (·.1)):zg (t.nextS σ) s=zg σ s:=zac h
theorem zgf{δ : De} : ∀ {σ σ' : St} {i : Nat}, i ∈ δ.map (·.1) ∨ zg σ' i = zg σ i → zg (zf σ' δ) i = zg (zf σ δ) i := by
  induction δ with
  | nil => intro σ σ' i h; rcases h with h | h; · simp at h
           exact h
  | cons p δ ih =>
    intro σ σ' i h;obtain ⟨j, o⟩ := p;simp only [zf];refine ih ?_;by_cases hj : j = i
    · right; subst hj; simp [zn]
    · simp only [List.map_cons, List.mem_cons] at h;rcases h with (h | h) | h
      · exact absurd h.symm hj
      · exact .inl h
      · right; simp [zn, hj, h]
theorem znd{t:It}(h:xy σ σ'):xy (t.nextS σ) (t.nextS σ'):=λ i=>zgf (.inr (h i))
theorem zne{t:It}{fr fr':Fr}(h:y8 fr fr'):y8 (t.nextF fr) (t.nextF fr'):=λ i=>by rw [zab,zab]; split <;> simp [h i]
theorem Comm.swapF{a b:It}(h:Comm ops a b)(fr:Fr):y8 (b.nextF (a.nextF fr)) (a.nextF (b.nextF fr)):=λ i=>by
 rw [zab,zab,zab,zab];cases ha:a.wf with
 | none=>rfl
 | some p=>
  cases hb:b.wf with
  | none=>rfl
  | some q=>
   have:=h.ff p q ha hb;by_cases h1:p.1=i
   ·have:q.1 ≠ i:=λ e=>this (h1.trans e.symm);simp [h1,this]
   ·simp [h1]
theorem Comm.swapS{a b:It}(h:Comm ops a b)(σ:St):xy (b.nextS (a.nextS σ)) (a.nextS (b.nextS σ)):=λ i=>by
 by_cases ha:i∈a.ws.map (·.1)
 ·have hb:=(h.sab i ha).2;rw [zbu (t:=b) hb];exact zgf (.inl ha)
 ·rw [zbu (t:=a) ha];by_cases hb:i∈b.ws.map (·.1)
  ·exact (zgf (.inl hb))
  ·rw [zbu (t:=b) hb,zbu (t:=b) hb,zbu (t:=a) ha]
def Rem(cx:Cx)(m nt:Nat)(call:Nat→List V→St→Option (Out×St))(ops:List Oper):List It→Fr→St→Prop
 | [],_,_=>True
 | t::L,fr,σ=>Good cx m nt call ops fr σ t∧Rem cx m nt call ops L (t.nextF fr) (t.nextS σ)
def zpp:List It→Fr→Fr
 | [],fr=>fr
 | t::L,fr=>zpp L (t.nextF fr)
def zh7:List It→St→St
 | [],σ=>σ
 | t::L,σ=>zh7 L (t.nextS σ)
theorem Rem.same:∀ {L:List It} {fr fr':Fr} {σ σ':St},Rem cx m nt call ops L fr σ→y8 fr fr'→xy σ σ'→Rem cx m nt call ops L fr' σ'
 | [],_,_,_,_,_,_,_=>trivial
 | _::_,_,_,_,_,h,hf,hs=>⟨h.1.same (λ s _=>hf s) (λ i _=>hs i),Rem.same h.2 (zne hf) (znd hs)⟩
theorem zhw:∀ {L:List It} {fr fr':Fr},y8 fr fr'→y8 (zpp L fr) (zpp L fr')
 | [],_,_,h=>h
 | t::L,fr,fr',h=>zhw (L:=L) (fr:=t.nextF fr) (fr':=t.nextF fr') (zne h)
theorem zrb:∀ {L:List It} {σ σ':St},xy σ σ'→xy (zh7 L σ) (zh7 L σ')
 | [],_,_,h=>h
 | t::L,σ,σ',h=>zrb (L:=L) (σ:=t.nextS σ) (σ':=t.nextS σ') (znd h)
theorem y8.trans{a b c:Fr}(h:y8 a b)(h':y8 b c):y8 a c:=λ t=>(h' t).trans (h t)
theorem xy.trans{a b c:St}(h:xy a b)(h':xy b c):xy a c:=λ t=>(h' t).trans (h t)
theorem xy.refl(a:St):xy a a:=λ _=>rfl
theorem Rem.pull{b:It}{B:List It}:∀ {A:List It} {fr:Fr} {σ:St},Rem cx m nt call ops (A++b::B) fr σ→(∀ a∈A,Comm ops a b) →
  Good cx m nt call ops fr σ b∧Rem cx m nt call ops (A++B) (b.nextF fr) (b.nextS σ)∧y8 (zpp (A++b::B) fr) (zpp (A++B) (b.nextF fr))∧xy (zh7 (A++b::B) σ) (zh7 (A++B) (b.nextS σ))
 | [],fr,σ,h,_=>⟨h.1,h.2,y8.refl _,xy.refl _⟩
 | a::A,fr,σ,h,hc=>by
  have hab:=hc a pn;obtain ⟨h1,h2⟩:=h;obtain ⟨g1,g2,g3,g4⟩:=Rem.pull h2 λ x hx=>hc x (pp _ hx);have gb:Good cx m nt call ops fr σ b:=g1.same (λ s hs=>(zqh λ p hp e=>hab.ab p hp (e ▸ hs)).symm) (λ i hi=>(zbu λ hm=>(hab.sab i hm).1 hi).symm);have ga:Good cx m nt call ops (b.nextF fr) (b.nextS σ) a:=h1.same (λ s hs=>zqh λ p hp e=>hab.ba p hp (e ▸ hs)) (λ i hi=>zbu λ hm=>(hab.sba i hm).1 hi);exact ⟨gb,⟨ga,g2.same (hab.swapF fr) (hab.swapS σ)⟩,g3.trans (zhw (hab.swapF fr)),g4.trans (zrb (hab.swapS σ))⟩
end
section
variable {R:Type} {cx:Cx}
theorem zm4:∀ (ops:List Oper) (acc:List Nat) (i:Nat),i<acc.length→(vr ops acc).getD i 0=acc.getD i 0
 | [],_,_,_=>rfl
 | o::r,acc,i,h=>by
  simp only [vr];rw [zm4 r _ i (by simp; omega)]
  simp [List.getD_eq_getElem?_getD,List.getElem?_append_left h]
theorem ztr{acc:List Nat}{k:Nat}:∀ (es:List Edge) (s:Nat),
  (es.foldl (λ s e=>bif Region.binds .any e then s ||| 2 ^ e.on ||| acc.getD e.on 0 else s) s).testBit k=true →
  s.testBit k=true∨∃ e∈es,Region.binds .any e=true∧(k=e.on∨(acc.getD e.on 0).testBit k=true)
 | [],s,h=>.inl h
 | e::es,s,h=>by
  simp only [List.foldl_cons] at h;rcases ztr es _ h with h | ⟨e',he',h⟩
  ·cases hb:Region.binds .any e <;> rw [hb] at h
   ·exact .inl h
   ·simp only [cond_true,Nat.testBit_or,Bool.or_eq_true] at h;rcases h with (h | h) | h
    ·exact .inl h
    ·refine .inr ⟨e,pn,hb,.inl ?_⟩;rw [Nat.testBit_two_pow] at h;simpa [eq_comm] using h
    ·exact .inr ⟨e,pn,hb,.inr h⟩
  ·exact .inr ⟨e',pp _ he',h⟩
theorem zks:∀ (ops:List Oper) (acc:List Nat) (i k:Nat),acc.length≤i→yx (vr ops acc) i k=true →
  ∃ o e,ops[i - acc.length]?=some o∧e∈o.after.toList∧Region.binds .any e=true∧(k=e.on∨yx (vr ops acc) e.on k=true)
 | [],acc,i,k,hi,h=>by
  simp only [vr,yx,List.getD_eq_getElem?_getD,List.getElem?_eq_none hi] at h;simp at h
 | o::r,acc,i,k,hi,h=>by
  simp only [vr] at h ⊢;by_cases he:i=acc.length
  ·subst he;have h0:=h;simp only [yx] at h;rw [zm4 r _ _ (by simp)] at h
   simp only [List.getD_eq_getElem?_getD,List.getElem?_concat_length,Option.getD_some] at h;rcases ztr _ _ h with h | ⟨e,he,hb,h⟩
   ·simp at h
   ·refine ⟨o,e,by simp,he,hb,h.imp id λ h=>?_⟩
    by_cases hlt:e.on<acc.length
    ·simp only [yx];rw [zm4 r _ _ (by simp; omega)]
     simpa [List.getD_eq_getElem?_getD,List.getElem?_append_left hlt] using h
    ·simp [List.getD_eq_getElem?_getD,List.getElem?_eq_none (Nat.le_of_not_lt hlt)] at h
  ·obtain ⟨o',e,h1,h2⟩:=zks r (acc++[_]) i k (by simp; omega) h
   refine ⟨o',e,?_,h2⟩;have:i - acc.length=(i - (acc++[o.after.toList.foldl (λ s e=>bif Region.binds .any e then s ||| 2 ^ e.on ||| acc.getD e.on 0 else s) 0]).length)+1:=by simp; omega
   rw [this,List.getElem?_cons_succ];exact h1
def qc(t:It):Prop:=match t.res with | .pan ..=>True | _=>False
def zqo(t:It):Log:=⟨t.i,t.ws.map (·.1)++t.rs,t.ws.map (·.1)⟩
variable {m nt:Nat} {call:Nat→List V→St→Option (Out×St)} {ds:List Deferred} {w₀:World} {σ₀:St} {μ₀:Mu}
def lis(listed:Array Bool)(i:Nat):Prop:=listed.getD i false=true
theorem zfv{listed:Array Bool}{i j:Nat}(hi:i<listed.size):lis (listed.setIfInBounds i true) j↔j=i∨lis listed j:=by
 unfold lis;by_cases h:i=j
 ·subst h; simp [Array.getD_eq_getD_getElem?,hi]
 ·simp [Array.getD_eq_getD_getElem?,Array.getElem?_setIfInBounds_ne h,Ne.symm h]
theorem any_ok(hcall:v8 cx call)(hn:yy cx.P){arr:Array Oper}{K:Ex→Fr→St→Option R}{r:R}
  {Q:Exit→Act→World→Prop} {frE:Fr} {σE:St}
  (hQ:∀ e fr σ,K e fr σ=some r→∀ x a w μ,zgl w σ μ e x→Now cx nt ds w₀ σ₀ μ₀ a w σ μ fr→Q x a w)
  (hedge:∀ (j:Nat) o,arr.toList[j]?=some o→zap j o=true) :
  ∀ (N:Nat) (L:List It) (listed:Array Bool) (fr:Fr) (σ:St) (a:Act) (w:World) (μ:Mu),L.length=N→listed.size=arr.size →
   (∀ t∈L,arr.toList[t.i]?=some t.o)→(∀ i,i<arr.size→(lis listed i↔∀ t∈L,t.i ≠ i)) →
   L.Pairwise (λ a b=>a.i<b.i∧(yx (vr arr.toList []) b.i a.i=true∨Comm arr.toList a b)) →
   (∀ j k,lis listed j→yx (vr arr.toList []) j k=true→lis listed k) →
   (∀ t∈L,t.res=.dep∨zlz nt t.o.dst=true) →
   (∀ t∈L,t.res=.dep→∃ t'∈L,qc t'∧yx (vr arr.toList []) t.i t'.i=true) →
   (∀ t∈L,∀ v δ fp,t.res=.pan v δ fp→K (.pan v) [] σE=some r∧∀ t'∈L,t'.ws=[]∨t'.i=t.i∨yx (vr arr.toList []) t.i t'.i=true) →
   ((∃ t∈L,qc t)∨K .normal frE σE=some r) →
   Rem cx m nt call arr.toList L fr σ→y8 (zpp L fr) frE→xy (zh7 L σ) σE →
   Now cx nt ds w₀ σ₀ μ₀ a w σ μ fr→wpAny cx.P .any arr Q N listed a w:=by
 intro N
 induction N with
 | zero=>
  intro L listed fr σ a w μ hN hsz hops hlis hpair hclosed hdst hdep hpan hend hrem hF hS hnow;obtain rfl:=List.eq_nil_of_length_eq_zero hN;have hK:K .normal frE σE=some r:=hend.resolve_left (by simp)
  refine ⟨?_,?_⟩
  ·simp only [Region.ready,List.filter_eq_nil_iff,List.mem_range];intro i hi;have:lis listed i:=(hlis i hi).2 (by simp)
   have hi':i<listed.size:=by omega
   simp [lis,Array.getD_eq_getD_getElem?,hi'] at this ⊢;simp [this]
  ·have haf:=hS.after hnow.after.inv;exact hQ _ _ _ hK _ _ _ μ trivial ⟨hnow.after.trans haf,(haf.frs hnow.after.inv hnow.fr).same hF,hnow.size,hnow.defers⟩
 | succ N ih=>
  intro L listed fr σ a w μ hN hsz hops hlis hpair hclosed hdst hdep hpan hend hrem hF hS hnow;refine ⟨λ hready=>?_,λ i hi=>?_⟩
  ·-- something is always ready
   exfalso;cases L with
   | nil=>simp at hN
   | cons t L=>
    have ht:=hops t pn;have hlt:t.i<arr.size:=by have:=(pj.1 ht).1; simpa using this
    have hnl : ¬ lis listed t.i:=λ h=>((hlis t.i hlt).1 h) t pn rfl;have:t.i∈Region.ready .any arr listed:=by
     simp only [Region.ready,List.mem_filter,List.mem_range];refine ⟨hlt,?_⟩;have h1:arr[t.i]?=some t.o:=by simpa using ht
     have h2:listed.getD t.i true=false:=by
      have hi':t.i<listed.size:=by omega
      simp [lis,Array.getD_eq_getD_getElem?,hi'] at hnl ⊢;exact hnl
     simp only [h1,h2,Bool.not_false,Bool.true_and,Option.map_some,Option.getD_some];rw [←Array.all_toList,List.all_eq_true];intro e he;have he2:=List.all_eq_true.1 (hedge t.i t.o ht) e he;cases hb:Region.binds .any e
     ·rfl
     ·rw [hb] at he2;have hlt2:e.on<t.i:=by simpa using he2
      have:lis listed e.on:=(hlis e.on (by omega)).2 λ u hu hui=>by
       rcases List.mem_cons.1 hu with rfl | hu
       ·omega
       ·have:=(List.pairwise_cons.1 hpair).1 u hu;omega
      simpa [lis] using this
    rw [hready] at this;cases this
  ·-- one that is ready
   simp only [Region.ready,List.mem_filter,List.mem_range,ph] at hi;obtain ⟨hlt,hnl,haft⟩:=hi;have hnl' : ¬ lis listed i:=by
    have hi':i<listed.size:=by omega
    simp [lis,Array.getD_eq_getD_getElem?,hi'] at hnl ⊢;exact hnl
   obtain ⟨b,hb,hbi⟩:∃ b∈L,b.i=i:=Classical.byContradiction λ hne=>hnl' ((hlis i hlt).2 λ t ht he=>hne ⟨t,ht,he⟩);subst hbi;obtain ⟨A,B,rfl⟩:=List.append_of_mem hb;have hbo:=hops b hb;have hbo':arr[b.i]?=some b.o:=by simpa using hbo
   simp only [hbo',Option.map_some,Option.getD_some] at haft;have hbefore:∀ k,yx (vr arr.toList []) b.i k=true→lis listed k:=by
    intro k hk;obtain ⟨o,e,h1,h2,h3,h4⟩:=zks arr.toList [] b.i k (Nat.zero_le _) hk;rw [List.length_nil,Nat.sub_zero,hbo] at h1;cases h1;rw [←Array.all_toList,List.all_eq_true] at haft;have he:=haft e h2;rw [h3] at he;have hl:lis listed e.on:=by simpa [lis] using he
    rcases h4 with rfl | h4
    ·exact hl
    ·exact hclosed _ _ hl h4
   have hunl:∀ t∈A++b::B,¬ lis listed t.i:=λ t ht h=>by
    have hto:=hops t ht;have hlt:t.i<arr.size:=by have:=(pj.1 hto).1; simpa using this
    exact (hlis t.i hlt).1 h t ht rfl
   have hpair':=hpair;rw [List.pairwise_append] at hpair';obtain ⟨hpA,hpB,hpAB⟩:=hpair';rw [List.pairwise_cons] at hpB;have hcomm:∀ x∈A,Comm arr.toList x b:=λ x hx=>
    ((hpAB x hx b pn).2).resolve_left λ h=>hunl x (List.mem_append_left _ hx) (hbefore _ h)
   obtain ⟨hg,hrem',hF',hS'⟩:=hrem.pull hcomm;have hsub:∀ t∈A++B,t∈A++b::B:=λ t ht=>by
    rcases List.mem_append.1 ht with h | h
    ·exact List.mem_append_left _ h
    ·exact List.mem_append_right _ (pp _ h)
   have hne:∀ t∈A++B,t.i ≠ b.i:=λ t ht=>by
    rcases List.mem_append.1 ht with h | h
    ·have:=(hpAB t h b pn).1; omega
    ·have:=(hpB.1 t h).1; omega
   have hsz':b.i<listed.size:=by omega
   -- the rest,once this one is done
   have rest : ¬ qc b→∀ (a':Act) (w':World) (μ':Mu),Now cx nt ds w₀ σ₀ μ₀ a' w' (b.nextS σ) μ' (b.nextF fr)→wpAny cx.P .any arr Q N (listed.setIfInBounds b.i true) a' w':=by
    intro hnp a' w' μ' hnow';refine ih (A++B) _ _ _ a' w' μ' ?_ (by simpa using hsz) (λ t ht=>hops t (hsub t ht)) ?_ ?_ ?_ (λ t ht=>hdst t (hsub t ht)) ?_ ?_ ?_ hrem' (λ s=>(hF s).trans (hF' s).symm) (λ s=>(hS s).trans (hS' s).symm) hnow'
    ·simp at hN ⊢; omega
    ·intro j hj;rw [zfv hsz',hlis j hj];constructor
     ·rintro (rfl | h) t ht
      ·exact hne t ht
      ·exact h t (hsub t ht)
     ·intro h;by_cases hjb:j=b.i
      ·exact .inl hjb
      ·refine .inr λ t ht=>?_;rcases List.mem_append.1 ht with h' | h'
       ·exact h t (List.mem_append_left _ h')
       ·rcases List.mem_cons.1 h' with rfl | h'
        ·exact λ e=>hjb e.symm
        ·exact h t (List.mem_append_right _ h')
    ·rw [List.pairwise_append];exact ⟨hpA,hpB.2,λ x hx y hy=>hpAB x hx y (pp _ hy)⟩
    ·intro j k hj hk;rw [zfv hsz'] at hj ⊢;rcases hj with rfl | hj
     ·exact .inr (hbefore k hk)
     ·exact .inr (hclosed j k hj hk)
    ·intro t ht htd;obtain ⟨t',ht',hp,hpre⟩:=hdep t (hsub t ht) htd;refine ⟨t',?_,hp,hpre⟩;rcases List.mem_append.1 ht' with h' | h'
     ·exact List.mem_append_left _ h'
     ·rcases List.mem_cons.1 h' with rfl | h'
      ·exact (hnp hp).elim
      ·exact List.mem_append_right _ h'
    ·intro t ht v δ fp htp;obtain ⟨h1,h2⟩:=hpan t (hsub t ht) v δ fp htp;exact ⟨h1,λ t' ht'=>h2 t' (hsub t' ht')⟩
    ·refine hend.imp (λ ⟨t,ht,hp⟩=>⟨t,?_,hp⟩) id;rcases List.mem_append.1 ht with h' | h'
     ·exact List.mem_append_left _ h'
     ·rcases List.mem_cons.1 h' with rfl | h'
      ·exact (hnp hp).elim
      ·exact List.mem_append_right _ h'
   unfold wpOp;simp only [hbo'];have hd:=hdst b hb;cases hres:b.res with
   | dep=>
    obtain ⟨t',ht',_,hpre⟩:=hdep b hb hres;exact (hunl t' ht' (hbefore _ hpre)).elim
   | off=>
    have hd:=hd.resolve_left (by rw [hres]; intro h; cases h)
    simp only [Good,hres] at hg;rw [zcd rfl hnow.fr hg];simp only [Bool.false_eq_true,if_false];have e1:b.nextF fr=zd4 fr b.o.dst vq:=by simp only [It.nextF,It.wf,hres,zd4]; cases b.o.dst <;> rfl
    have e2:b.nextS σ=σ:=by simp only [It.nextS,It.ws,hres]; rfl
    refine rest (by simp [qc,hres]) _ _ μ ?_
    rw [e1,e2];exact ⟨hnow.after,FR.put hnow.fr hd hnow.size zmr,by rw [vj]; exact hnow.size,by rw [we]; exact hnow.defers⟩
   | val v δ fp=>
    have hd:=hd.resolve_left (by rw [hres]; intro h; cases h)
    simp only [Good,hres] at hg;obtain ⟨hw,hev⟩:=hg;rw [zcd rfl hnow.fr hw,if_pos rfl];left;obtain ⟨oc,δ',fp',hK,hok⟩:=zj4 hcall hn hnow.after.inv hnow.fr hev;cases hK;refine hok _ _ ?_;intro v' w' μ' haf hv;have e1:b.nextF fr=zd4 fr b.o.dst v:=by simp only [It.nextF,It.wf,hres,zd4]; cases b.o.dst <;> rfl
    have e2:b.nextS σ=zf σ δ:=by simp only [It.nextS,It.ws,hres]
    refine rest (by simp [qc,hres]) _ _ μ' ?_
    rw [e1,e2];exact ⟨hnow.after.trans haf,FR.put (haf.frs hnow.after.inv hnow.fr) hd hnow.size hv,by rw [vj]; exact hnow.size,by rw [we]; exact hnow.defers⟩
   | pan v δ fp=>
    simp only [Good,hres] at hg;obtain ⟨hw,hev⟩:=hg;rw [zcd rfl hnow.fr hw,if_pos rfl];left;obtain ⟨oc,δ',fp',hK,hok⟩:=zj4 hcall hn hnow.after.inv hnow.fr hev;cases hK;refine hok _ _ ?_;intro x w' μ' haf hv;obtain ⟨hKp,hws⟩:=hpan b hb v δ fp hres;have e2:b.nextS σ=zf σ δ:=by simp only [It.nextS,It.ws,hres]
    have hquiet:∀ (L:List It) (σ:St),(∀ t∈L,t.ws=[])→zh7 L σ=σ:=by
     intro L
     induction L with
     | nil=>intro σ _; rfl
     | cons t L ihL=>
      intro σ h;simp only [zh7];rw [ihL _ λ u hu=>h u (pp _ hu)];simp only [It.nextS,h t pn,zf]
    have hall:∀ t∈A++B,t.ws=[]:=λ t ht=>by
     rcases hws t (hsub t ht) with h | h | h
     ·exact h
     ·exact (hne t ht h).elim
     ·exact (hunl t (hsub t ht) (hbefore _ h)).elim
    have hsame:xy (zf σ δ) σE:=by
     intro s;rw [hS s,←hS' s,hquiet _ _ hall,e2]
    have haf2:=hsame.after haf.inv;exact hQ _ _ _ hKp _ _ _ μ' ⟨x,rfl,haf2.rv haf.inv hv⟩ ⟨(hnow.after.trans haf).trans haf2,FR.nil,hnow.size,hnow.defers⟩
end
section
variable {R:Type} {cx:Cx} {m nt:Nat} {call:Nat→List V→St→Option (Out×St)} {ops:List Oper}
def ycy(K:Ex→Fr→St→Option R)(r:R)(pre:List Nat)(log:List Log)(L:List It)(fr:Fr)(σ:St):Option (Nat×V)→Prop
 | some (k,v)=>(∀ t∈L,¬ qc t)∧(∀ t∈L,t.res=.dep→yx pre t.i k=true)∧K (.pan v) [] (zh7 L σ)=some r ∧
   (∀ e∈log,e.w=[]∨e.i=k∨yx pre k e.i=true)∧∀ t∈L,t.ws=[]∨t.i=k∨yx pre k t.i=true
 | none=>((∀ t∈L,¬ qc t)∧(∀ t∈L,t.res ≠ .dep)∧∃ frE,y8 (zpp L fr) frE∧K .normal frE (zh7 L σ)=some r) ∨
   ∃ t₀∈L,∃ v δ fp,t₀.res=.pan v δ fp∧(∀ t∈L,qc t→t=t₀)∧(∀ t∈L,t.res=.dep→yx pre t.i t₀.i=true)∧K (.pan v) [] (zh7 L σ)=some r ∧
    (∀ e∈log,e.w=[]∨e.i=t₀.i∨yx pre t₀.i e.i=true)∧∀ t∈L,t.ws=[]∨t.i=t₀.i∨yx pre t₀.i t.i=true
theorem zqm{pre:List Nat}{e:Log}{i:Nat}:zen pre e ⟨i,[],[]⟩=true:=by simp [zen,z3e]
theorem zni{pre:List Nat}{e:Log}{i:Nat}:zen pre ⟨i,[],[]⟩ e=true:=by simp [zen,z3e]
theorem zds{α:Type}{l:List α}(h:l.isEmpty=true):l=[]:=by simpa using h
theorem zj6{K0:Nat}{pre:List Nat}{K:Ex→Fr→St→Option R}{r:R} :
  ∀ (l:List Oper) (i:Nat) (log:List Log) (dead:Option (Nat×V)) (fr:Fr) (σ:St),(ops.take K0).drop i=l→(∀ k v,dead=some (k,v)→k<i) →
   wv cx m nt call ops pre i l log dead fr σ K=some r →
   ∃ L:List It,(∀ t∈L,(i≤t.i∧t.i<(ops.take K0).length)∧ops[t.i]?=some t.o)∧(∀ j,i≤j→j<(ops.take K0).length→∃ t∈L,t.i=j)∧L.Pairwise (λ a b=>a.i<b.i∧zen pre (zqo a) (zqo b)=true) ∧
    (∀ e∈log,∀ t∈L,zen pre e (zqo t)=true)∧(∀ t∈L,t.res=.dep∨zlz nt t.o.dst=true)∧Rem cx m nt call ops L fr σ∧ycy K r pre log L fr σ dead∧L.length+i=max i (ops.take K0).length:=by
 intro l
 induction l with
 | nil=>
  intro i log dead fr σ hl hk h;have hlen:(ops.take K0).length≤i:=by have:=congrArg List.length hl; rw [List.length_drop] at this; simp only [List.length_nil,List.length_cons] at this; omega
  refine ⟨[],by simp,λ j h1 h2=>by omega,.nil,by simp,by simp,trivial,?_,by rw [List.length_nil]; omega⟩
  cases dead with
  | none=>exact .inl ⟨by simp,by simp,fr,y8.refl fr,h⟩
  | some p=>
   obtain ⟨k,v⟩:=p;simp only [wv] at h;obtain ⟨hc,h⟩:=zc h;refine ⟨by simp,by simp,h,λ e he=>?_,by simp⟩
   have:=List.all_eq_true.1 hc e he;simp only [Bool.or_eq_true] at this;rcases this with (h | h) | h
   ·exact .inl (zds h)
   ·exact .inr (.inl (pg h))
   ·exact .inr (.inr h)
 | cons o l ih=>
  intro i log dead fr σ hl hk h;have hlt:i<(ops.take K0).length:=by have:=congrArg List.length hl; rw [List.length_drop] at this; simp only [List.length_nil,List.length_cons] at this; omega
  have ho:ops[i]?=some o:=by
   have:=congrArg (·[0]?) hl;have h2:(ops.take K0)[i]?=some o:=by simpa using this
   rw [List.getElem?_take_of_lt (by rw [List.length_take] at hlt; omega)] at h2
   exact h2
  have hrest:(ops.take K0).drop (i+1)=l:=by rw [←List.drop_drop,hl]; rfl
  have hcover:∀ {L:List It} {t:It},t.i=i→(∀ j,i+1≤j→j<(ops.take K0).length→∃ t∈L,t.i=j)→∀ j,i≤j→j<(ops.take K0).length→∃ u∈t::L,u.i=j:=by
   intro L t ht h j h1 h2;by_cases hj:j=i
   ·exact ⟨t,pn,ht.trans hj.symm⟩
   ·obtain ⟨u,hu,huj⟩:=h j (by omega) h2
    exact ⟨u,pp _ hu,huj⟩
  simp only [wv] at h;cases hdep:zkb pre i dead
  ·rw [hdep,cond_false] at h;obtain ⟨hd,h⟩:=zc h;obtain ⟨fr',hs,h⟩:=zlv h;rcases h with ⟨hw,h⟩ | ⟨hw,h⟩
   ·-- it runs
    obtain ⟨p,hp,h⟩:=zb h;obtain ⟨hmeet,h⟩:=zc h;obtain ⟨oc,δ,fp⟩:=p;have hfr:zam cx m nt call o fr σ=some (oc,δ,fp):=by
     rw [←hp];unfold zam;exact (zyf λ x _=>ztv λ t _=>hs t).symm
    cases oc with
    | val v=>
     simp only at h hmeet;obtain ⟨L,h1,h2,h3,h4,h5,h6,h7,h8⟩:=ih (i+1) _ dead _ _ hrest (λ k v hd=>Nat.lt_succ_of_lt (hk k v hd)) h
     let t:It:=⟨i,o,.val v δ fp⟩
     have hlog:zqo t=⟨i,δ.map (·.1)++fp,δ.map (·.1)⟩:=rfl;have hsF:y8 (t.nextF fr) (zd4 fr' o.dst v):=λ s=>by
      rw [zk4,zab,show t.wf=o.dst.map λ d=>(d,v) from rfl];cases o.dst with
      | none=>simp [hs s]
      | some d=>simp [hs s]
     refine ⟨t::L,?_,hcover rfl h2,?_,?_,?_,⟨⟨hw,hfr⟩,h6.same (λ s=>(hsF s).symm) (λ _=>rfl)⟩,?_,by rw [List.length_cons]; omega⟩
     ·intro u hu;rcases List.mem_cons.1 hu with rfl | hu
      ·exact ⟨⟨Nat.le_refl _,hlt⟩,ho⟩
      ·exact ⟨by have:=(h1 u hu).1; omega,(h1 u hu).2⟩
     ·refine List.pairwise_cons.2 ⟨λ u hu=>⟨by have:=(h1 u hu).1; show i<u.i; omega,?_⟩,h3⟩
      exact h4 _ pn u hu
     ·intro e he u hu;rcases List.mem_cons.1 hu with rfl | hu
      ·exact List.all_eq_true.1 hmeet e he
      ·exact h4 e (pp _ he) u hu
     ·intro u hu;rcases List.mem_cons.1 hu with rfl | hu
      ·exact .inr hd
      ·exact h5 u hu
     ·have hws:t.ws=[]↔δ.map (·.1)=[]:=by show δ=[]↔_; simp
      cases dead with
      | some q=>
       obtain ⟨k,u⟩:=q;obtain ⟨g1,g2,g3,g4,g5⟩:=h7;refine ⟨λ x hx=>?_,λ x hx hd=>?_,g3,λ e he=>g4 e (pp _ he),λ x hx=>?_⟩
       ·rcases List.mem_cons.1 hx with rfl | hx
        ·exact λ h=>h
        ·exact g1 x hx
       ·rcases List.mem_cons.1 hx with rfl | hx
        ·cases hd
        ·exact g2 x hx hd
       ·rcases List.mem_cons.1 hx with rfl | hx
        ·have:=g4 _ pn;rw [hws]; exact this
        ·exact g5 x hx
      | none=>
       rcases h7 with ⟨g1,g2,frE,g3,g4⟩ | ⟨t₀,g1,v₀,δ₀,fp₀,g2,g3,g4,g5,g6,g7⟩
       ·refine .inl ⟨λ x hx=>?_,λ x hx=>?_,frE,(zhw hsF).trans g3,g4⟩
        ·rcases List.mem_cons.1 hx with rfl | hx
         ·exact λ h=>h
         ·exact g1 x hx
        ·rcases List.mem_cons.1 hx with rfl | hx
         ·intro h; cases h
         ·exact g2 x hx
       ·refine .inr ⟨t₀,pp _ g1,v₀,δ₀,fp₀,g2,λ x hx hp=>?_,λ x hx hd=>?_,g5,λ e he=>g6 e (pp _ he),λ x hx=>?_⟩
        ·rcases List.mem_cons.1 hx with rfl | hx
         ·exact hp.elim
         ·exact g3 x hx hp
        ·rcases List.mem_cons.1 hx with rfl | hx
         ·cases hd
         ·exact g4 x hx hd
        ·rcases List.mem_cons.1 hx with rfl | hx
         ·have:=g6 _ pn;rw [hws]; exact this
         ·exact g7 x hx
    | pan v=>
     cases dead with
     | some q=>cases h
     | none=>
      simp only at h hmeet;obtain ⟨L,h1,h2,h3,h4,h5,h6,h7,h8⟩:=ih (i+1) _ (some (i,v)) _ _ hrest (λ k v hd=>by cases hd; omega) h
      let t:It:=⟨i,o,.pan v δ fp⟩
      obtain ⟨g1,g2,g3,g4,g5⟩:=h7;refine ⟨t::L,?_,hcover rfl h2,?_,?_,?_,⟨⟨hw,hfr⟩,h6.same (λ s=>(hs s).symm) (λ _=>rfl)⟩,?_,by rw [List.length_cons]; omega⟩
      ·intro u hu;rcases List.mem_cons.1 hu with rfl | hu
       ·exact ⟨⟨Nat.le_refl _,hlt⟩,ho⟩
       ·exact ⟨by have:=(h1 u hu).1; omega,(h1 u hu).2⟩
      ·refine List.pairwise_cons.2 ⟨λ u hu=>⟨by have:=(h1 u hu).1; show i<u.i; omega,?_⟩,h3⟩
       exact h4 _ pn u hu
      ·intro e he u hu;rcases List.mem_cons.1 hu with rfl | hu
       ·exact List.all_eq_true.1 hmeet e he
       ·exact h4 e (pp _ he) u hu
      ·intro u hu;rcases List.mem_cons.1 hu with rfl | hu
       ·exact .inr hd
       ·exact h5 u hu
      ·refine .inr ⟨t,pn,v,δ,fp,rfl,λ x hx hp=>?_,λ x hx hd=>?_,g3,λ e he=>g4 e (pp _ he),λ x hx=>?_⟩
       ·rcases List.mem_cons.1 hx with rfl | hx
        ·rfl
        ·exact (g1 x hx hp).elim
       ·rcases List.mem_cons.1 hx with rfl | hx
        ·cases hd
        ·exact g2 x hx hd
       ·rcases List.mem_cons.1 hx with rfl | hx
        ·exact .inr (.inl rfl)
        ·exact g5 x hx
   ·-- it is not wanted
    obtain ⟨L,h1,h2,h3,h4,h5,h6,h7,h8⟩:=ih (i+1) _ dead _ _ hrest (λ k v hd=>Nat.lt_succ_of_lt (hk k v hd)) h
    let t:It:=⟨i,o,.off⟩
    have hsF:y8 (t.nextF fr) (zd4 fr' o.dst vq):=λ s=>by
     rw [zk4,zab,show t.wf=o.dst.map λ d=>(d,vq) from rfl];cases o.dst with
     | none=>simp [hs s]
     | some d=>simp [hs s]
    refine ⟨t::L,?_,hcover rfl h2,?_,?_,?_,⟨hw,h6.same (λ s=>(hsF s).symm) (λ _=>rfl)⟩,?_,by rw [List.length_cons]; omega⟩
    ·intro u hu;rcases List.mem_cons.1 hu with rfl | hu
     ·exact ⟨⟨Nat.le_refl _,hlt⟩,ho⟩
     ·exact ⟨by have:=(h1 u hu).1; omega,(h1 u hu).2⟩
    ·exact List.pairwise_cons.2 ⟨λ u hu=>⟨by have:=(h1 u hu).1; show i<u.i; omega,zni⟩,h3⟩
    ·intro e he u hu;rcases List.mem_cons.1 hu with rfl | hu
     ·exact zqm
     ·exact h4 e he u hu
    ·intro u hu;rcases List.mem_cons.1 hu with rfl | hu
     ·exact .inr hd
     ·exact h5 u hu
    ·cases dead with
     | some q=>
      obtain ⟨k,u⟩:=q;obtain ⟨g1,g2,g3,g4,g5⟩:=h7;refine ⟨λ x hx=>?_,λ x hx hd=>?_,g3,g4,λ x hx=>?_⟩
      ·rcases List.mem_cons.1 hx with rfl | hx
       ·exact λ h=>h
       ·exact g1 x hx
      ·rcases List.mem_cons.1 hx with rfl | hx
       ·cases hd
       ·exact g2 x hx hd
      ·rcases List.mem_cons.1 hx with rfl | hx
       ·exact .inl rfl
       ·exact g5 x hx
     | none=>
      rcases h7 with ⟨g1,g2,frE,g3,g4⟩ | ⟨t₀,g1,v₀,δ₀,fp₀,g2,g3,g4,g5,g6,g7⟩
      ·refine .inl ⟨λ x hx=>?_,λ x hx=>?_,frE,(zhw hsF).trans g3,g4⟩
       ·rcases List.mem_cons.1 hx with rfl | hx
        ·exact λ h=>h
        ·exact g1 x hx
       ·rcases List.mem_cons.1 hx with rfl | hx
        ·intro h; cases h
        ·exact g2 x hx
      ·refine .inr ⟨t₀,pp _ g1,v₀,δ₀,fp₀,g2,λ x hx hp=>?_,λ x hx hd=>?_,g5,g6,λ x hx=>?_⟩
       ·rcases List.mem_cons.1 hx with rfl | hx
        ·exact hp.elim
        ·exact g3 x hx hp
       ·rcases List.mem_cons.1 hx with rfl | hx
        ·cases hd
        ·exact g4 x hx hd
       ·rcases List.mem_cons.1 hx with rfl | hx
        ·exact .inl rfl
        ·exact g7 x hx
  ·-- it waits for the one that panicked
   rw [hdep,cond_true] at h;obtain ⟨L,h1,h2,h3,h4,h5,h6,h7,h8⟩:=ih (i+1) _ dead _ _ hrest (λ k v hd=>Nat.lt_succ_of_lt (hk k v hd)) h
   let t:It:=⟨i,o,.dep⟩
   refine ⟨t::L,?_,hcover rfl h2,?_,?_,?_,⟨trivial,h6⟩,?_,by rw [List.length_cons]; omega⟩
   ·intro u hu;rcases List.mem_cons.1 hu with rfl | hu
    ·exact ⟨⟨Nat.le_refl _,hlt⟩,ho⟩
    ·exact ⟨by have:=(h1 u hu).1; omega,(h1 u hu).2⟩
   ·exact List.pairwise_cons.2 ⟨λ u hu=>⟨by have:=(h1 u hu).1; show i<u.i; omega,zni⟩,h3⟩
   ·intro e he u hu;rcases List.mem_cons.1 hu with rfl | hu
    ·exact zqm
    ·exact h4 e he u hu
   ·intro u hu;rcases List.mem_cons.1 hu with rfl | hu
    ·exact .inl rfl
    ·exact h5 u hu
   ·cases dead with
    | some q=>
     obtain ⟨k,u⟩:=q;obtain ⟨g1,g2,g3,g4,g5⟩:=h7;refine ⟨λ x hx=>?_,λ x hx hd=>?_,g3,g4,λ x hx=>?_⟩
     ·rcases List.mem_cons.1 hx with rfl | hx
      ·exact λ h=>h
      ·exact g1 x hx
     ·rcases List.mem_cons.1 hx with rfl | hx
      ·exact hdep
      ·exact g2 x hx hd
     ·rcases List.mem_cons.1 hx with rfl | hx
      ·exact .inl rfl
      ·exact g5 x hx
    | none=>cases hdep
end
end Go.Vai
end

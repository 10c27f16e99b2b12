/-
  Each operation of the interpreter is the machine's: all of them. To: Regions whose order is open: the interpreter's one order stands for all.
-/
import Derived.Test.YtmolcgfhgdhgoaaGreatDoorVaiPart3
import Derived.Lib.Builder
import Derived.Orders
import Derived.LoopN
import Derived.Scope
set_option linter.all false
noncomputable section
namespace Go.Vai
section
variable {R:Type} {cx:Cx} {w:World} {σ:St} {μ:Mu}
theorem vv{s:Sem Value}{P:Program}{w w':World}{v:Value}(h:s.run P w=.ok v w'):(do pure (Next.value (←s)):Sem Next).run P w=.ok (.value v) w':=by
 rw [Sem.run_bind,h]; rfl
theorem zy4{s:Sem Unit}{P:Program}{w w':World}(h:s.run P w=.ok () w'):(do s; pure Next.skip:Sem Next).run P w=.ok .skip w':=by
 rw [Sem.run_bind,h]; rfl
theorem zg6{x:V}{K:Nat→List D→Option R}{r:R}(h:dataOf x K=some r):∃ sz l,dataOf x (λ a b=>some (a,b))=some (sz,l)∧K sz l=some r:=by
 unfold dataOf at h ⊢
 split at h <;> first
  | exact ⟨_,_,rfl,h⟩
  | cases h
theorem v7{id:Nat}{o:Ob}(h:yi σ [(id,o)]=true):zi σ id=none:=by
 unfold yi at h;cases hg:zi σ id with
 | none=>rfl
 | some q=>rw [hg] at h; simp at h
def xe(P : Program) : Prop := ∀ (f : Nat) (fn : Func), P.funcs[f]? = some fn → fn.name ≠ "runtime.NumGoroutine"
theorem zgm(hn:xe cx.P){f:Nat}{fn:Func}{args:Array Value}(hf:cx.P.funcs[f]?=some fn)(hb:fn.body.isNone=false) :
  (callFunc f args).run cx.P w=.ok (.enter f args) w:=by
 have h1 : (fn.name == "runtime.NumGoroutine") = false := by simpa using hn f fn hf
 unfold callFunc;rw [Sem.run_bind,run_program,Result.andThen_ok];simp only [hf,h1,hb,Bool.false_eq_true,if_false];rfl
theorem zr6{v:V}{v':Value}(h:RV w σ μ v' v):RV w σ μ v' v.handed:=by
 cases h with
 | sl v sz l id n h ht hn he=>exact .d _ _ h
 | d v x h=>exact .d _ _ h
 | ptr id off b hi hb=>exact .ptr id off b hi hb
 | eptr x b o off xs hc h=>exact .eptr x b o off xs hc h
 | gptr g off=>exact .gptr g off
 | agg cs l hl ho h=>exact .agg cs l hl ho h
 | slo id sz k cap base l hi hk hcap hn he=>exact .slo id sz k cap base l hi hk hcap hn he
 | wptr id sz k i off a l hi hk he=>exact .wptr id sz k i off a l hi hk he
 | mfunc f cs l h=>exact .mfunc f cs l h
 | func f cs l hl h=>exact .func f cs l hl h
 | map id b ks vs hi hb=>exact .map id b ks vs hi hb
 | iface t v u h=>exact .iface t v u h
 | tup cs l hl h=>exact .tup cs l hl h
theorem zjr{v:V}{v':Value}(h:RV w σ μ v' v):RV w σ μ v' v.handed2:=by
 cases v with
 | agg l=>
  cases hd:zhq (.agg l) with
  | some d=>
   have e:V.handed2 (.agg l)=.d d:=by simp [V.handed2,hd]
   rw [e];exact .d _ _ (zf7 h hd)
  | none=>
   have e:V.handed2 (.agg l)=.agg l:=by simp [V.handed2,hd]
   rw [e];exact h
 | _=>exact zr6 h
theorem z47{b:Bool}{v:V}{v':Value}(h:RV w σ μ v' v):RV w σ μ v' (z74 b v):=by
 cases b
 ·exact h
 ·exact zjr h
theorem zh7{keep:Bool}{vs:List Value}{l:List V}(h:RVs w σ μ vs l):RVs w σ μ vs (zbn keep l):=by
 unfold zbn;cases keep
 ·refine ⟨by simp [h.1],λ i x y hx hy=>?_⟩
  simp only [cond_false,List.getElem?_map,Option.map_eq_some_iff] at hy;obtain ⟨z,hz,rfl⟩:=hy;exact zjr (h.2 i x z hx hz)
 ·exact h
theorem RVs.append'{vs ws:List Value}{l k:List V}(h:RVs w σ μ vs l)(h':RVs w σ μ ws k):RVs w σ μ (vs++ws) (l++k):=by
 refine ⟨by simp [h.1,h'.1],λ i x y hx hy=>?_⟩
 by_cases hi:i<vs.length
 ·rw [List.getElem?_append_left hi] at hx;rw [List.getElem?_append_left (by rw [←h.1]; exact hi)] at hy
  exact h.2 i x y hx hy
 ·rw [List.getElem?_append_right (by omega)] at hx
  rw [List.getElem?_append_right (by rw [←h.1]; omega)] at hy
  rw [←h.1] at hy;exact h'.2 _ x y hx hy
theorem zuf:∀ {l:List V} {ds:List D},zej l=some ds→l=ds.map .d
 | [],ds,h=>by cases h; rfl
 | x::l,ds,h=>by
  cases x <;> first | (simp [zej] at h; done) | skip
  simp only [zej] at h;split at h
  ·rename_i l' hl; cases h; rw [zuf hl]; rfl
  ·cases h
theorem zof{a:Act}{fr:Fr}(hf:FR w σ μ a.tmps fr){x:Option Operand}{K:Option V→Option R}{r:R}
  (h:zgp fr x K=some r):∃ v,K v=some r∧zrk w σ μ v (x.map a.eval):=by
 cases x with
 | none=>exact ⟨none,h,trivial⟩
 | some x=>obtain ⟨v,hv,h⟩:=zd h; exact ⟨some v,h,x5 hf hv⟩
theorem zqa{a:Act}{fr:Fr}(hi:Inv cx w σ μ)(hf:FR w σ μ a.tmps fr){id:Nat}(haf:After cx w σ μ w (zf σ [(id,.tok 0)]) (setMu μ id ⟨none,0,0,0⟩))(hg:zi σ id=none) :
  ∀ (xs:List Operand) (ts:List Nat) (l:List V),zbv cx.P fr id xs ts=some l→RVs w (zf σ [(id,.tok 0)]) (setMu μ id ⟨none,0,0,0⟩) (xs.map a.eval) l
 | [],ts,l,h=>by simp only [zbv] at h; cases h; exact ⟨rfl,by simp⟩
 | x::xs,ts,l,h=>by
  simp only [zbv] at h;split at h
  ·cases h
  ·rename_i l' hl;have ih:=zqa hi hf haf hg xs _ l' hl;have one:∀ {v:V},RV w (zf σ [(id,.tok 0)]) (setMu μ id ⟨none,0,0,0⟩) (a.eval x) v→RVs w (zf σ [(id,.tok 0)]) (setMu μ id ⟨none,0,0,0⟩) ((x::xs).map a.eval) (v::l'):=by
    intro v hv;refine ⟨by simp [ih.1],λ i p q hp hq=>?_⟩
    cases i with
    | zero=>simp at hp hq; subst hp; subst hq; exact hv
    | succ i=>exact ih.2 i p q (by simpa using hp) (by simpa using hq)
   split at h
   ·split at h
    ·cases h;exact one (zi2 (w:=w) (μ:=μ) (base:=none) hg (cap:=0) rfl (.inr rfl)).2
    ·cases h
   ·split at h
    ·rename_i v hv;cases h;exact one (haf.rv hi (x5 hf hv))
    ·cases h
theorem zs5{P:Program}{t xt:Nat}{ok:Bool}{v:Value}{w:World}(ht:za3 P t=true)(hif:isIface P t=false) :
  (Instr.typeAssert (.iface t v) xt t ok).run P w=.ok (if ok then .tuple #[v,.bool true] else v) w:=by
 unfold za3 at ht;unfold isIface at hif;cases hu:P.underlying t with
 | none=>rw [hu] at ht; cases ht
 | some u=>
  rw [hu] at hif;unfold Instr.typeAssert;cases u <;> first | (cases hif; done) | simp [run_underlying hu]
theorem z23{P:Program}{g:Nat}(h:zh5 P g=true)(x:Value){w:World}:(callFunc g #[x]).run P w=.ok (.value x) w:=by
 unfold zh5 at h;split at h
 ·rename_i fn hfn;simp only [ph,beq_iff_eq] at h;obtain ⟨⟨h1,h2⟩,h3⟩:=h;have e1:Extern.findNext fn=none:=by
   unfold Extern.findNext;rw [h2,h3];kernel_rfl
  have e2:Extern.find fn=some Extern.AbiNoEscape.same:=by
   unfold Extern.find;rw [h2,h3];kernel_rfl
  rw [run_callFunc_extern hfn (by rw [h2]; decide) h1 e1 e2]
  rfl
 ·cases h
theorem z41{R:Type}{s t:Nat}{x:V}{x':Value}{K:V→List Nat→Option R}{r:R}(hi:Inv cx w σ μ)(hx:RV w σ μ x' x)(h:zpq cx σ s t x K=some r) :
  ∃ v fp,K v fp=some r∧∃ v',(convert s t x').run cx.P w=.ok v' w∧RV w σ μ v' v:=by
 unfold zpq at h;split at h
 ·rename_i id off;split at h
  ·rename_i n u ho;obtain ⟨hc,h⟩:=ze h;have hx0:=hx;cases hx with | ptr _ _ b hcell hb=>?_
   obtain ⟨b',cs,el,hb',hh,hn,htup,h1,hr,htag⟩:=hi.ob id _ ho;obtain rfl:b=b':=by rw [hb] at hb'; exact Option.some.inj hb'
   have hsh:w.shape? b=some (el,cs.size):=by simp [World.shape?,hh]
   refine ⟨_,_,h,_,?_,hx0⟩;unfold z7j at hc;split at hc
   ·rename_i e hs ht;rw [ph] at hc;obtain ⟨c1,c2⟩:=hc;split at c1
    ·rename_i j hj;have c3:off<cs.size:=by
      have:off<szN n:=by simpa using c2
      omega
     exact Go.Lib.run_to_unsafe w ⟨b,off,none⟩ hs ht hj (λ e0=>by rw [e0] at c1; cases c1) hsh c3
    ·cases c1
   ·rename_i e hs ht;simp only [ph,Bool.not_eq_true'] at hc;obtain ⟨⟨c1,c2⟩,c3⟩:=hc;obtain ⟨j,hj⟩:=Option.isSome_iff_exists.1 c1;have hel:el=n / 1048576 - 1:=by
     rcases htag with h | h
     ·have:Nat.blt n 1048576=true:=by simpa using h
      rw [this] at c2; cases c2
     ·show el=n / 1048576 - 1;rw [h]; rfl
    refine Go.Lib.run_from_unsafe w ⟨b,off,none⟩ hs ht hj hsh ?_;rw [hel,hn];exact c3
   ·cases hc
  ·cases h
 ·cases h
theorem zk4{m nt:Nat}{call:Nat→List V→St→Option (Out×St)}(hcall:zai cx call)(hn:xe cx.P)(hi:Inv cx w σ μ){a:Act}{fr:Fr}(hf:FR w σ μ a.tmps fr){o:Oper}
  {K:Oc→De→List Nat→Option R} {r:R} (h:wa cx m nt call o fr σ K=some r):∃ oc δ fp,K oc δ fp=some r∧zcs cx w σ μ a o oc δ:=by
 obtain ⟨dst,op,type,pos,after,guard⟩:=o
 have hval:∀ {v:V} {v':Value} {fp},K (.val v) [] fp=some r→True→RV w σ μ v' v→((execOp a.eval ⟨dst,op,type,pos,after,guard⟩).run cx.P w=.ok (.value v') w) →
   ∃ oc δ fp,K oc δ fp=some r∧zcs cx w σ μ a ⟨dst,op,type,pos,after,guard⟩ oc δ:=λ hK _ hv hr=>⟨_,_,_,hK,zcs.value hi _ hr hv⟩
 have hmove:∀ {x:Operand},(execOp a.eval ⟨dst,op,type,pos,after,guard⟩=pure (.value (a.eval x))) →
   (match x with
   | .const (.slice none 0 0)=>
    (match cx.P.underlying type with
    | some (.slice e)=>(match zi σ (m+dst.getD 0) with
     | none=>bif cx.own nt (dst.getD 0) then K (.val (.slo (m+dst.getD 0) (cx.P.cellsOf e) 0)) [(m+dst.getD 0,.row [])] [m+dst.getD 0] else K (.val (.sl (cx.P.cellsOf e) [] (m+dst.getD 0))) [(m+dst.getD 0,.tok 0)] [m+dst.getD 0]
     | some _=>K (.val (.d (.sl (cx.P.cellsOf e) []))) [] [m+dst.getD 0])
    | _=>none)
   | x=>zc (opd fr x) λ v=>bif cx.thaw nt (dst.getD 0) then zi7 σ v λ v δ fp=>K (.val v) δ fp else K (.val v) [] [])=some r→∃ oc δ fp,K oc δ fp=some r∧zcs cx w σ μ a ⟨dst,op,type,pos,after,guard⟩ oc δ:=by
  intro x he h;split at h
  ·split at h
   ·split at h
    ·rename_i hg;cases hown:cx.own nt (dst.getD 0) <;> rw [hown] at h
     ·obtain ⟨h1,h2⟩:=zi2 (w:=w) (μ:=μ) (sz:=cx.P.cellsOf _) (base:=none) hg rfl (.inr rfl);exact ⟨_,_,_,h,zcs.of_upd hi _ (by rw [he]; rfl) (zi3 hg) h1 h2⟩
     ·obtain ⟨h1,h2⟩:=z0o (w:=w) (μ:=μ) (sz:=cx.P.cellsOf _) hg;exact ⟨_,_,_,h,zcs.of_upd hi _ (by rw [he]; rfl) (zi3 hg) h1 h2⟩
    ·exact hval h trivial (.d _ _ (.sl0 none 0 _)) (by rw [he]; rfl)
   ·cases h
  ·obtain ⟨v,hv,h⟩:=zd h;cases hth:cx.thaw nt (dst.getD 0) <;> rw [hth] at h
   ·exact hval h trivial (x5 hf hv) (by rw [he]; rfl)
   ·rw [cond_true] at h;obtain ⟨u,δ,fp,hK,μ',ids,h1,h2,h3⟩:=z2o hi (x5 hf hv) h;exact ⟨_,_,_,hK,zcs.of_upd hi _ (by rw [he]; rfl) h1 h2 h3⟩
 cases op
 case makeFunc fn first caps=>
  cases fn <;> simp only [wa] at h <;> first | (cases h; done) | skip
  cases hfe:first.isEmpty <;> rw [hfe] at h
  ·rw [cond_false] at h;obtain ⟨hc,q1⟩:=ze h;obtain ⟨l,hl,q2⟩:=zd q1;obtain ⟨ds,hds,hKK⟩:=zd q2;have hce:caps = #[]:=by simpa using hc
   subst hce;have h1:=zc9 hf _ _ _ hl;have h2:RVs w σ μ (first.toList.map a.eval) (l.map V.handed2):=⟨by simpa using h1.1,λ i x y hx hy=>by
    rw [List.getElem?_map,Option.map_eq_some_iff] at hy;obtain ⟨z,hz,rfl⟩:=hy;exact zjr (h1.2 i x z hx hz)⟩
   rw [zuf hds] at h2;exact hval hKK trivial (.mfunc _ (first.map a.eval) ds (by simpa using h2.rd)) (vv (by simp [Instr.makeFunc]))
  ·rw [cond_true] at h;obtain ⟨l,hl,h⟩:=zd h;have hfe:first = #[]:=by simpa using hfe
   subst hfe;obtain ⟨h1,h2⟩:=zc9 hf _ _ _ hl;exact hval h trivial (.func _ (caps.map a.eval) l (by rw [←h1]; simp) λ i x y hx hy=>h2 i x y (by simpa using hx) hy) (vv (by simp [Instr.makeFunc]))
 case makeMap t rr=>
  cases rr <;> simp only [wa] at h <;> first | (cases h; done) | skip
  obtain ⟨hc,h⟩:=ze h;obtain ⟨w',h1,h2,h3,h4⟩:=zxc (cx:=cx) (w:=w) (μ:=μ) (t:=t) (v7 hc);exact ⟨_,_,_,h,zcs.of_upd hi _ (vv h1) h2 h3 h4⟩
 all_goals simp only [wa] at h
 all_goals first | (cases h; done) | skip
 case move x=>exact hmove rfl h
 case assign x=>exact hmove rfl h
 case pick c x y=>
  obtain ⟨c',hc,h⟩:=zd h;obtain ⟨b,rfl,h⟩:=zlf h;have hcb:a.eval c=.bool b:=by
   have hr:=x5 hf hc;generalize a.eval c=q at hr;cases hr with | d _ _ hd=>cases hd; rfl
  cases b
  ·obtain ⟨v,hv,h⟩:=zd h;exact hval h trivial (x5 hf hv) (by simp [execOp,hcb,Go.asBool])
  ·obtain ⟨v,hv,h⟩:=zd h;exact hval h trivial (x5 hf hv) (by simp [execOp,hcb,Go.asBool])
 case alloc e=>
  obtain ⟨z,hz,h⟩:=zd h;obtain ⟨hc,h⟩:=ze h;rw [ph,ph] at hc;obtain ⟨t1,t2⟩:=zs2 (cx:=cx) (nt:=nt) (dst:=dst) hc.2;obtain ⟨w',μ',h1,h2,h3,h4⟩:=z5c (w:=w) (μ:=μ) t1 t2 hz _ rfl hc.1.1 (by
   have:=hc.1.2;cases ha:x6 cx.P e
   ·right; simpa [ha] using this
   ·exact .inl rfl)
  exact ⟨_,_,_,h,zcs.of_upd hi _ (vv h1) h2 h3 h4⟩
 case box e x=>
  obtain ⟨v,hv,h⟩:=zd h;obtain ⟨hc,h⟩:=ze h;simp only [ph,Bool.not_eq_true'] at hc;obtain ⟨w',h1,h2,h3,h4⟩:=yad (e:=e) hi (wy hf hv) hc.1.1.1 ((pg hc.1.1.2).trans (zs2 (cx:=cx) (nt:=nt) (dst:=dst) hc.2).1.symm) (zs2 hc.2).2 (v7 hc.1.2);exact ⟨_,_,_,h,zcs.of_upd hi _ (vv h1) h2 h3 h4⟩
 case build t ps=>
  cases hty:cx.typed nt (dst.getD 0)
  ·rw [hty,cond_false] at h;obtain ⟨z,hz,h⟩:=zd h;obtain ⟨l,hl,h⟩:=zd h;obtain ⟨cs,hcs,h⟩:=zd h;obtain ⟨hk,h⟩:=ze h;obtain ⟨v',h1,h2⟩:=z44 (w:=w) hf hz hl hcs hk;exact hval h trivial (z47 h2) (vv h1)
  ·rw [hty,cond_true] at h;obtain ⟨z,hz,h⟩:=zd h;obtain ⟨hc,h⟩:=ze h;simp only [ph] at hc;have hps:ps = #[]:=by simpa using hc.1.1
   obtain ⟨v',μ',h1,h2,h3,h4⟩:=z1n (w:=w) (μ:=μ) hz hc.1.2 hc.2;exact ⟨_,_,_,h,zcs.of_upd hi _ (vv (by rw [hps]; simpa using h1)) h2 h3 h4⟩
 case buildSlice t n ps=>
  split at h
  ·rename_i e hu;obtain ⟨z,hz,h⟩:=zd h;obtain ⟨l,hl,h⟩:=zd h;obtain ⟨xs,hx,h⟩:=zd h;obtain ⟨hc,h⟩:=ze h;simp only [ph,Bool.not_eq_true'] at hc;cases hbare:ztq cx nt dst ps.toList <;> rw [hbare] at h
   case true=>
    obtain ⟨w',h1,h2,h3⟩:=zt7 hi hf hu hz hl hx (v7 hc.1.1.1) (pq hc.1.1.2) (pq hc.1.2)
     (λ e=>by simp [e] at hc)
    exact ⟨_,_,_,h,zcs.of_upd hi _ (vv h1) h2 (λ j hj=>by simp at hj) h3⟩
   cases hown:cx.own nt (dst.getD 0) <;> rw [hown] at h
   ·obtain ⟨w',lo,h1,h2,h3,h4⟩:=zjd hi hf hu hz hl hx (v7 hc.1.1.1) (pq hc.1.1.2) (pq hc.1.2)
     (λ e=>by simp [e] at hc)
    exact ⟨_,_,_,h,zcs.of_upd hi _ (vv h1) h2 h3 h4⟩
   ·obtain ⟨w',lo,h1,h2,h3,h4⟩:=zpx hi hf hu hz hl hx (v7 hc.1.1.1) (pq hc.1.1.2) (pq hc.1.2)
     (λ e=>by simp [e] at hc)
    exact ⟨_,_,_,h,zcs.of_upd hi _ (vv h1) h2 h3 h4⟩
  ·cases h
 case makeSlice t n c=>
  obtain ⟨a',ha,h⟩:=zd h;obtain ⟨b',hb,h⟩:=zd h;obtain ⟨v,δ,fp,hK,v',w',μ',h1,h2,h3,h4⟩:=zqp hi (x5 hf ha) (x5 hf hb) h;exact ⟨_,_,_,hK,zcs.of_upd hi _ (vv h1) h2 h3 h4⟩
 case lookup t x i ok=>
  obtain ⟨a',ha,h⟩:=zd h;obtain ⟨b',hb,h⟩:=zd h;obtain ⟨v,fp,hK,v',h1,h2⟩:=zxe hi (x5 hf ha) (x5 hf hb) h;exact hval hK trivial h2 (vv h1)
 case mapUpdate t mm k x | insert t mm k x=>
  obtain ⟨a',ha,h⟩:=zd h;obtain ⟨b',hb,h⟩:=zd h;obtain ⟨c',hc,h⟩:=zd h;obtain ⟨δ,fp,hK,w',id,h1,h2,h3⟩:=zxb hi (x5 hf ha) (x5 hf hb) (wy hf hc) h;exact ⟨_,_,_,hK,zcs.of_skip hi (zy4 h1) h2 h3⟩
 case load t p=>
  obtain ⟨p',hp,h⟩:=zd h;obtain ⟨v,fp,h,v',h1,h2⟩:=zva hi (x5 hf hp) h;exact hval h trivial h2 (vv h1)
 case store t p x=>
  obtain ⟨p',hp,h⟩:=zd h;obtain ⟨v,hv,h⟩:=zd h;obtain ⟨hty,h⟩:=ze h;obtain ⟨δ,fp,h,w',id,h1,h2,h3⟩:=zq8 hi (x5 hf hp) (wy hf hv) h hty;exact ⟨_,_,_,h,zcs.of_skip hi (zy4 h1) h2 h3⟩
 case nilCheck x=>
  obtain ⟨v,hv,h⟩:=zd h;have hr:=x5 hf hv;split at h
  ·refine hval h trivial hr ?_;generalize hq:a.eval x=q at hr ⊢;cases hr with | ptr id off b _ _=>simp [execOp,hq]
  ·refine hval h trivial hr ?_;generalize hq:a.eval x=q at hr ⊢;cases hr with | eptr x b o off xs hc hh=>simp [execOp,hq]
  ·refine hval h trivial hr ?_;generalize hq:a.eval x=q at hr ⊢;cases hr with | gptr g off=>simp [execOp,hq]
  ·refine hval h trivial hr ?_;generalize hq:a.eval x=q at hr ⊢;cases hr with | wptr id sz k i off a l _ _ _=>simp [execOp,hq]
  ·refine hval h trivial hr ?_;generalize hq:a.eval x=q at hr ⊢;cases hr with | func f cs l hl hh=>simp [execOp,hq]
  ·refine hval h trivial hr ?_;generalize hq:a.eval x=q at hr ⊢;cases hr with | mfunc f cs l hh=>simp [execOp,hq]
  ·cases h
 case binOp op t x y u=>
  obtain ⟨v1,hv1,h⟩:=zd h;obtain ⟨v2,hv2,h⟩:=zd h;obtain ⟨v,h,v',h1,h2⟩:=z65 (w:=w) (wy hf hv1) (wy hf hv2) h;exact hval h trivial h2 (vv h1)
 case unOp op t x=>
  obtain ⟨v1,hv1,h⟩:=zd h;obtain ⟨v,h,v',h1,h2⟩:=z8o (P:=cx.P) (w:=w) (x5 hf hv1) h;exact hval h trivial h2 (vv h1)
 case convert s t x=>
  obtain ⟨v1,hv1,h⟩:=zd h;split at h
  ·rename_i e' e sz l id hu1 hu2;split at h
   ·rename_i n hu3 hg;obtain ⟨hc,h'⟩:=ze h;clear h;simp only [ph,Bool.not_eq_true',decide_eq_true_eq] at hc;obtain e3:=pg hc.1.1;subst e3;have h:=h';rw [hu1] at hu2; cases hu2;obtain ⟨w',h1,h2,h3,h4⟩:=z04 hi (wy hf hv1) (by have:=hc.1.2; intro e; simp [e] at this) hg hc.2 hu1 hu3
    exact ⟨_,_,_,h,zcs.of_upd hi _ (vv h1) h2 h3 h4⟩
   ·cases h
  ·cases hun:z3y cx.P s t <;> rw [hun] at h <;> simp only [cond_true,cond_false] at h
   ·obtain ⟨v,h,v',h1,h2⟩:=z40 (w:=w) (wy hf hv1) h;exact hval h trivial h2 (vv h1)
   ·obtain ⟨v,fp,h,v',h1,h2⟩:=z41 hi (wy hf hv1) h;exact hval h trivial h2 (vv h1)
 case makeInterface t x=>
  split at h
  ·cases h
  ·cases h
  ·rename_i hu1 hu2;obtain ⟨v,hv,h⟩:=zd h;have hr:=wy hf hv;have hrun:(Instr.makeInterface t (a.eval x)).run cx.P w=.ok (.iface t (a.eval x)) w:=by
    unfold Instr.makeInterface;cases hu:cx.P.underlying t with
    | none=>exact absurd hu hu2
    | some u=>
     rw [Sem.run_bind,run_underlying hu,Result.andThen_ok];cases u <;> first | rfl | exact absurd hu (hu1 _)
   split at h
   ·rename_i y hy;exact hval h trivial (.d _ _ (.iface t _ _ (zf7 hr hy))) (vv hrun)
   ·exact hval h trivial (.iface t _ _ hr) (vv hrun)
 case slice t x lo hii mx=>
  obtain ⟨v1,hv1,h⟩:=zd h;obtain ⟨l,h,hl⟩:=zof hf h;obtain ⟨hh,h,hhh⟩:=zof hf h;obtain ⟨mm,h,hm⟩:=zof hf h;obtain ⟨v,δ,fp,h,v',μ',ids,h1,h2,h3,h4⟩:=z0i (wy hf hv1) hl hhh hm h;exact ⟨_,_,_,h,zcs.of_upd hi _ (vv h1) h2 h3 h4⟩
 case fieldAddr s x f=>
  obtain ⟨v1,hv1,h⟩:=zd h;obtain ⟨v,h,v',h1,h2⟩:=zqs (w:=w) (x5 hf hv1) h;exact hval h trivial h2 (vv h1)
 case field t x f=>
  obtain ⟨v1,hv1,h⟩:=zd h;obtain ⟨p,hp,h⟩:=zd h;obtain ⟨v,h,v',h1,h2⟩:=z4d (w:=w) (x5 hf hv1) hp h;exact hval h trivial h2 (vv h1)
 case indexAddr t x i=>
  obtain ⟨v1,hv1,h⟩:=zd h;obtain ⟨v2,hv2,h⟩:=zd h;obtain ⟨v,h,v',h1,h2⟩:=zqq (w:=w) (x5 hf hv1) (x5 hf hv2) h;exact hval h trivial h2 (vv h1)
 case index t x i=>
  obtain ⟨v1,hv1,h⟩:=zd h;obtain ⟨v2,hv2,h⟩:=zd h;obtain ⟨v,h,v',h1,h2⟩:=z0z (w:=w) (x5 hf hv1) (x5 hf hv2) h;exact hval h trivial h2 (vv h1)
 case extract t i=>
  obtain ⟨v1,hv1,h⟩:=zd h;obtain ⟨l,rfl,h⟩:=zp3 h;obtain ⟨v,hv,h⟩:=zis h;have hr:=x5 hf hv1;generalize hq:a.eval t=q at hr;cases hr with | tup cs _ hl hh=>?_
  have hlt:i<cs.size:=by rw [hl]; exact (pj.1 hv).1
  exact hval h trivial (hh i cs[i] v (by simp) hv) (vv (by simp [Instr.extract,hq,hlt]))
 case panic x=>
  obtain ⟨v1,hv1,h⟩:=zd h;split at h <;> first | (cases h; done) | skip
  rename_i t y;have hr:=x5 hf hv1;refine ⟨_,_,_,h,λ next Q hk=>?_⟩
  have hk:=hk _ w μ (After.refl hi) hr;generalize hq:a.eval x=q at hr hk;cases hr with | d v' _ hd=>?_
  cases hd with | iface _ v0 _ h0=>?_
  unfold Oper.wp;have:(execOp a.eval ⟨dst,.panic x,type,pos,after,guard⟩).run cx.P w=.halt (.panic (.iface t v0)) w:=by
   simp [execOp,hq,Instr.panic]
  rw [this];exact hk
 case typeAssert x xt t ok=>
  obtain ⟨v,hv,h1⟩:=zd h;clear h;unfold zle at h1;obtain ⟨hc,h2⟩:=ze h1;clear h1;simp only [ph,Bool.not_eq_true'] at hc;split at h2
  ·rename_i t' y;cases hb:Nat.beq t' t <;> rw [hb] at h2
   ·cases h2
   ·obtain rfl:=pg hb;have hr:=x5 hf hv;generalize hq:a.eval x=q at hr;cases hr with | d v' _ hd=>?_
    cases hd with | iface _ v0 _ h0=>?_
    refine hval h2 trivial ?_ (vv (v:=if ok then .tuple #[v0,.bool true] else v0) (by rw [hq]; exact zs5 hc.1 hc.2))
    cases ok
    ·exact .d _ _ h0
    ·refine .tup _ _ rfl λ i p q hp hq=>?_
     match i with
     | 0=>simp at hp hq; subst hp; subst hq; exact .d _ _ h0
     | 1=>simp at hp hq; subst hp; subst hq; exact .d _ _ (.bool true)
     | i+2=>simp at hp
  ·cases h2
 case call c=>
  obtain ⟨callee,cargs,ctypes⟩:=c;split at h
  ·rename_i f hcl;simp only at hcl;subst hcl;obtain ⟨fv,hfv,h⟩:=zd h;split at h <;> first | (cases h; done) | skip
   ·rename_i g first
    have hr:=x5 hf hfv;generalize hq:a.eval f=q at hr;cases hr with | mfunc _ cs _ hcs=>?_
    have hrun:∀ {fn:Func},cx.P.funcs[g]?=some fn→fn.body.isNone=false→(execOp a.eval ⟨dst,.call ⟨.value f,cargs,ctypes⟩,type,pos,after,guard⟩).run cx.P w=.ok (.enter g (cs.toList++cargs.toList.map a.eval).toArray) w:=by
     intro fn hfn hbody;simp only [execOp,resolve,hq,Deferred.ofValue];rw [Sem.run_bind];simp only [Sem.run_pure,Result.andThen_ok,invoke];rw [show (cs++Array.map a.eval cargs++#[])=(cs.toList++cargs.toList.map a.eval).toArray by
      apply Array.ext'; simp]
     exact zgm hn hfn hbody
    obtain ⟨l,hl,h⟩:=zd h
    have hargs:RVs w σ μ (cs.toList++cargs.toList.map a.eval) (first.map .d++zbn (cx.keep g) l):=
     RVs.append' hcs.rv (zh7 (zc9 hf _ _ _ hl))
    obtain ⟨oc,δ,fp,hK,⟨fn,hfn,hbody⟩,hcalls⟩:=zpv hcall hi hargs h;refine ⟨oc,δ,fp,hK,λ next Q hk=>?_⟩
    unfold Oper.wp;rw [hrun hfn hbody,Oper.upon_enter];refine hcalls.mono λ e w' ⟨μ',haf,he⟩=>?_;cases oc with
    | val v=>cases e <;> first | exact hk _ _ _ haf he | exact he.elim
    | pan v=>cases e <;> first | exact he.elim | (obtain ⟨x,rfl,hx⟩:=he; exact hk _ _ _ haf hx)
   rename_i g cap;have hr:=x5 hf hfv;generalize hq:a.eval f=q at hr;cases hr with | func _ cs _ hcl hch=>?_
   have hrun:∀ {fn:Func},cx.P.funcs[g]?=some fn→fn.body.isNone=false→(execOp a.eval ⟨dst,.call ⟨.value f,cargs,ctypes⟩,type,pos,after,guard⟩).run cx.P w=.ok (.enter g (cargs.toList.map a.eval++cs.toList).toArray) w:=by
    intro fn hfn hbody;simp only [execOp,resolve,hq,Deferred.ofValue];rw [Sem.run_bind];simp only [Sem.run_pure,Result.andThen_ok,invoke];rw [show (#[]++Array.map a.eval cargs++cs)=(cargs.toList.map a.eval++cs.toList).toArray by
     apply Array.ext'; simp]
    exact zgm hn hfn hbody
   have hcap:RVs w σ μ cs.toList cap:=⟨by simpa using hcl,λ i x y hx hy=>hch i x y (by simpa using hx) hy⟩
   have tokd:∀ {l:List V} {xs:List Nat},yi σ [(m+dst.getD 0,Ob.tok 0)]=true →
     (zi σ (m+dst.getD 0)=none→After cx w σ μ w (zf σ [(m+dst.getD 0,.tok 0)]) (setMu μ (m+dst.getD 0) ⟨none,0,0,0⟩)→RVs w (zf σ [(m+dst.getD 0,.tok 0)]) (setMu μ (m+dst.getD 0) ⟨none,0,0,0⟩) (cargs.toList.map a.eval) l) →
     (qt cx call (qn σ (m+dst.getD 0) (.tok 0)) type g (l++cap) xs λ oc δ fp=>K oc ((m+dst.getD 0,Ob.tok 0)::δ) ((m+dst.getD 0)::fp))=some r →
     ∃ oc δ fp,K oc δ fp=some r∧zcs cx w σ μ a ⟨dst,.call ⟨.value f,cargs,ctypes⟩,type,pos,after,guard⟩ oc δ:=by
    intro l xs hfr hl h;have hg:=v7 hfr;obtain ⟨hob,_⟩:=zi2 (w:=w) (μ:=μ) (sz:=0) (base:=none) hg (cap:=0) rfl (.inr rfl);have haf0:=(zi3 (cx:=cx) (w:=w) (μ:=μ) (ob:=.tok 0) hg).after hi hob
    have hargs:RVs w (qn σ (m+dst.getD 0) (.tok 0)) (setMu μ (m+dst.getD 0) ⟨none,0,0,0⟩) (cargs.toList.map a.eval++cs.toList) (l++cap):=
     RVs.append' (hl hg haf0) (hcap.map λ v x _ hv=>haf0.rv hi hv)
    obtain ⟨oc,δ,fp,hK,⟨fn,hfn,hbody⟩,hcalls⟩:=zpv hcall haf0.inv hargs h;refine ⟨oc,_,_,hK,λ next Q hk=>?_⟩
    unfold Oper.wp;rw [hrun hfn hbody,Oper.upon_enter];refine hcalls.mono λ e w' ⟨μ',haf,he⟩=>?_;cases oc with
    | val v=>cases e <;> first | exact hk _ _ _ (haf0.trans haf) he | exact he.elim
    | pan v=>cases e <;> first | exact he.elim | (obtain ⟨x,rfl,hx⟩:=he; exact hk _ _ _ (haf0.trans haf) hx)
   cases hgr:(cx.grow g).isSome <;> rw [hgr] at h <;> simp only [cond_true,cond_false] at h
   rotate_left
   ·unfold zjb at h;split at h
    ·rename_i y hargs;obtain ⟨e,he,h⟩:=zd h;obtain ⟨v,hv,h⟩:=zd h;split at h
     ·rename_i n;obtain ⟨hc,hK⟩:=ze h;simp only [ph,decide_eq_true_eq] at hc;obtain ⟨⟨⟨⟨h0,h1⟩,hce⟩,hfr⟩,hsm⟩:=hc;have hg:=v7 hfr;have hc0:cs.toList=[]:=by
       have h1:cap.length=0:=by simpa using hce
       exact List.eq_nil_of_length_eq_zero (by rw [hcap.1]; exact h1)
      obtain ⟨⟨fn,hfn,hbody⟩,hcalls⟩:=hcall.1 g e he n w h0 h1;have hya:=(x5 hf hv).int_inv;have hav:(cargs.toList.map a.eval++cs.toList).toArray = #[.slice none 0 0,.int .i64 n]:=by
       rw [hargs,hc0]; simp [hya]; rfl
      have hsm:cx.P.cellsOf e<1048576:=by simpa using hsm
      refine ⟨_,_,_,hK,λ next Q hk=>?_⟩
      unfold Oper.wp;rw [hrun hfn hbody,Oper.upon_enter,hav];refine hcalls.mono λ x w' ⟨base,c,hx,hw⟩=>?_;subst hx;rcases hw with ⟨rfl,rfl,rfl⟩ | ⟨ncs,el,rfl,rfl,hsize⟩
      ·obtain ⟨b1,b2⟩:=zi2 (w:=w') (μ:=μ) (sz:=cx.P.cellsOf e) (base:=none) (cap:=0) hg rfl (.inr rfl);exact hk _ _ _ ((zi3 (cx:=cx) hg).after hi b1) b2
      ·have hnh:(w.drew.alloc (.cells ncs el)).heap[w.heap.size]?=some (.cells ncs el (0,0)):=vq (w:=w.drew)
       have hup:Upd cx w σ μ (w.drew.alloc (.cells ncs el)) (zf σ [(m+dst.getD 0,.tok 0)]) (setMu μ (m+dst.getD 0) ⟨some w.heap.size,0,c * cx.P.cellsOf e,el⟩) [m+dst.getD 0]:=
        zjm (δ:=[(m+dst.getD 0,.tok 0)]) rfl rfl (by simp) (λ b hb=>alloc_old (w:=w.drew) b hb) hfr rfl (λ j hj=>by simp at hj; simp [setMu,hj])
         (λ j hj b hb=>by simp at hj; subst hj; simp [setMu] at hb; omega) (λ j hj j' hj' b _ _=>by simp at hj hj'; rw [hj,hj'])
       have hnew:zi (zf σ [(m+dst.getD 0,Ob.tok 0)]) (m+dst.getD 0)=some (.tok 0):=by simp [zf,zq]
       refine hk _ _ _ (hup.after hi λ j hj o' ho'=>?_) ?_
       ·simp at hj; subst hj;rw [hnew] at ho'; cases ho';intro b' hb';have hbb:w.heap.size=b':=by simpa [setMu] using hb'
        subst hbb;exact ⟨ncs,el,(0,0),hnh,by simp [setMu],by simp [setMu,hsize],.inl rfl⟩
       ·exact .slm (zlk hsm) (.sl0 _ _ _) hnew (Nat.le_refl _) λ _=>zge (zlk hsm) (by simp [setMu]) (by simp [setMu]) (by simp [setMu]) (Nat.zero_le _) (.inl hsm)
     ·cases h
    ·cases h
   cases hsm:(zh5 cx.P g&&cap.isEmpty) <;> rw [hsm] at h <;> simp only [cond_true,cond_false] at h
   rotate_left
   ·rw [ph] at hsm;obtain ⟨l,hl,h⟩:=zd h;have hal:=zc9 hf _ _ _ hl;unfold z0s at h;split at h
    ·rename_i v;have hc0:cs.toList=[]:=by
      have h1:cap.length=0:=by simpa using hsm.2
      exact List.eq_nil_of_length_eq_zero (by rw [hcap.1]; exact h1)
     obtain ⟨x,hx⟩:∃ x,cargs.toList.map a.eval=[x]:=List.length_eq_one_iff.1 hal.1;have hrx:RV w σ μ x v:=hal.2 0 x v (by rw [hx]; rfl) rfl
     exact hval h trivial hrx (by
      simp only [execOp,resolve,hq,Deferred.ofValue];rw [Sem.run_bind];simp only [Sem.run_pure,Result.andThen_ok,invoke];rw [show (#[]++Array.map a.eval cargs++cs) = #[x] by
       apply Array.ext'; simp [hc0,hx]]
      exact z23 hsm.1 x)
    ·cases h
   cases hgv:cx.gives g <;> rw [hgv] at h
   ·cases hnil:(cx.keep g&&zjq cargs.toList) <;> rw [hnil] at h
    ·obtain ⟨l,hl,h⟩:=zd h
     have hargs:RVs w σ μ (cargs.toList.map a.eval++cs.toList) (zbn (cx.keep g) l++cap):=
      RVs.append' (zh7 (zc9 hf _ _ _ hl)) hcap
     obtain ⟨oc,δ,fp,hK,⟨fn,hfn,hbody⟩,hcalls⟩:=zpv hcall hi hargs h;refine ⟨oc,δ,fp,hK,λ next Q hk=>?_⟩
     unfold Oper.wp;rw [hrun hfn hbody,Oper.upon_enter];refine hcalls.mono λ e w' ⟨μ',haf,he⟩=>?_;cases oc with
     | val v=>cases e <;> first | exact hk _ _ _ haf he | exact he.elim
     | pan v=>cases e <;> first | exact he.elim | (obtain ⟨x,rfl,hx⟩:=he; exact hk _ _ _ haf hx)
    ·obtain ⟨l,hl,h⟩:=zd h;obtain ⟨hfr,h⟩:=ze h;exact tokd hfr (λ hg haf0=>zqa hi hf haf0 hg _ _ _ hl) h
   ·obtain ⟨l,hl,h⟩:=zd h;obtain ⟨hfr,h⟩:=ze h;exact tokd hfr (λ hg haf0=>zh7 ((zc9 hf _ _ _ hl).map λ v x _ hv=>haf0.rv hi hv)) h
  ·rename_i hcl;simp only at hcl;subst hcl;split at h
   ·rename_i x t hx ht;obtain ⟨v1,hv1,h⟩:=zd h;obtain ⟨v,fp,h,v',h1,h2⟩:=z6k (ty:=type) hi (wy hf hv1) h;have e1:cargs = #[x]:=by apply Array.ext'; simpa using hx
    have e2:ctypes = #[t]:=by apply Array.ext'; simpa using ht
    subst e1 e2;exact hval h trivial h2 (by
     simp only [execOp,resolve];rw [Sem.run_bind];simp only [Sem.run_pure,Result.andThen_ok,invoke,builtin];exact vv (by simpa using h1))
   ·cases h
  ·rename_i hcl;simp only at hcl;subst hcl;split at h
   ·rename_i s x t t' hx ht;obtain ⟨v1,hv1,h⟩:=zd h;obtain ⟨v2,hv2,h⟩:=zd h;obtain ⟨ht',h⟩:=ze h;have e1:cargs = #[s,x]:=by apply Array.ext'; simpa using hx
    have e2:ctypes = #[t,t']:=by apply Array.ext'; simpa using ht
    subst e1 e2
    have hexec:∀ {v' w'},(Builtin.append_ #[t,t'] type #[a.eval s,a.eval x]).run cx.P w=.ok v' w' →
      (execOp a.eval ⟨dst,.call ⟨.builtin .append,#[s,x],#[t,t']⟩,type,pos,after,guard⟩).run cx.P w=.ok (.value v') w':=by
     intro v' w' h1;simp only [execOp,resolve];rw [Sem.run_bind];simp only [Sem.run_pure,Result.andThen_ok,invoke,builtin];exact vv (by simpa using h1)
    unfold zfi at h;split at h
    ·rename_i e hu;obtain ⟨sz',ys,hd,h⟩:=zg6 h;obtain ⟨hc,h⟩:=ze h;simp only [ph,Bool.or_eq_true,Nat.beq_eq] at hc;obtain ⟨z,hz⟩:=Option.isSome_iff_exists.1 hc.2;have hsz':sz'=cx.P.cellsOf e∨ys=[]:=hc.1.1.imp id λ h=>by simpa using h
     have hby:=pq hc.1.2;cases hnil:zfz s
     ·rw [hnil,cond_false] at h;split at h
      ·rename_i sz l id;split at h
       ·rename_i n hg;obtain ⟨hc2,h⟩:=ze h;simp only [ph,decide_eq_true_eq] at hc2;obtain ⟨⟨⟨hc3,hcT⟩,hc4⟩,hc5⟩:=hc2;obtain ⟨v',w',lo,h1,h2,h3,h4⟩:=z1r (ty:=type) hi (wy hf hv1) (wy hf hv2) hd hu hz ht' hsz' (pg hc3) (zy0 hcT) hby (hc4 ▸ hg) hc5;exact ⟨_,_,_,h,zcs.of_upd hi _ (hexec h1) h2 h3 h4⟩
       ·cases h
      ·rename_i id sz k;split at h
       ·rename_i l hg;obtain ⟨hc2,hK⟩:=ze h;clear h;simp only [ph,decide_eq_true_eq] at hc2;obtain ⟨⟨hc3,hc4⟩,hc5⟩:=hc2;obtain rfl:=pg hc4;obtain ⟨v',w',lo,h1,h2,h3,h4⟩:=zua (ty:=type) hi (wy hf hv1) (wy hf hv2) hd hu hz ht' hsz' (pg hc3) hby hg hc5;exact ⟨_,_,_,hK,zcs.of_upd hi _ (hexec h1) h2 h3 h4⟩
       ·cases h
      ·cases h
     ·rw [hnil,cond_true] at h;obtain ⟨hc2,h⟩:=ze h;simp only [ph,decide_eq_true_eq] at hc2;have hs:a.eval s=.slice none 0 0:=by
       unfold zfz at hnil;split at hnil
       ·rfl
       ·cases hnil
      obtain ⟨v',w',lo,h1,h2,h3,h4⟩:=zqx (ty:=type) hi (wy hf hv2) hd hu hz ht' hsz' hby (v7 hc2.1.1) hc2.1.2 (by simpa using hc2.2)
      rw [←hs] at h1;exact ⟨_,_,_,h,zcs.of_upd hi _ (hexec h1) h2 h3 h4⟩
    ·cases h
   ·cases h
  ·cases h
end
section
variable {R α:Type} {cx:Cx} {σ:St}
abbrev yz:=Nat→List V→St→Option (Out×St)
theorem y4{β:Type}(o:Option β)(F:β→Option α)(K:α→Option R):zc (zc o F) K=zc o λ x=>zc (F x) K:=by cases o <;> rfl
theorem ya(b:Bool)(X:Option α)(K:α→Option R):zc (zb b X) K=zb b (zc X K):=by cases b <;> rfl
theorem xj(b:Bool)(X Y:Option α)(K:α→Option R):zc (bif b then X else Y) K=bif b then zc X K else zc Y K:=by cases b <;> rfl
theorem z8(K:α→Option R):zc none K=none:=rfl
theorem zw5(x:α)(K:α→Option R):zc (some x) K=K x:=rfl
theorem z49(v:V)(F:Bool→Option α)(K:α→Option R):zc (asB v F) K=asB v λ x=>zc (F x) K:=by unfold asB; split <;> rfl
theorem zp7(x:D)(k:IntKind)(F:Int→Option α)(K:α→Option R):zc (asInt x k F) K=asInt x k λ x=>zc (F x) K:=by unfold asInt; split <;> simp only [xj,z8]
theorem znh(x:D)(F:Bool→Option α)(K:α→Option R):zc (asBool x F) K=asBool x λ x=>zc (F x) K:=by unfold asBool; split <;> rfl
theorem zp6(x:D)(F:List UInt8→Option α)(K:α→Option R):zc (zng x F) K=zng x λ x=>zc (F x) K:=by unfold zng; split <;> rfl
theorem zss(x:D)(n:Nat)(F:List D→Option α)(K:α→Option R):zc (zwo x n F) K=zwo x n λ x=>zc (F x) K:=by unfold zwo; split <;> simp only [xj,z8]
theorem zp9(x:D)(n:Nat)(F:D→Option α)(K:α→Option R):zc (asAgg x n F) K=asAgg x n λ x=>zc (F x) K:=by unfold asAgg; split <;> simp only [xj,z8]
theorem zp8(x:V)(F:D→Option α)(K:α→Option R):zc (asD x F) K=asD x λ x=>zc (F x) K:=by unfold asD; split <;> rfl
theorem zb4(l:List D)(i:Nat)(F:D→Option α)(K:α→Option R):zc (za l i F) K=za l i λ x=>zc (F x) K:=by unfold za; split <;> rfl
theorem zed(l:List V)(i:Nat)(F:V→Option α)(K:α→Option R):zc (zkp l i F) K=zkp l i λ x=>zc (F x) K:=by unfold zkp; split <;> rfl
theorem zp4(x:V)(F:List V→Option α)(K:α→Option R):zc (zp5 x F) K=zp5 x λ x=>zc (F x) K:=by unfold zp5; split <;> rfl
theorem zuh(l:List V)(F:V→List V→Option α)(K:α→Option R):zc (unc l F) K=unc l λ x y=>zc (F x y) K:=by unfold unc; split <;> rfl
theorem zue(l:List V)(F:Option α)(K:α→Option R):zc (unn l F) K=unn l (zc F K):=by unfold unn; split <;> rfl
theorem zb2(P:Program)(t:Nat)(x:D)(F:V→Option α)(K:α→Option R):zc (zdl P t x F) K=zdl P t x λ x=>zc (F x) K:=by
 unfold zdl;split <;> simp only [zp7,znh,zp6,zss,zp9,z8];split <;> rfl
theorem zg9(P:Program)(t:Nat)(x:V)(F:V→Option α)(K:α→Option R):zc (zdx P t x F) K=zdx P t x λ x=>zc (F x) K:=by
 unfold zdx;split
 ·exact zb2 P t _ F K
 ·exact ya _ _ _
theorem zxj(op:BinOp)(k:IntKind)(a b:Int)(F:V→Option α)(K:α→Option R):zc (zr4 op k a b F) K=zr4 op k a b λ x=>zc (F x) K:=by cases op <;> first | rfl | simp only [zr4,ya,z8]
theorem zwy(op:BinOp)(a b:List UInt8)(F:V→Option α)(K:α→Option R):zc (zq7 op a b F) K=zq7 op a b λ x=>zc (F x) K:=by cases op <;> first | rfl | simp only [zq7,ya,z8]
theorem zs4(op:BinOp)(k:IntKind)(a b:Int)(F:V→Option α)(K:α→Option R):zc (zgj op k a b F) K=zgj op k a b λ x=>zc (F x) K:=by cases op <;> first | rfl | simp only [zgj,ya,z8]
theorem z4h(op:BinOp)(b:Bool)(F:V→Option α)(K:α→Option R):zc (eqV op b F) K=eqV op b λ x=>zc (F x) K:=by cases op <;> first | rfl | simp only [eqV,z8]
theorem z1o(P:Program)(cst:Bool)(op:BinOp)(t:Nat)(x y:V)(F:V→Option α)(K:α→Option R):zc (z1p P cst op t x y F) K=z1p P cst op t x y λ x=>zc (F x) K:=by
 unfold z1p;split <;> first | rfl | simp only [zwy,ya,z4h,z8] | skip
 split <;> simp only [zs4,zxj,xj,z8]
theorem z2k(op:UnOp)(x:V)(F:V→Option α)(K:α→Option R):zc (unV op x F) K=unV op x λ x=>zc (F x) K:=by unfold unV; split <;> rfl
theorem zwi(x:V)(F:Nat→List D→Option α)(K:α→Option R):zc (dataOf x F) K=dataOf x λ a b=>zc (F a b) K:=by unfold dataOf; split <;> rfl
theorem zpp(x:V)(F:Nat→List D→Option α)(K:α→Option R):zc (znd x F) K=znd x λ a b=>zc (F a b) K:=by unfold znd; split <;> rfl
theorem zyd(P:Program)(s d:Nat)(x:V)(F:V→Option α)(K:α→Option R):zc (zsm P s d x F) K=zsm P s d x λ x=>zc (F x) K:=by
 unfold zsm;split <;> try rfl
 split <;> simp only [zpp,ya,z8];congr 1; funext a b; congr 1;split <;> rfl
theorem zp0(v:Option V)(y d:Nat)(F:Nat→Option α)(K:α→Option R):zc (bound v y d F) K=bound v y d λ x=>zc (F x) K:=by unfold bound; split <;> simp only [ya,z8]
theorem zjp(v:V)(n:Nat)(F:Nat→Option α)(K:α→Option R):zc (index v n F) K=index v n λ x=>zc (F x) K:=by unfold index; split <;> simp only [ya,z8]
theorem z0p(fr:Fr)(x:Option Operand)(F:Option V→Option α)(K:α→Option R):zc (zgp fr x F) K=zgp fr x λ x=>zc (F x) K:=by unfold zgp; split <;> simp only [y4]
theorem zgg(x:D):∀ (n off:Nat) (F:List D→Option α) (K:α→Option R),zc (ze7 x off n F) K=ze7 x off n λ x=>zc (F x) K
 | 0,off,F,K=>rfl
 | n+1,off,F,K=>by simp only [ze7,zb4,zgg x n]
theorem zxf(t:Nat)(p:V)(F:V→List Nat→Option α)(K:α→Option R):zc (zeo cx σ t p F) K=zeo cx σ t p λ a b=>zc (F a b) K:=by
 unfold zeo;rw [ya];congr 1;split
 ·split <;> simp only [xj,zg9,zb2,ya,zed,zb4,z8]
 ·simp only [xj,zgg,zb2,ya,zed,zb4,z8]
 ·split <;> simp only [xj,zgg,zb2,ya,zed,zb4,z8]
 ·simp only [y4,xj,zp9,zb2,ya,zed,zb4,z8]
 ·rfl
theorem zuo(t:Nat)(p v:V)(F:De→List Nat→Option α)(K:α→Option R):zc (zce cx σ t p v F) K=zce cx σ t p v λ a b=>zc (F a b) K:=by
 unfold zce;split <;> try rfl
 all_goals (split <;> simp only [y4,xj,ya,z8])
theorem zld(P:Program):∀ (ts:List Nat) (vs:List V) (F:List V→Option α) (K:α→Option R),zc (zha P ts vs F) K=zha P ts vs λ x=>zc (F x) K
 | [],vs,F,K=>by simp only [zha,zue]
 | t::ts,vs,F,K=>by
  simp only [zha,zuh,zg9];congr 1; funext v r; congr 1; funext u;exact zld P ts r _ K
theorem zt4(P:Program)(t:Nat)(v:V)(F:V→Option α)(K:α→Option R):zc (zhb P t v F) K=zhb P t v λ x=>zc (F x) K:=by
 unfold zhb;split
 ·split <;> simp only [zp4,zld]
 ·exact zg9 P t v F K
theorem zop(o x:V)(F:V→Option α)(K:α→Option R):zc (zoq o x F) K=zoq o x λ x=>zc (F x) K:=by
 unfold zoq;split <;> simp only [zp8,zp7,znh,zp6,zss];split <;> simp only [xj,z8]
theorem zor:∀ (os vs:List V) (F:List V→Option α) (K:α→Option R),zc (zos os vs F) K=zos os vs λ x=>zc (F x) K
 | [],vs,F,K=>by simp only [zos,zue]
 | o::os,vs,F,K=>by
  simp only [zos,zuh,zop];congr 1; funext v r; congr 1; funext u;exact zor os r _ K
theorem zxg(o x:Ob)(F:Ob→Option α)(K:α→Option R):zc (zrw o x F) K=zrw o x λ x=>zc (F x) K:=by
 unfold zrw;split
 ·rw [ya];congr 1;split
  ·exact zor _ _ _ K
  ·rfl
 ·rw [ya,zop]
 ·rfl
theorem znf(ren:List Nat)(σ':St):∀ (l:List Nat) (k:Nat) (F:De→Option α) (K:α→Option R),zc (zbi ren σ σ' k l F) K=zbi ren σ σ' k l λ x=>zc (F x) K
 | [],k,F,K=>rfl
 | i::l,k,F,K=>by
  simp only [zbi,y4,zxg];congr 1; funext a; congr 1; funext b; congr 1; funext c;exact znf ren σ' l (k+1) _ K
theorem zjx(call:yz)(t f:Nat)(args:List V)(xs:List Nat)(F:Oc→De→List Nat→Option α)(K:α→Option R):zc (qt cx call σ t f args xs F) K=qt cx call σ t f args xs λ a b c=>zc (F a b c) K:=by
 unfold qt;simp only [ya];congr 1;congr 1;split <;> simp only [znf,zt4,z8]
end
section
variable {R:Type} {cx:Cx} {w:World} {σ:St} {μ:Mu}
def zhn(w:World)(σ:St)(μ:Mu):Ex→Exit→Prop
 | .normal,.normal=>True
 | .ret,.ret=>True
 | .exit i,.exit j=>i=j
 | .goto i,.goto j=>i=j
 | .pan v,.panic chain=>∃ x,chain=[{ v:=x,recovered:=false }]∧RV w σ μ x v
 | _,_=>False
structure Now (cx:Cx) (nt:Nat) (ds:List Deferred) (w₀:World) (σ₀:St) (μ₀:Mu) (a:Act) (w:World) (σ:St) (μ:Mu) (fr:Fr):Prop where
 after:After cx w₀ σ₀ μ₀ w σ μ
 fr:FR w σ μ a.tmps fr
 size:nt≤a.tmps.size
 defers:a.defers=ds
def xm(fr fr':Fr):Prop:=∀ t,zi fr' t=zi fr t
theorem FR.same{tmps:Array Value}{fr fr':Fr}(h:FR w σ μ tmps fr)(hs:xm fr fr'):FR w σ μ tmps fr':=λ t v ht=>h t v (by rw [←hs t]; exact ht)
theorem xm.refl(fr:Fr):xm fr fr:=λ _=>rfl
theorem xm.dup{fr:Fr}{t:Nat}{v:V}(h:zi fr t=some v):xm fr ((t,v)::fr):=by
 intro t';simp only [zi];cases hb:Nat.beq t t'
 ·rfl
 ·obtain rfl:=pg hb;exact h.symm
theorem RV.bool_of{v:V}{b:Bool}(h:RV w σ μ (.bool b) v):v=.d (.bool b):=by
 cases h with
 | d _ x hd=>cases hd; rfl
 | sl _ sz l id n hd=>cases hd
theorem z6p{tmps:Array Value}{t:Nat}{v:Value}(h:tmps[t]?=some v):tmps.getD t undef=v:=by
 simp [Array.getD_eq_getD_getElem?,h]
theorem z59{tmps:Array Value}{t:Nat}{b:Bool}(h:tmps.getD t undef=.bool b):tmps[t]?=some (.bool b):=by
 cases hg:tmps[t]? with
 | none=>simp [Array.getD_eq_getD_getElem?,hg,undef] at h
 | some v=>simp [Array.getD_eq_getD_getElem?,hg] at h; rw [h]
def zhv(ops:List Oper)(o:Oper)(fr:Fr):Option Bool:=
 match o.guard with
 | none=>some true
 | some (j,want)=>
  match zn1 ops j with
  | none=>some false
  | some t=>
   match zi fr t with
   | some (.d (.bool b))=>some (b == want)
   | some _=>some false
   | none=>none
theorem zm4{ops:List Oper}{o:Oper}{fr:Fr}{yes no:Fr→Option R}{r:R}(h:zds ops o fr yes no=some r) :
  ∃ fr',xm fr fr'∧((zhv ops o fr=some true∧yes fr'=some r)∨(zhv ops o fr=some false∧no fr'=some r)):=by
 unfold zds at h;unfold zhv;split at h
 ·exact ⟨fr,xm.refl fr,.inl ⟨by simp [*],h⟩⟩
 ·rename_i j want hg;simp only [hg];split at h
  ·exact ⟨fr,xm.refl fr,.inr ⟨by simp [*],h⟩⟩
  ·rename_i t ht;simp only [ht];split at h
   ·rename_i b hb;cases b <;> cases want <;> simp only [cond_true,cond_false] at h
    ·exact ⟨_,xm.dup hb,.inl ⟨by simp [hb],h⟩⟩
    ·exact ⟨_,xm.dup hb,.inr ⟨by simp [hb],h⟩⟩
    ·exact ⟨_,xm.dup hb,.inr ⟨by simp [hb],h⟩⟩
    ·exact ⟨_,xm.dup hb,.inl ⟨by simp [hb],h⟩⟩
   ·rename_i x hn hx;refine ⟨fr,xm.refl fr,.inr ⟨?_,h⟩⟩;rw [hx];split
    ·rename_i b hb; exact (hn _ (Option.some.inj hb)).elim
    ·rfl
    ·rename_i hb; cases hb
   ·cases h
theorem zut{ops:List Oper}{arr:Array Oper}(h:arr.toList=ops)(j:Nat):(arr[j]?).bind (·.dst)=zn1 ops j:=by
 unfold zn1;rw [←h,Array.getElem?_toList];cases arr[j]? <;> rfl
theorem zdi{ops:List Oper}{arr:Array Oper}(harr:arr.toList=ops){o:Oper}{fr:Fr}{tmps:Array Value}(hf:FR w σ μ tmps fr){b:Bool}(h:zhv ops o fr=some b) :
  Region.wanted o (yielded arr tmps)=b:=by
 unfold zhv at h;unfold Region.wanted;split at h
 ·rename_i hg; simp only [hg]; cases h; rfl
 ·rename_i j want hg;simp only [hg,yielded,zut harr];split at h
  ·rename_i ht; cases h; simp [ht]
  ·rename_i t ht;simp only [ht,Option.bind_some];split at h
   ·rename_i c hb;cases h;have hr:=hf t _ hb;have:tmps[t]?=some (.bool c):=by
     cases hr':tmps.getD t undef <;> rw [hr'] at hr
     case bool c'=>
      have:=hr.bool_of; cases this;exact z59 hr'
     all_goals (cases hr with | d _ _ hd=>cases hd)
    rw [this];cases c <;> cases want <;> rfl
   ·rename_i x hn hx;cases h;have hr:=hf t _ hx;cases hq:tmps[t]? with
    | none=>simp
    | some q=>
     rw [z6p hq] at hr;cases q <;> first | rfl | skip
     have:=hr.bool_of;subst this;exact (hn _ rfl).elim
   ·cases h
theorem zmc{fr:Fr}{dst:Option Nat}{v:V}{t:Nat}:zi (ze2 fr dst v) t=if dst=some t then some v else zi fr t:=by
 cases dst with
 | none=>simp [ze2]
 | some d=>
  simp only [ze2,zi];by_cases h:d=t
  ·subst h; simp
  ·simp [h,zj1 h]
theorem FR.put{nt:Nat}{a:Act}{fr:Fr}(h:FR w σ μ a.tmps fr){dst:Option Nat}(hd:zm8 nt dst=true)(hs:nt≤a.tmps.size){v':Value}{v:V}(hv:RV w σ μ v' v) :
  FR w σ μ (a.put dst v').tmps (ze2 fr dst v):=by
 intro t u ht;rw [zmc] at ht;cases dst with
 | none=>exact h t u (by simpa using ht)
 | some d=>
  have hlt:d<a.tmps.size:=Nat.lt_of_lt_of_le (pq hd) hs;by_cases he:d=t
  ·subst he;simp at ht; subst ht;simpa [Act.put,Array.getD_eq_getD_getElem?,hlt] using hv
  ·simp [he] at ht;have:=h t u ht;simpa [Act.put,Array.getD_eq_getD_getElem?,Array.getElem?_setIfInBounds_ne he] using this
theorem qm(a:Act)(dst:Option Nat)(v:Value):(a.put dst v).tmps.size=a.tmps.size:=by cases dst <;> simp [Act.put]
theorem w9(a:Act)(dst:Option Nat)(v:Value):(a.put dst v).defers=a.defers:=by cases dst <;> rfl
theorem znw:RV w σ μ undef qu:=.tup #[] [] rfl (by simp)
theorem FR.nil{tmps:Array Value}:FR w σ μ tmps []:=λ _ _ h=>by cases h
variable {nt:Nat} {ds:List Deferred} {w₀:World} {σ₀:St} {μ₀:Mu}
theorem zgz{m:Nat}{call:Nat→List V→St→Option (Out×St)}(hcall:zai cx call)(hn:xe cx.P){arr:Array Oper}{tl:List Oper}{K:Ex→Fr→St→Option R}{r:R}
  {Q:Exit→Act→World→Prop}
  (hend:∀ fr σ,K .normal fr σ=some r→∀ a w μ,Now cx nt ds w₀ σ₀ μ₀ a w σ μ fr→∀ i,arr.toList.drop i=tl→wpOps cx.P arr Q ((List.range arr.size).drop i) a w)
  (hQ:∀ v fr σ,K (.pan v) fr σ=some r→∀ x a w μ,zhn w σ μ (.pan v) x→Now cx nt ds w₀ σ₀ μ₀ a w σ μ fr→Q x a w) :
  ∀ (l:List Oper) (i:Nat),arr.toList.drop i=l++tl→∀ (fr:Fr) (σ:St),zcu cx m nt call arr.toList l fr σ K=some r →
   ∀ a w μ,Now cx nt ds w₀ σ₀ μ₀ a w σ μ fr→wpOps cx.P arr Q ((List.range arr.size).drop i) a w:=by
 intro l
 induction l with
 | nil=>
  intro i hi fr σ h a w μ hnow;exact hend _ _ h _ _ _ hnow i hi
 | cons o l ih=>
  intro i hi fr σ h a w μ hnow;have hlt:i<arr.size:=by
   have:=congrArg List.length hi;simp at this; omega
  have ho:arr[i]?=some o:=by
   have:=congrArg (·[0]?) hi;simpa using this
  have hrest:arr.toList.drop (i+1)=l++tl:=by
   rw [←List.drop_drop,hi]; rfl
  have hdrop:(List.range arr.size).drop i=i::(List.range arr.size).drop (i+1):=by
   rw [List.drop_eq_getElem_cons (by simpa using hlt)]; simp
  rw [hdrop];simp only [wpOps,ho];unfold zcu at h;obtain ⟨hd,h⟩:=ze h;obtain ⟨fr',hs,h⟩:=zm4 h;have hf':=hnow.fr.same hs;rcases h with ⟨hw,h⟩ | ⟨hw,h⟩
  ·rw [zdi rfl hnow.fr hw,if_pos rfl];left;obtain ⟨p,hp,h⟩:=zd h;obtain ⟨oc,δ,fp,hK0,hok⟩:=zk4 hcall hn hnow.after.inv hf' hp;cases hK0;have hK:=h;refine hok _ _ ?_;cases oc with
   | val v=>
    intro v' w' μ' haf hv;refine ih (i+1) hrest _ _ hK _ _ μ' ⟨hnow.after.trans haf,FR.put (haf.frs hnow.after.inv hf') hd hnow.size hv,?_,?_⟩
    ·rw [qm]; exact hnow.size
    ·rw [w9]; exact hnow.defers
   | pan v=>
    intro x w' μ' haf hv;exact hQ _ _ _ hK _ _ _ μ' ⟨x,rfl,hv⟩ ⟨hnow.after.trans haf,haf.frs hnow.after.inv hf',hnow.size,hnow.defers⟩
  ·rw [zdi rfl hnow.fr hw];simp only [Bool.false_eq_true,if_false];refine ih (i+1) hrest _ _ h _ _ μ ⟨hnow.after,FR.put hf' hd hnow.size znw,?_,?_⟩
   ·rw [qm]; exact hnow.size
   ·rw [w9]; exact hnow.defers
theorem zv3{m:Nat}{call:Nat→List V→St→Option (Out×St)}(hcall:zai cx call)(hn:xe cx.P){arr:Array Oper}{K:Ex→Fr→St→Option R}{r:R}
  {Q:Exit→Act→World→Prop}
  (hQ:∀ e fr σ,K e fr σ=some r→∀ x a w μ,zhn w σ μ e x→Now cx nt ds w₀ σ₀ μ₀ a w σ μ fr→Q x a w) :
  ∀ (l:List Oper) (i:Nat),arr.toList.drop i=l→∀ (fr:Fr) (σ:St),zcu cx m nt call arr.toList l fr σ K=some r →
   ∀ a w μ,Now cx nt ds w₀ σ₀ μ₀ a w σ μ fr→wpOps cx.P arr Q ((List.range arr.size).drop i) a w:=by
 intro l i hi;refine zgz hcall hn (tl:=[]) (λ fr σ h a w μ hnow i hi=>?_) (λ v=>hQ (.pan v)) l i (by rw [hi,List.append_nil])
 have:arr.size≤i:=by have:=congrArg List.length hi; simp at this; omega
 rw [List.drop_eq_nil_of_le (by simpa using this)]
 exact hQ _ _ _ h _ _ _ _ trivial hnow
end
section
variable {R:Type} {cx:Cx} {w:World} {σ:St} {μ:Mu} {nt:Nat} {ds:List Deferred} {w₀:World} {σ₀:St} {μ₀:Mu}
theorem zrl{y:Operand}{a:Nat}(h:z0q y a=true):y=.tmp a:=by
 unfold z0q at h;split at h
 ·rw [pg h]
 ·cases h
theorem zgq{y:Operand}{a:Nat}(h:zdv y a=true)(c:Act)(v:Value):(c.put (some a) v).eval y=c.eval y:=by
 unfold zdv at h;split at h
 ·rename_i b;have hne:b ≠ a:=by
   intro e;subst e;simp at h
  simp only [Act.eval,Act.put];simp [Array.getD_eq_getD_getElem?,Array.getElem?_setIfInBounds_ne (Ne.symm hne)]
 ·cases y <;> first | rfl | (rename_i hn; exact (hn _ rfl).elim)
theorem zh0{o i s:Oper}{q:Pend}(h:zlv o i s=some q) :
  ∃ ty1 p1 f1 ty2 p2 f2 ty3 p3 f3,o=⟨some q.a,.call ⟨.builtin .append,#[q.sv,q.pv],#[q.t,q.t2]⟩,ty1,p1,f1,none⟩∧i=⟨some q.p,.indexAddr q.t (.tmp q.a) q.j,ty2,p2,f2,none⟩ ∧
   s=⟨none,.store q.e (.tmp q.p) q.x,ty3,p3,f3,none⟩∧zdv q.j q.a=true∧zdv q.x q.a=true∧zdv q.x q.p=true∧q.a ≠ q.p:=by
 obtain ⟨d1,op1,ty1,p1,f1,g1⟩:=o;obtain ⟨d2,op2,ty2,p2,f2,g2⟩:=i;obtain ⟨d3,op3,ty3,p3,f3,g3⟩:=s;unfold zlv at h;split at h
 ·rename_i c t' y j e q' x h1 h2 h3;simp only at h1 h2 h3;subst h1 h2 h3;split at h
  ·rename_i sv pv t t2 a p hc ha hty hd1 hd2;simp only at hd1 hd2;subst hd1 hd2;cases hb:(z0q y a&&z0q q' p&&zdv j a&&zdv x a&&zdv x p&&!Nat.beq a p&&Nat.beq t' t&&g1.isNone&&g2.isNone&&g3.isNone&&d3.isNone) <;> simp only [hb] at h
   ·cases h
   ·cases h;simp only [ph,Bool.not_eq_true',Option.isNone_iff_eq_none] at hb;obtain ⟨⟨⟨⟨⟨⟨⟨⟨⟨⟨k1,k2⟩,k3⟩,k4⟩,k5⟩,k6⟩,k7⟩,k8⟩,k9⟩,k10⟩,k11⟩:=hb;subst k8 k9 k10 k11;have k7:=pg k7;subst k7;obtain rfl:=zrl k1;obtain rfl:=zrl k2;obtain ⟨callee,cargs,ctys⟩:=c;simp only at hc ha hty;subst hc;have e1:cargs = #[sv,pv]:=by apply Array.ext'; simpa using ha
    have e2:ctys = #[t',t2]:=by apply Array.ext'; simpa using hty
    subst e1 e2;exact ⟨_,_,_,_,_,_,_,_,_,rfl,rfl,rfl,k3,k4,k5,λ e=>by have e':a=p:=e; subst e'; simp at k6⟩
  ·cases h
 ·cases h
theorem zu5{P:Program}{t:Nat}(h:z3g P t=true):(match P.underlying t with | some (.int _)=>false | some _=>true | none=>false)=true:=h
theorem zuz(hi:Inv cx w σ μ){a:Act}{fr:Fr}(hf:FR w σ μ a.tmps fr)(hs:nt≤a.tmps.size){q:Pend}{K:Fr→St→Option R}{r:R}{o i s:Oper}(hq:zlv o i s=some q)(h:zhz cx nt σ fr q K=some r) :
  ∃ fr' σ',K fr' σ'=some r∧∃ v1 v2 w1 w' μ',(execOp a.eval o).run cx.P w=.ok (.value v1) w1∧(execOp (a.put o.dst v1).eval i).run cx.P w1=.ok (.value v2) w1 ∧
   (execOp ((a.put o.dst v1).put i.dst v2).eval s).run cx.P w1=.ok .skip w'∧After cx w σ μ w' σ' μ'∧FR w' σ' μ' (((a.put o.dst v1).put i.dst v2).put s.dst undef).tmps fr' ∧
   (∀ w2,(execOp (a.put o.dst v1).eval i).run cx.P w2=.ok (.value v2) w2)∧∃ b ncs id n,zi σ' id=some (.tok n)∧(μ' id).blk=some b∧w'=w1.setRow b ncs ∧
    ∀ w2:World,w2.heap[b]?=w1.heap[b]?→(execOp ((a.put o.dst v1).put i.dst v2).eval s).run cx.P w2=.ok .skip (w2.setRow b ncs):=by
 obtain ⟨ty1,p1,f1,ty2,p2,f2,ty3,p3,f3,rfl,rfl,rfl,hj,hx1,hx2,hap⟩:=zh0 hq;unfold zhz at h;obtain ⟨hlt,h0⟩:=ze h;clear h;rw [ph] at hlt;split at h0
 case h_2=>cases h0
 rename_i e hu;obtain ⟨hc,h1⟩:=ze h0;clear h0;simp only [ph] at hc;obtain ⟨⟨⟨⟨he,hty⟩,hby⟩,hz⟩,hni⟩:=hc;have he:=pg he;subst he;obtain ⟨z,hz⟩:=Option.isSome_iff_exists.1 hz;obtain ⟨sv,hsv,h2⟩:=zd h1;clear h1;obtain ⟨pl,hpl,h3⟩:=zd h2;clear h2;obtain ⟨jv,hjv,h4⟩:=zd h3;clear h3;obtain ⟨v,hv,h5⟩:=zd h4;clear h4;obtain ⟨y,hy,h6⟩:=zd h5;clear h5;split at h6
 case h_2=>cases h6
 rename_i sz l id k n;split at h6
 case h_2=>cases h6
 rename_i kk hid;obtain ⟨hc,h7⟩:=ze h6;clear h6;simp only [ph,decide_eq_true_eq,Bool.not_eq_true'] at hc;obtain ⟨⟨⟨⟨⟨⟨hsz,hT⟩,hkk⟩,hn⟩,hle⟩,hyc⟩,htup⟩:=hc;have hsz:=pg hsz;have hyc:=pg hyc;subst hkk hn;obtain ⟨sz',ps,hd,h8⟩:=zg6 h7;clear h7;obtain ⟨hc,h⟩:=ze h8;clear h8;rw [ph] at hc;have hsz':=pg hc.1;have hps:=pg hc.2;have rs:=wy (t:=q.t) hf hsv;have rp:=wy (t:=q.t2) hf hpl;have rj:=x5 hf hjv;have rv:=wy (t:=q.e) hf hv;have hyr:=zf7 rv hy;have hcells:=V.cells_ok (RV.d _ _ hyr);have hvd:RDs w (zr σ μ) (a.eval q.x).cells.toList y.cells:=by
  have:(V.d y).cells=y.cells.map .d:=by cases y <;> rfl
  rw [this] at hcells;exact hcells.rd
 have hone:=V.cells_one (RV.d _ _ hyr) rfl;obtain ⟨b,oo,cap,w1,w',lo,g1,g2,g3,g4,g5,g6,ncs,g7,g8⟩:=z6r (ty:=ty1) hi rs rp hd hps hvd hone hyc hu hz (zu5 hni) (.inl hsz') hsz (zy0 hT) (pq hby) hid hle;have haf:=g3.after hi g4;have hjint:a.eval q.j=.int k (l.length:Int):=rj.int_inv;have hidx:∀ w2:World,(execOp (a.put (some q.a) (.slice (some ⟨b,oo,none⟩) (l.length+1) cap)).eval ⟨some q.p,.indexAddr q.t (.tmp q.a) q.j,ty2,p2,f2,none⟩).run cx.P w2=.ok (.value (.pointer (some ⟨b,oo+l.length * cx.P.cellsOf q.e,none⟩))) w2:=by
  intro w2;simp only [execOp];refine vv ?_;rw [zgq hj,hjint];have hsl:(a.put (some q.a) (.slice (some ⟨b,oo,none⟩) (l.length+1) cap)).eval (.tmp q.a)=.slice (some ⟨b,oo,none⟩) (l.length+1) cap:=by
   have:q.a<a.tmps.size:=Nat.lt_of_lt_of_le (pq hlt.1) hs;simp [Act.eval,Act.put,Array.getD_eq_getD_getElem?,this]
  rw [hsl];have:=run_indexAt_slice (w:=w2) (k:=k) (i:=(l.length:Int)) (b:=b) (o:=oo) (n:=l.length+1) (cap:=cap) hu (by omega) (by omega) (qf hty)
  simpa using this
 have hput:∀ w2 w3:World,(storeCells ⟨b,oo+l.length * cx.P.cellsOf q.e,none⟩ (a.eval q.x).cells.toList).run cx.P w2=.ok () w3 →
   (execOp ((a.put (some q.a) (.slice (some ⟨b,oo,none⟩) (l.length+1) cap)).put (some q.p) (.pointer (some ⟨b,oo+l.length * cx.P.cellsOf q.e,none⟩))).eval ⟨none,.store q.e (.tmp q.p) q.x,ty3,p3,f3,none⟩).run cx.P w2=.ok .skip w3:=by
  intro w2 w3 hst;simp only [execOp];refine zy4 ?_;rw [zgq hx2,zgq hx1];have hpp:((a.put (some q.a) (.slice (some ⟨b,oo,none⟩) (l.length+1) cap)).put (some q.p) (.pointer (some ⟨b,oo+l.length * cx.P.cellsOf q.e,none⟩))).eval (.tmp q.p)=.pointer (some ⟨b,oo+l.length * cx.P.cellsOf q.e,none⟩):=by
   have:q.p<a.tmps.size:=Nat.lt_of_lt_of_le (pq hlt.2) hs;simp [Act.eval,Act.put,Array.getD_eq_getD_getElem?,this]
  rw [hpp];obtain ⟨dd,hdd⟩:=za2 hty;unfold Instr.storeAt Instr.sureAddr storeVar;have hcs:(a.eval q.x).cells.size=cx.P.cellsOf q.e:=by have:=hvd.1; simp at this; omega
  simp [run_sizeOf hdd,hcs,hst]
 refine ⟨_,_,h,.slice (some ⟨b,oo,none⟩) (l.length+1) cap,.pointer (some ⟨b,oo+l.length * cx.P.cellsOf q.e,none⟩),w1,w',_,?_,hidx w1,hput w1 w' g2,haf,?_,hidx,
  b,ncs,id,l.length+1,by simp [zq],by simp [setMu,g6],g7,λ w2 h2=>hput w2 _ (g8 w2 h2)⟩
 ·simp only [execOp,resolve,invoke,builtin];simp [Sem.run_bind,g1]
 ·have hptr:RV w' (qn σ id (.tok (l.length+1))) (setMu μ id lo) (.pointer (some ⟨b,oo+l.length * cx.P.cellsOf q.e,none⟩)) (.eptr y 0):=by
   have hrd:=g5.slD;rw [hsz] at hrd;obtain ⟨b',o',n',cap',xs,he,_,hyl,hc1,hr1⟩:=hrd.slot (j:=l.length) (y:=y) (by simp)
   cases he;exact .eptr y b _ 0 xs (λ k hk=>hc1 k (by omega)) hr1
  exact FR.put (dst:=some q.p) (a:=a.put (some q.a) (.slice (some ⟨b,oo,none⟩) (l.length+1) cap)) (FR.put (dst:=some q.a) (haf.frs hi hf) hlt.1 hs g5) hlt.2 (by rw [qm]; exact hs) hptr
theorem z2f{P:Program}{arr:Array Oper}{Q:Exit→Act→World→Prop}{k:Nat}{o i s:Oper}{l:List Oper}{a:Act}{w w1 w':World}{v1 v2:Value}(hdrop:arr.toList.drop k=o::i::s::l)
  (hg:o.guard=none∧i.guard=none∧s.guard=none) (h1:(execOp a.eval o).run P w=.ok (.value v1) w1) (h2:(execOp (a.put o.dst v1).eval i).run P w1=.ok (.value v2) w1)
  (h3:(execOp ((a.put o.dst v1).put i.dst v2).eval s).run P w1=.ok .skip w') (h:wpOps P arr Q ((List.range arr.size).drop (k+3)) (((a.put o.dst v1).put i.dst v2).put s.dst undef) w') :
  wpOps P arr Q ((List.range arr.size).drop k) a w:=by
 have hlen:k+3≤arr.size:=by have:=congrArg List.length hdrop; simp at this; omega
 have ho:arr[k]?=some o:=by have:=congrArg (·[0]?) hdrop; simpa using this
 have hi:arr[k+1]?=some i:=by have:=congrArg (·[1]?) hdrop; simpa using this
 have hs:arr[k+2]?=some s:=by have:=congrArg (·[2]?) hdrop; simpa using this
 have hd:(List.range arr.size).drop k=k::(k+1)::(k+2)::(List.range arr.size).drop (k+3):=by
  rw [List.drop_eq_getElem_cons (by simp; omega),List.drop_eq_getElem_cons (by simp; omega),List.drop_eq_getElem_cons (by simp; omega)]
  simp
 rw [hd];simp only [wpOps,ho,hi,hs];rw [if_pos (by simp [Region.wanted,hg.1])]
 left;unfold Oper.wp;rw [h1,Oper.upon_value,if_pos (by simp [Region.wanted,hg.2.1])]
 left;rw [h2,Oper.upon_value,if_pos (by simp [Region.wanted,hg.2.2])]
 left;rw [h3,Oper.upon_skip];exact h
theorem zqn{o i s:Oper}{q:Pend}(h:zlv o i s=some q):o.guard=none∧i.guard=none∧s.guard=none:=by
 obtain ⟨ty1,p1,f1,ty2,p2,f2,ty3,p3,f3,rfl,rfl,rfl,_⟩:=zh0 h;exact ⟨rfl,rfl,rfl⟩
theorem zrc(a:Act)(x y z:Option Nat)(u v t:Value):(((a.put x u).put y v).put z t).tmps.size=a.tmps.size∧(((a.put x u).put y v).put z t).defers=a.defers:=by
 rw [qm,qm,qm,w9,w9,w9];exact ⟨rfl,rfl⟩
theorem z06{arr:Array Oper}{Q:Exit→Act→World→Prop}{k:Nat}{fr:Fr}{K:List Oper→Fr→St→Option R}{r:R}(h:zfr cx nt arr.toList k fr σ K=some r){a:Act}(hnow:Now cx nt ds w₀ σ₀ μ₀ a w σ μ fr)
  (hnext:∀ l fr' σ',K l fr' σ'=some r→arr.toList.drop (k+3)=l→∀ a w μ,Now cx nt ds w₀ σ₀ μ₀ a w σ' μ fr'→wpOps cx.P arr Q ((List.range arr.size).drop (k+3)) a w) :
  wpOps cx.P arr Q ((List.range arr.size).drop k) a w:=by
 unfold zfr at h;split at h
 case h_2=>cases h
 rename_i o i s l hdrop;obtain ⟨q,hq,h⟩:=zd h;obtain ⟨fr',σ',hK,v1,v2,w1,w',μ',g1,g2,g3,haf,hf,_⟩:=zuz hnow.after.inv hnow.fr hnow.size hq h;refine z2f hdrop (zqn hq) g1 g2 g3 (hnext l fr' σ' hK ?_ _ _ μ' ⟨hnow.after.trans haf,hf,?_,?_⟩)
 ·rw [←List.drop_drop,hdrop]; rfl
 ·rw [(zrc ..).1]; exact hnow.size
 ·rw [(zrc ..).2]; exact hnow.defers
end
section
variable {R:Type} {cx:Cx} {σ σ':St}
theorem zci{P:Program}{t:Nat}{fr fr':Fr}{x:Operand}(h:opd fr' x=opd fr x):zem P t fr' x=zem P t fr x:=by
 unfold zem;split
 ·rfl
 ·exact h
theorem zta{P:Program}{t:Nat}{fr fr':Fr}:∀ {ps:List (Nat×Operand)},(∀ p∈ps,opd fr' p.2=opd fr p.2)→zko P fr' t ps=zko P fr t ps
 | [],_=>rfl
 | (i,x)::ps,h=>by
  simp only [zko];rw [zci (h (i,x) pn),zta λ p hp=>h p (pp _ hp)]
theorem zi4{P:Program}{fr fr':Fr}:∀ {xs:List Operand} {ts:List Nat},(∀ x∈xs,opd fr' x=opd fr x)→zag P fr' xs ts=zag P fr xs ts
 | [],_,_=>rfl
 | x::xs,ts,h=>by
  simp only [zag];rw [zci (h x pn),zi4 λ p hp=>h p (pp _ hp)]
theorem zqb{P:Program}{fr fr':Fr}{id:Nat}:∀ {xs:List Operand} {ts:List Nat},(∀ x∈xs,opd fr' x=opd fr x)→zbv P fr' id xs ts=zbv P fr id xs ts
 | [],_,_=>rfl
 | x::xs,ts,h=>by
  have e:=zqb (P:=P) (id:=id) (ts:=ts.tail) λ p hp=>h p (pp _ hp);have e2:=h x pn;simp only [zbv];rw [e];cases zbv P fr id xs ts.tail with
  | none=>rfl
  | some l=>
   simp only;split
   ·rfl
   ·rw [e2]
theorem ztb{fr fr':Fr}{x:Option Operand}(h:∀ y∈x,opd fr' y=opd fr y){K:Option V→Option R}:zgp fr' x K=zgp fr x K:=by
 cases x with
 | none=>rfl
 | some x=>simp only [zgp,h x rfl]
theorem zzx{m nt : Nat}{call : Nat → List V → St → Option (Out × St)}{o : Oper}{fr fr' : Fr}(h : ∀ x ∈ o.op.operands, opd fr' x = opd fr x){K : Oc → De → List Nat → Option R} :
    wa cx m nt call o fr' σ K = wa cx m nt call o fr σ K := by
  obtain ⟨dst, op, type, pos, after, guard⟩ := o;cases op <;> simp only [Op.operands] at h
  case move x | assign x =>
    simp only [wa];split
    · rfl
    · rw [h x (by simp)]
  case makeFunc fn first caps =>
    cases fn <;> simp only [wa];rw [zi4 λ x hx => h x (by simp at hx; simp [hx]), zi4 λ x hx => h x (by simp at hx; simp [hx])]
  case makeMap t r => cases r <;> simp only [wa]
  case makeSlice t n c => simp only [wa]; rw [h n (by simp), h c (by simp)]
  case lookup t x i ok => simp only [wa]; rw [h x (by simp), h i (by simp)]
  case mapUpdate t mm k x | insert t mm k x => simp only [wa]; rw [h mm (by simp), h k (by simp), zci (h x (by simp))]
  case build t ps => simp only [wa]; rw [zta λ p hp => h p.2 (by simp; exact ⟨p.1, by simpa using hp⟩)]
  case buildSlice t n ps => simp only [wa]; rw [zta λ p hp => h p.2 (by simp; exact ⟨p.1, by simpa using hp⟩)]
  case box t x => simp only [wa]; rw [zci (h x (by simp))]
  case store t p x => simp only [wa]; rw [h p (by simp), zci (h x (by simp))]
  case binOp op t x y u => simp only [wa]; rw [zci (h x (by simp)), zci (h y (by simp))]
  case convert s t x => simp only [wa]; rw [zci (h x (by simp))]
  case makeInterface t x => simp only [wa]; rw [zci (h x (by simp))]
  case slice t x lo hi mx =>
    simp only [wa];have e1 : ∀ {K : Option V → Option R}, zgp fr' lo K = zgp fr lo K := ztb λ y hy => h y (by cases hy; simp)
    have e2 : ∀ {K : Option V → Option R}, zgp fr' hi K = zgp fr hi K := ztb λ y hy => h y (by cases hy; simp)
    have e3 : ∀ {K : Option V → Option R}, zgp fr' mx K = zgp fr mx K := ztb λ y hy => h y (by cases hy; simp)
    simp only [zci (h x (by simp)), e1, e2, e3]
  case call c =>
    obtain ⟨callee, cargs, ctypes⟩ := c;simp only [Call.operands] at h;cases callee with
    | value f =>
      simp only [wa];rw [h f (by simp)]
      have e : ∀ {ts}, zag cx.P fr' cargs.toList ts = zag cx.P fr cargs.toList ts := zi4 λ x hx => h x (by simp at hx; simp [hx])
      have e' : ∀ {id ts}, zbv cx.P fr' id cargs.toList ts = zbv cx.P fr id cargs.toList ts := zqb λ x hx => h x (by simp at hx; simp [hx])
      have e2 : ∀ {site g cap} {K : Oc → De → List Nat → Option R}, zjb cx σ site g cap cargs.toList fr' K = zjb cx σ site g cap cargs.toList fr K := by
        intro site g cap K;unfold zjb;split
        · rename_i y hy
          rw [h y (by have : y ∈ cargs.toList := by rw [hy]; simp
                      simp at this; simp [this])]
        · rfl
      simp only [e, e', e2]
    | invoke r nm => simp only [wa]
    | builtin b =>
      have e : ∀ x ∈ cargs.toList, ∀ {P t}, zem P t fr' x = zem P t fr x := λ x hx {P t} => zci (h x (by simp at hx; simp [hx]))
      cases b <;> simp only [wa]
      · split
        · rename_i s x t t' hx ht;rw [e s (by rw [hx]; simp), e x (by rw [hx]; simp)]
        · rfl
      · split
        · rename_i x t hx ht;rw [e x (by rw [hx]; simp)]
        · rfl
  all_goals simp only [wa]
  all_goals first | rfl | skip
  all_goals (simp only [Array.mem_def, List.mem_cons, List.not_mem_nil, or_false, forall_eq_or_imp, forall_eq] at h)
  all_goals first | (simp only [h]; done) | (simp only [h.1, h.2]; done) | (simp only [h.1, h.2.1, h.2.2]; done)
end
section
variable {R:Type} {cx:Cx} {σ σ':St}
def agree(S:List Nat)(σ σ':St):Prop:=∀ i∈S,zi σ' i=zi σ i
theorem z27{S:List Nat}(ha:agree S σ σ')(hc:∀ i∈S,∃ o,zi σ i=some o∧∀ j∈o.ids,j∈S) :
  ∀ (n:Nat) (todo seen:List Nat),(∀ i∈todo,i∈S)→reach σ' n todo seen=reach σ n todo seen:=by
 intro n
 induction n with
 | zero=>intro todo seen _; rfl
 | succ n ih=>
  intro todo seen ht;cases todo with
  | nil=>rfl
  | cons i todo=>
   have hi:=ht i pn;have htl:∀ j∈todo,j∈S:=λ j hj=>ht j (pp _ hj);simp only [reach];rw [ha i hi];obtain ⟨o,ho,hids⟩:=hc i hi;rw [ho];cases seen.elem i
   ·simp only [cond_false];exact ih _ _ λ j hj=>by
     rcases List.mem_append.1 hj with h | h
     ·exact hids j h
     ·exact htl j h
   ·exact ih _ _ htl
theorem zn6(full:List Nat):∀ (ren:List Nat) (k:Nat),agree ren σ σ'→xr σ' full k ren=xr σ full k ren
 | [],_,_=>rfl
 | i::r,k,h=>by
  simp only [xr,h i pn];split
  ·rw [zn6 full r (k+1) λ j hj=>h j (pp _ hj)]
  ·exact zn6 full r (k+1) λ j hj=>h j (pp _ hj)
theorem zsr{full:List Nat}{τ:St}:∀ (ren:List Nat) (k:Nat) {K:De→Option R},agree ren σ σ'→zbi full σ' τ k ren K=zbi full σ τ k ren K
 | [],_,_,_=>rfl
 | i::r,k,K,h=>by
  have e:∀ K:De→Option R,zbi full σ' τ (k+1) r K=zbi full σ τ (k+1) r K:=λ K=>zsr r (k+1) λ j hj=>h j (pp _ hj);simp only [zbi,h i pn,e]
theorem zym{α:Type}{l:List α}{f g:α→Bool}(h:∀ x∈l,f x=g x):l.all f=l.all g:=by
 induction l with
 | nil=>rfl
 | cons a l ih=>simp only [List.all_cons]; rw [h a pn,ih λ x hx=>h x (pp _ hx)]
theorem zwk{ids:List Nat}{ren:List Nat}(h:agree ren σ σ'):closedIn σ' ids ren=closedIn σ ids ren:=by
 unfold closedIn;congr 1;exact zym λ i hi=>by rw [h i hi]
abbrev Tri:=Oc×De×List Nat
theorem zpu{call:Nat→List V→St→Option (Out×St)}{t f:Nat}{args:List V}{xs:List Nat}{p:Tri}(h:qt cx call σ t f args xs (λ oc δ fp=>some (oc,δ,fp))=some p)(ha:agree p.2.2 σ σ') :
  qt cx call σ' t f args xs (λ oc δ fp=>some (oc,δ,fp))=some p:=by
 have hfp:reach σ 1000 (V.idsL args++xs) []=p.2.2:=by
  unfold qt at h;obtain ⟨_,h⟩:=ze h;obtain ⟨_,h⟩:=ze h;split at h
  ·obtain ⟨δ,h1,_⟩:=zei _ _ h;obtain ⟨u,h2,_⟩:=zpt h1;cases h2; rfl
  ·obtain ⟨δ,h1,_⟩:=zei _ _ h;cases h1; rfl
  ·cases h
 unfold qt at h ⊢;simp only [hfp] at h ⊢;obtain ⟨hc,h⟩:=ze h;obtain ⟨_,hargs,hcl⟩:=zft hc;obtain ⟨hdom,h⟩:=ze h;rw [z27 ha hcl 1000 _ _ hargs,hfp,zwk ha,hc,hdom];simp only [zn6 _ _ _ ha,zsr _ _ ha];exact h
theorem zfg:∀ {δ:De},agree (δ.map (·.1)) σ σ'→yi σ' δ=yi σ δ
 | [],_=>rfl
 | (i,o)::δ,h=>by
  simp only [yi];rw [h i (by simp),zfg (δ:=δ) λ j hj=>h j (by simp at hj ⊢; exact .inr hj)]
theorem zae{i:Nat}{o:Ob}(h:zi σ' i=zi σ i):yi σ' [(i,o)]=yi σ [(i,o)]:=zfg (by intro j hj; simp at hj; subst hj; exact h)
theorem z3r{t:Nat}{q:V}{p:Tri}(h:zeo cx σ t q (λ v fp=>some (Oc.val v,([]:De),fp))=some p)(ha:agree p.2.2 σ σ') :
  zeo cx σ' t q (λ v fp=>some (Oc.val v,([]:De),fp))=some p:=by
 cases q with
 | ptr id off=>
  have:zi σ' id=zi σ id:=by
   refine ha id ?_;unfold zeo at h;obtain ⟨_,h⟩:=ze h;simp only at h;split at h
   ·cases hb:(Nat.beq off 0&&Nat.beq _ (cx.P.cellsOf t)) <;> rw [hb] at h
    ·rw [cond_false] at h;cases ha:x6 cx.P t <;> rw [ha] at h
     ·obtain ⟨c,_,h⟩:=zis h;obtain ⟨u,h,_⟩:=zeh h;cases h; simp
     ·obtain ⟨_,h⟩:=ze h;cases h; simp
    ·obtain ⟨u,h,_⟩:=zeh h;cases h; simp
   ·cases h
  unfold zeo at h ⊢;simp only [this];exact h
 | wptr id sz k i off=>
  have:zi σ' id=zi σ id:=by
   refine ha id ?_;unfold zeo at h;obtain ⟨_,h⟩:=ze h;simp only at h;split at h
   ·obtain ⟨_,h⟩:=ze h;obtain ⟨x,_,h⟩:=zar h;cases ha:x6 cx.P t <;> rw [ha] at h
    ·obtain ⟨c,_,h⟩:=zar h;obtain ⟨u,h,_⟩:=zeh (v:=.d c) (K:=λ v=>some (Oc.val v,([]:De),[id])) (by simpa only [zdx] using h)
     cases h; simp
    ·obtain ⟨_,h⟩:=zdz _ _ h;cases h; simp
   ·cases h
  unfold zeo at h ⊢;simp only [this];exact h
 | _=>exact h
theorem z0e{t:Nat}{q v:V}{p:Tri}(h:zce cx σ t q v (λ δ fp=>some (Oc.val qu,δ,fp))=some p)(ha:agree p.2.2 σ σ') :
  zce cx σ' t q v (λ δ fp=>some (Oc.val qu,δ,fp))=some p:=by
 cases q with
 | ptr id off=>
  have:zi σ' id=zi σ id:=by
   refine ha id ?_;unfold zce at h;simp only at h;split at h
   ·cases hb:(Nat.beq off 0&&Nat.beq _ (cx.P.cellsOf t)) <;> rw [hb] at h
    ·rw [cond_false] at h;obtain ⟨_,h⟩:=ze h;cases h; simp
    ·obtain ⟨_,h⟩:=ze h;cases h; simp
   ·cases h
  unfold zce at h ⊢;simp only [this];exact h
 | wptr id sz k i off=>
  have:zi σ' id=zi σ id:=by
   refine ha id ?_;unfold zce at h;simp only at h;split at h
   ·obtain ⟨_,h⟩:=ze h;obtain ⟨y,_,h⟩:=zd h;obtain ⟨_,h⟩:=ze h;cases h; simp
   ·cases h
  unfold zce at h ⊢;simp only [this];exact h
 | _=>exact h
theorem z6j{t:Nat}{x:V}{p:Tri}(h:lenV cx σ t x (λ v fp=>some (Oc.val v,([]:De),fp))=some p)(ha:agree p.2.2 σ σ') :
  lenV cx σ' t x (λ v fp=>some (Oc.val v,([]:De),fp))=some p:=by
 unfold lenV at h ⊢;split at h <;> first | exact h | skip
 split at h
 ·rename_i ks vs hg;cases h;have:zi σ' _=zi σ _:=ha _ pn;rw [this,hg]
 ·cases h
theorem zyl{site t:Nat}{s x:V}{b:Bool}{p:Tri}(h:zfi cx σ site t s x b (λ v δ fp=>some (Oc.val v,δ,fp))=some p)(ha:agree p.2.2 σ σ') :
  zfi cx σ' site t s x b (λ v δ fp=>some (Oc.val v,δ,fp))=some p:=by
 unfold zfi at h ⊢;split at h <;> first | (cases h; done) | skip
 unfold dataOf at h ⊢;split at h <;> first | (cases h; done) | skip
 all_goals
  obtain ⟨hc,h⟩:=ze h;simp only [hc,zb,cond_true];cases b
  ·simp only [cond_false] at h ⊢;split at h
   ·rename_i id _;split at h
    ·rename_i n hg;obtain ⟨hc2,h⟩:=ze h;cases h;have:zi σ' _=zi σ _:=ha _ pn;rw [this,hg];simp only [hc2,cond_true]
    ·cases h
   ·rename_i id sz k;split at h
    ·rename_i l hg;obtain ⟨hc2,h⟩:=ze h;cases h;have:zi σ' _=zi σ _:=ha _ pn;rw [this,hg];simp only [hc2,cond_true]
    ·cases h
   ·cases h
  ·simp only [cond_true] at h ⊢;obtain ⟨hc2,h⟩:=ze h;cases h;rw [zae (ha _ pn),hc2];rfl
theorem z0v{P:Program}{e id:Nat}{vs:List D}{a b:V→V}{z:D}{o:Option (Option Nat)}{q:Tri}(h:(zc o λ o=>zjj o (λ i=>za vs i λ y=>zdl P e y λ v=>some (Oc.val (a v),([]:De),[id]))
  (some (Oc.val (b (.d z)),([]:De),[id])))=some q):q.2.2=[id]:=by
 obtain ⟨o,_,h⟩:=zd h;rcases zir h with ⟨i,_,h⟩ | ⟨_,h⟩
 ·obtain ⟨y,_,h⟩:=zar h;obtain ⟨u,h,_⟩:=zeh (v:=.d y) (K:=λ v=>some (Oc.val (a v),([]:De),[id])) (by simpa only [zdx] using h)
  cases h; rfl
 ·cases h; rfl
theorem zxd{t:Nat}{x k:V}{ok:Bool}{p:Tri}(h:zd4 cx σ t x k ok (λ v fp=>some (Oc.val v,([]:De),fp))=some p)(ha:agree p.2.2 σ σ') :
  zd4 cx σ' t x k ok (λ v fp=>some (Oc.val v,([]:De),fp))=some p:=by
 unfold zd4 at h ⊢;split at h
 ·rename_i kt e hu;obtain ⟨z,hz,q1⟩:=zd h;clear h;obtain ⟨key,rfl,q2⟩:=zcp q1;clear q1;obtain ⟨hty,h⟩:=ze q2;clear q2;simp only [hz,zc,asD,hty,zb,cond_true];split at h <;> first | exact h | skip
  rename_i id;split at h
  ·rename_i ks vs hg;have:=z0v (id:=id) (a:=λ v=>bif ok then V.tup [v,.d (.bool true)] else v) (b:=λ v=>bif ok then V.tup [v,.d (.bool false)] else v) h;rw [this] at ha;simp only [ha _ pn,hg];exact h
  ·cases h
 ·cases h
theorem zxa{t:Nat}{x k v:V}{p:Tri}(h:zd3 cx σ t x k v (λ δ fp=>some (Oc.val qu,δ,fp))=some p)(ha:agree p.2.2 σ σ') :
  zd3 cx σ' t x k v (λ δ fp=>some (Oc.val qu,δ,fp))=some p:=by
 unfold zd3 at h ⊢;split at h
 ·rename_i kt e hu;split at h
  ·rename_i id;split at h
   ·rename_i ks vs hg;obtain ⟨key,rfl,h⟩:=zcp h;obtain ⟨y,hy,h⟩:=zd h;obtain ⟨hty,h⟩:=ze h;obtain ⟨o,ho,h⟩:=zd h;have:zi σ' id=zi σ id:=by
     refine ha id ?_;rcases zir h with ⟨i,_,h⟩ | ⟨_,h⟩ <;> cases h <;> simp
    simp only [this,hg,asD,hy,zc,hty,zb,cond_true,ho];exact h
   ·cases h
  ·cases h
 ·cases h
theorem zqo{site t:Nat}{l c:V}{p:Tri}(h:qy cx σ site t l c (λ v δ fp=>some (Oc.val v,δ,fp))=some p)(ha:agree p.2.2 σ σ') :
  qy cx σ' site t l c (λ v δ fp=>some (Oc.val v,δ,fp))=some p:=by
 unfold qy at h ⊢;split at h
 ·obtain ⟨z,hz,h⟩:=zd h;obtain ⟨hc,h⟩:=ze h;cases h;simp only [hz,zc];rw [zae (ha _ pn),hc];rfl
 ·cases h
theorem z2n{v:V}{p:Tri}(h:zi7 σ v (λ v δ fp=>some (Oc.val v,δ,fp))=some p)(ha:agree p.2.2 σ σ') :
  zi7 σ' v (λ v δ fp=>some (Oc.val v,δ,fp))=some p:=by
 unfold zi7 at h ⊢;split at h
 ·split at h
  ·rename_i l hg;obtain ⟨hc,h⟩:=ze h;cases h;rw [ha _ pn,hg];simp only [hc,zb,cond_true]
  ·cases h
 ·cases h
theorem zmk{v:Option V}{y d:Nat}{K:Nat→Option R}{r:R}(h:bound v y d K=some r):∃ n,K n=some r∧∀ (R':Type) (K':Nat→Option R'),bound v y d K'=K' n:=by
 unfold bound at h ⊢;split at h
 ·exact ⟨_,h,λ _ _=>rfl⟩
 ·obtain ⟨hc,h⟩:=ze h;exact ⟨_,h,λ _ _=>by simp only [hc,zb,cond_true]⟩
 ·cases h
theorem z0h{site t:Nat}{x:V}{lo hi mx:Option V}{p:Tri}(h:zgi cx σ site t x lo hi mx (λ v δ fp=>some (Oc.val v,δ,fp))=some p)(ha:agree p.2.2 σ σ') :
  zgi cx σ' site t x lo hi mx (λ v δ fp=>some (Oc.val v,δ,fp))=some p:=by
 unfold zgi at h ⊢;split at h <;> first | exact h | skip
 obtain ⟨h1,h⟩:=ze h;simp only [h1,zb,cond_true];unfold znd at h ⊢;split at h <;> first | (cases h; done) | skip
 all_goals
  obtain ⟨h2,h⟩:=ze h;simp only [h2,zb,cond_true];split at h <;> first | exact h | skip
  obtain ⟨h3,h⟩:=ze h;simp only [h3,zb,cond_true];obtain ⟨n1,h,e1⟩:=zmk h;obtain ⟨n2,h,e2⟩:=zmk h;obtain ⟨n3,h,e3⟩:=zmk h;rw [e1,e2,e3];cases hb:Nat.beq n1 n3 <;> rw [hb] at h
  ·exact h
  ·rw [cond_true] at h ⊢;obtain ⟨h4,h⟩:=ze h;cases h;rw [zae (ha _ pn),h4];rfl
theorem zog{fr:Fr}{x:Option Operand}{K:Option V→Option R}{r:R}(h:zgp fr x K=some r):∃ v,K v=some r∧∀ (R':Type) (K':Option V→Option R'),zgp fr x K'=K' v:=by
 unfold zgp at h ⊢;split at h
 ·exact ⟨_,h,λ _ _=>rfl⟩
 ·obtain ⟨v,hv,h⟩:=zd h;exact ⟨_,h,λ _ _=>by simp only [hv,zc]⟩
theorem z6t{m nt:Nat}{call:Nat→List V→St→Option (Out×St)}{o:Oper}{fr:Fr}{p:Tri}(h:zbo cx m nt call o fr σ=some p)(ha:agree p.2.2 σ σ') :
  zbo cx m nt call o fr σ'=some p:=by
 unfold zbo at h ⊢;obtain ⟨dst,op,type,pos,after,guard⟩:=o;cases op
 case makeFunc fn first caps=>cases fn <;> exact h
 case makeMap t r=>
  cases r <;> simp only [wa] at h ⊢
  ·obtain ⟨hc,h⟩:=ze h;cases h;rw [zae (ha _ pn),hc];rfl
  ·cases h
 case move x | assign x=>
  simp only [wa] at h ⊢;split at h
  ·split at h <;> first | exact h | skip
   split at h
   ·rename_i hg;cases hown:cx.own nt (dst.getD 0) <;> rw [hown] at h <;> cases h <;> rw [ha _ pn,hg] <;> rfl
   ·rename_i hg;cases h;rw [ha _ pn,hg]
  ·obtain ⟨v,hv,h⟩:=zd h;simp only [hv,zc];cases hth:cx.thaw nt (dst.getD 0) <;> rw [hth] at h
   ·exact h
   ·exact z2n h ha
 case alloc e=>
  simp only [wa] at h ⊢;obtain ⟨z,hz,h⟩:=zd h;simp only [hz,zc];obtain ⟨hc,h⟩:=ze h;cases h;rw [zfg ha,hc];rfl
 case box e x=>
  simp only [wa] at h ⊢;obtain ⟨z,hz,h⟩:=zd h;simp only [hz,zc];obtain ⟨hc,h⟩:=ze h;cases h;rw [zae (ha _ pn),hc];rfl
 case build t ps=>
  simp only [wa] at h ⊢;cases hty:cx.typed nt (dst.getD 0)
  ·rw [hty] at h; exact h
  ·rw [hty] at h;simp only [cond_true] at h ⊢;obtain ⟨z,hz,h⟩:=zd h;simp only [hz,zc];obtain ⟨hc,h⟩:=ze h;cases h;rw [zfg ha,hc];rfl
 case buildSlice t n ps=>
  simp only [wa] at h ⊢;split at h
  ·obtain ⟨z,hz,h⟩:=zd h;obtain ⟨l,hl,h⟩:=zd h;obtain ⟨xs,hx,h⟩:=zd h;obtain ⟨hc,h⟩:=ze h;cases hbare:ztq cx nt dst ps.toList <;> rw [hbare] at h <;> cases hown:cx.own nt (dst.getD 0) <;> rw [hown] at h <;>
   ·cases h;simp only [hz,hl,hx,zc];rw [zae (ha _ pn),hc];rfl
  ·cases h
 case makeSlice t n c=>
  simp only [wa] at h ⊢;obtain ⟨z,hz,h⟩:=zd h;obtain ⟨y,hy,h⟩:=zd h;simp only [hz,hy,zc];exact zqo h ha
 case lookup t x i ok=>
  simp only [wa] at h ⊢;obtain ⟨z,hz,h⟩:=zd h;obtain ⟨y,hy,h⟩:=zd h;simp only [hz,hy,zc];exact zxd h ha
 case mapUpdate t mm k x | insert t mm k x=>
  simp only [wa] at h ⊢;obtain ⟨z,hz,h⟩:=zd h;obtain ⟨y,hy,h⟩:=zd h;obtain ⟨q,hq,h⟩:=zd h;simp only [hz,hy,hq,zc];exact zxa h ha
 case load t q=>
  simp only [wa] at h ⊢;obtain ⟨z,hz,h⟩:=zd h;simp only [hz,zc];exact z3r h ha
 case store t q x=>
  simp only [wa] at h ⊢;obtain ⟨z,hz,h⟩:=zd h;obtain ⟨v,hv,h⟩:=zd h;obtain ⟨hc,h⟩:=ze h;simp only [hz,hv,hc,zc,zb,cond_true];exact z0e h ha
 case convert s t x=>
  simp only [wa] at h ⊢;obtain ⟨v,hv,h⟩:=zd h;simp only [hv,zc];split at h
  ·split at h
   ·rename_i hu hg;obtain ⟨hc,h⟩:=ze h;cases h;rw [hu,ha _ pn,hg];simp only [hc,zb,cond_true]
   ·cases h
  ·rename_i hno;cases hun:z3y cx.P s t <;> rw [hun] at h
   ·exact h
   ·simp only [cond_true] at h ⊢;unfold zpq at h ⊢;split at h
    ·split at h
     ·rename_i hg;obtain ⟨hc,h⟩:=ze h;cases h;rw [ha _ pn,hg];simp only [hc,zb,cond_true]
     ·cases h
    ·cases h
 case slice t x lo hi mx=>
  simp only [wa] at h ⊢;obtain ⟨v,hv,h⟩:=zd h;simp only [hv,zc];obtain ⟨v1,h,e1⟩:=zog h;obtain ⟨v2,h,e2⟩:=zog h;obtain ⟨v3,h,e3⟩:=zog h;rw [e1,e2,e3];exact z0h h ha
 case call c=>
  obtain ⟨callee,cargs,ctypes⟩:=c;cases callee with
  | value f=>
   simp only [wa] at h ⊢;obtain ⟨v,hv,h⟩:=zd h;simp only [hv,zc];split at h
   ·rename_i g first
    obtain ⟨l,hl,h⟩:=zd h;simp only [hl];exact zpu h ha
   ·rename_i g cap
    have wrap:∀ {l:List V} {xs:List Nat},yi σ [(m+dst.getD 0,Ob.tok 0)]=true →
      (qt cx call (qn σ (m+dst.getD 0) (.tok 0)) type g l xs λ oc δ fp=>some (oc,(m+dst.getD 0,Ob.tok 0)::δ,(m+dst.getD 0)::fp))=some p →
      (zb (yi σ' [(m+dst.getD 0,Ob.tok 0)]) (qt cx call (qn σ' (m+dst.getD 0) (.tok 0)) type g l xs λ oc δ fp=>some (oc,(m+dst.getD 0,Ob.tok 0)::δ,(m+dst.getD 0)::fp)))=some p:=by
     intro l xs hfr h
     have e:∀ τ:St,(qt cx call (qn τ (m+dst.getD 0) (.tok 0)) type g l xs λ oc δ fp=>some (oc,(m+dst.getD 0,Ob.tok 0)::δ,(m+dst.getD 0)::fp)) =
       zc (qt cx call (qn τ (m+dst.getD 0) (.tok 0)) type g l xs λ oc δ fp=>some (oc,δ,fp)) λ p=>some (p.1,(m+dst.getD 0,Ob.tok 0)::p.2.1,(m+dst.getD 0)::p.2.2):=λ τ=>(zjx (σ:=qn τ (m+dst.getD 0) (.tok 0)) call type g l xs (λ oc δ fp=>some (oc,δ,fp)) (λ p:Tri=>some (p.1,(m+dst.getD 0,Ob.tok 0)::p.2.1,(m+dst.getD 0)::p.2.2))).symm
     rw [e] at h;obtain ⟨q,hq,h⟩:=zd h;cases h;have hfr':yi σ' [(m+dst.getD 0,Ob.tok 0)]=true:=by
      have:=ha (m+dst.getD 0) pn;unfold yi at hfr ⊢;rw [this]; exact hfr
     rw [hfr',e,zpu hq (σ':=qn σ' (m+dst.getD 0) (.tok 0)) λ i hi=>by
      rw [zq,zq,ha i (pp _ hi)]]
     rfl
    cases hgr:(cx.grow g).isSome <;> rw [hgr] at h <;> simp only [cond_true,cond_false] at h ⊢
    rotate_left
    ·unfold zjb at h ⊢;split at h
     ·rename_i y hargs;obtain ⟨e,he,h⟩:=zd h;obtain ⟨v,hv,h⟩:=zd h;simp only [hargs,he,hv,zc];split at h
      ·obtain ⟨hc,h⟩:=ze h;cases h;rw [zae (ha _ pn),hc];rfl
      ·cases h
     ·cases h
    cases hsm:(zh5 cx.P g&&cap.isEmpty) <;> rw [hsm] at h <;> simp only [cond_true,cond_false] at h ⊢
    rotate_left
    ·obtain ⟨l,hl,h⟩:=zd h;simp only [hl];exact h
    cases hgv:cx.gives g <;> rw [hgv] at h
    ·cases hnil:(cx.keep g&&zjq cargs.toList) <;> rw [hnil] at h
     ·obtain ⟨l,hl,h⟩:=zd h;simp only [hl,cond_false];exact zpu h ha
     ·obtain ⟨l,hl,h⟩:=zd h;obtain ⟨hfr,h⟩:=ze h;simp only [hl,cond_true,cond_false];exact wrap hfr h
    ·obtain ⟨l,hl,h⟩:=zd h;obtain ⟨hfr,h⟩:=ze h;simp only [hl,cond_true];exact wrap hfr h
   ·cases h
  | invoke r nm=>exact h
  | builtin b=>
   cases b <;> first | exact h | skip
   ·simp only [wa] at h ⊢;split at h
    ·obtain ⟨v,hv,h⟩:=zd h;obtain ⟨u,hu,h⟩:=zd h;obtain ⟨hc,h⟩:=ze h;simp only [hv,hu,zc,hc,zb,cond_true];exact zyl h ha
    ·cases h
   ·simp only [wa] at h ⊢;split at h
    ·obtain ⟨v,hv,h⟩:=zd h;simp only [hv,zc];exact z6j h ha
    ·cases h
 all_goals exact h
end
section
variable {R:Type} {cx:Cx} {w:World} {σ σ':St} {μ:Mu}
def wl(σ σ':St):Prop:=∀ i,zi σ' i=zi σ i
theorem wl.own(h:wl σ σ'):zr σ' μ=zr σ μ:=by
 funext b i;simp only [zr,Mine,h _]
theorem wl.after(h:wl σ σ')(hi:Inv cx w σ μ):After cx w σ μ w σ' μ:=by
 have hown:=h.own (μ:=μ);have hst:Stays w (zr σ μ) w (zr σ' μ):=by rw [hown]; exact Stays.refl _ _
 have hstill:∀ id o,zi σ id=some o→y7 μ id o μ (zi σ' id):=λ id o ho=>by rw [h id,ho]; exact y7.refl μ id o
 have rv:∀ v x,RV w σ μ v x→RV w σ' μ v x:=λ v x hv=>hv.stays hst λ id _ o ho=>hstill id o ho;have hm:Mine σ' μ=Mine σ μ:=by funext b i; simp only [Mine,h _]
 refine ⟨⟨λ id o ho=>?_,λ id id' o o' b i ho ho'=>hi.apart id id' o o' b i (h id ▸ ho) (h id' ▸ ho'),by rw [hown]; exact hi.glob,λ id o b i ho=>hi.frame id o b i (h id ▸ ho),hi.frLt,hi.frMap⟩,⟨⟨rfl,rfl,Nat.le_refl _,λ _ _ _=>rfl,λ _ _ _ _ h=>h⟩,λ b i _ ho=>by rw [hm] at ho; exact ho,rfl⟩,hstill,rfl⟩
 have hok:=hi.ob id o (h id ▸ ho);cases o with
 | val n v=>
  obtain ⟨b,cs,el,hb,hh,hn,ht,h1,hr,htag⟩:=hok;exact ⟨b,cs,el,hb,hh,hn,ht,h1,hr.map λ v x _=>rv v x,htag⟩
 | row l=>
  exact qj.stays hst hok λ _ _ _=>rfl
 | tok n=>exact hok
 | map ks vs=>
  obtain ⟨b,es,clock,hb,hh,hk,hv⟩:=hok;exact ⟨b,es,clock,hb,hh,hk.stays hst,hv.stays hst⟩
inductive Res where
 | dep
 | off
 | val (v:V) (δ:De) (fp:List Nat)
 | pan (v:V) (δ:De) (fp:List Nat)
structure It where
 i:Nat
 o:Oper
 res:Res
def It.wf(t:It):Option (Nat×V):=
 match t.res with
 | .off=>t.o.dst.map λ d=>(d,qu)
 | .val v _ _=>t.o.dst.map λ d=>(d,v)
 | _=>none
def It.ws(t:It):De:=
 match t.res with
 | .val _ δ _ | .pan _ δ _=>δ
 | _=>[]
def It.rf(ops:List Oper)(t:It):List Nat:=
 match t.res with
 | .dep=>[]
 | _=>looks ops t.o
def It.rs(t:It):List Nat:=
 match t.res with
 | .val _ _ fp | .pan _ _ fp=>fp
 | _=>[]
def It.nextF(t:It)(fr:Fr):Fr:=match t.wf with | some p=>p::fr | none=>fr
def It.nextS(t:It)(σ:St):St:=zf σ t.ws
def Good(cx:Cx)(m nt:Nat)(call:Nat→List V→St→Option (Out×St))(ops:List Oper)(fr:Fr)(σ:St)(t:It):Prop:=
 match t.res with
 | .dep=>True
 | .off=>zhv ops t.o fr=some false
 | .val v δ fp=>zhv ops t.o fr=some true∧zbo cx m nt call t.o fr σ=some (.val v,δ,fp)
 | .pan v δ fp=>zhv ops t.o fr=some true∧zbo cx m nt call t.o fr σ=some (.pan v,δ,fp)
structure Comm (ops:List Oper) (a b:It):Prop where
 ab:∀ p,a.wf=some p→p.1 ∉ b.rf ops
 ba:∀ p,b.wf=some p→p.1 ∉ a.rf ops
 ff:∀ p q,a.wf=some p→b.wf=some q→p.1 ≠ q.1
 sab:∀ i∈a.ws.map (·.1),i ∉ b.rs∧i ∉ b.ws.map (·.1)
 sba:∀ i∈b.ws.map (·.1),i ∉ a.rs∧i ∉ a.ws.map (·.1)
variable {m nt:Nat} {call:Nat→List V→St→Option (Out×St)} {ops:List Oper}
theorem zu3{fr fr':Fr}{x:Operand}(h:∀ t,x=.tmp t→zi fr' t=zi fr t):opd fr' x=opd fr x:=by
 cases x <;> first | rfl | exact h _ rfl
theorem z3q{o:Oper}{x:Operand}(hx:x∈o.op.operands){t:Nat}(ht:x=.tmp t):t∈looks ops o:=by
 subst ht;exact List.mem_append_left _ (List.mem_filterMap.2 ⟨.tmp t,by simpa using hx,rfl⟩)
theorem zjf{o:Oper}{fr fr':Fr}(h:∀ t∈looks ops o,zi fr' t=zi fr t):zhv ops o fr'=zhv ops o fr:=by
 unfold zhv;split
 ·rfl
 ·rename_i j want hg;split
  ·rfl
  ·rename_i t ht;rw [h t (List.mem_append_right _ (by simp [hg,ht]))]
theorem Good.same{fr fr':Fr}{t:It}(h:Good cx m nt call ops fr σ t)(hf:∀ s∈t.rf ops,zi fr' s=zi fr s)(hs:agree t.rs σ σ'):Good cx m nt call ops fr' σ' t:=by
 unfold Good at h ⊢;obtain ⟨i,o,res⟩:=t;have key:∀ p:Tri,(∀ s∈looks ops o,zi fr' s=zi fr s)→zbo cx m nt call o fr σ=some p→agree p.2.2 σ σ'→zbo cx m nt call o fr' σ'=some p:=λ p hl h1 h2=>by
  have:zbo cx m nt call o fr' σ'=zbo cx m nt call o fr σ':=zzx λ x hx=>zu3 λ t ht=>hl t (z3q hx ht);rw [this];exact z6t h1 h2
 cases res with
 | dep=>trivial
 | off=>exact (zjf hf).trans h
 | val v δ fp=>exact ⟨(zjf hf).trans h.1,key _ hf h.2 hs⟩
 | pan v δ fp=>exact ⟨(zjf hf).trans h.1,key _ hf h.2 hs⟩
theorem za9(t:It)(fr:Fr)(s:Nat):zi (t.nextF fr) s=match t.wf with | some p=>if p.1=s then some p.2 else zi fr s | none=>zi fr s:=by
 unfold It.nextF;cases t.wf with
 | none=>rfl
 | some p=>
  obtain ⟨d,v⟩:=p;simp only [zi];by_cases h:d=s
  ·subst h; simp
  ·simp [h,zj1 h]
theorem zro{t:It}{fr:Fr}{s:Nat}(h:∀ p,t.wf=some p→p.1 ≠ s):zi (t.nextF fr) s=zi fr s:=by
 rw [za9];cases hw:t.wf with
 | none=>rfl
 | some p=>simp [h p hw]
theorem zc1{t:It}{s:Nat}(h:s ∉ t.ws.map (·.1)):zi (t.nextS σ) s=zi σ s:=zba h
theorem zhi{δ : De} : ∀ {σ σ' : St} {i : Nat}, i ∈ δ.map (·.1) ∨ zi σ' i = zi σ i → zi (zf σ' δ) i = zi (zf σ δ) i := by
  induction δ with
  | nil => intro σ σ' i h; rcases h with h | h; · simp at h
           exact h
  | cons p δ ih =>
    intro σ σ' i h;obtain ⟨j, o⟩ := p;simp only [zf];refine ih ?_;by_cases hj : j = i
    · right; subst hj; simp [zq]
    · simp only [List.map_cons, List.mem_cons] at h;rcases h with (h | h) | h
      · exact absurd h.symm hj
      · exact .inl h
      · right; simp [zq, hj, h]
theorem zoj{t:It}(h:wl σ σ'):wl (t.nextS σ) (t.nextS σ'):=λ i=>zhi (.inr (h i))
theorem zok{t:It}{fr fr':Fr}(h:xm fr fr'):xm (t.nextF fr) (t.nextF fr'):=λ i=>by rw [za9,za9]; split <;> simp [h i]
theorem Comm.swapF{a b:It}(h:Comm ops a b)(fr:Fr):xm (b.nextF (a.nextF fr)) (a.nextF (b.nextF fr)):=λ i=>by
 rw [za9,za9,za9,za9];cases ha:a.wf with
 | none=>rfl
 | some p=>
  cases hb:b.wf with
  | none=>rfl
  | some q=>
   have:=h.ff p q ha hb;by_cases h1:p.1=i
   ·have:q.1 ≠ i:=λ e=>this (h1.trans e.symm);simp [h1,this]
   ·simp [h1]
theorem Comm.swapS{a b:It}(h:Comm ops a b)(σ:St):wl (b.nextS (a.nextS σ)) (a.nextS (b.nextS σ)):=λ i=>by
 by_cases ha:i∈a.ws.map (·.1)
 ·have hb:=(h.sab i ha).2;rw [zc1 (t:=b) hb];exact zhi (.inl ha)
 ·rw [zc1 (t:=a) ha];by_cases hb:i∈b.ws.map (·.1)
  ·exact (zhi (.inl hb))
  ·rw [zc1 (t:=b) hb,zc1 (t:=b) hb,zc1 (t:=a) ha]
def Rem(cx:Cx)(m nt:Nat)(call:Nat→List V→St→Option (Out×St))(ops:List Oper):List It→Fr→St→Prop
 | [],_,_=>True
 | t::L,fr,σ=>Good cx m nt call ops fr σ t∧Rem cx m nt call ops L (t.nextF fr) (t.nextS σ)
def zqv:List It→Fr→Fr
 | [],fr=>fr
 | t::L,fr=>zqv L (t.nextF fr)
def zi6:List It→St→St
 | [],σ=>σ
 | t::L,σ=>zi6 L (t.nextS σ)
theorem Rem.same:∀ {L:List It} {fr fr':Fr} {σ σ':St},Rem cx m nt call ops L fr σ→xm fr fr'→wl σ σ'→Rem cx m nt call ops L fr' σ'
 | [],_,_,_,_,_,_,_=>trivial
 | _::_,_,_,_,_,h,hf,hs=>⟨h.1.same (λ s _=>hf s) (λ i _=>hs i),Rem.same h.2 (zok hf) (zoj hs)⟩
theorem ziy:∀ {L:List It} {fr fr':Fr},xm fr fr'→xm (zqv L fr) (zqv L fr')
 | [],_,_,h=>h
 | t::L,fr,fr',h=>ziy (L:=L) (fr:=t.nextF fr) (fr':=t.nextF fr') (zok h)
theorem zsh:∀ {L:List It} {σ σ':St},wl σ σ'→wl (zi6 L σ) (zi6 L σ')
 | [],_,_,h=>h
 | t::L,σ,σ',h=>zsh (L:=L) (σ:=t.nextS σ) (σ':=t.nextS σ') (zoj h)
theorem xm.trans{a b c:Fr}(h:xm a b)(h':xm b c):xm a c:=λ t=>(h' t).trans (h t)
theorem wl.trans{a b c:St}(h:wl a b)(h':wl b c):wl a c:=λ t=>(h' t).trans (h t)
theorem wl.refl(a:St):wl a a:=λ _=>rfl
theorem Rem.pull{b:It}{B:List It}:∀ {A:List It} {fr:Fr} {σ:St},Rem cx m nt call ops (A++b::B) fr σ→(∀ a∈A,Comm ops a b) →
  Good cx m nt call ops fr σ b∧Rem cx m nt call ops (A++B) (b.nextF fr) (b.nextS σ)∧xm (zqv (A++b::B) fr) (zqv (A++B) (b.nextF fr))∧wl (zi6 (A++b::B) σ) (zi6 (A++B) (b.nextS σ))
 | [],fr,σ,h,_=>⟨h.1,h.2,xm.refl _,wl.refl _⟩
 | a::A,fr,σ,h,hc=>by
  have hab:=hc a pn;obtain ⟨h1,h2⟩:=h;obtain ⟨g1,g2,g3,g4⟩:=Rem.pull h2 λ x hx=>hc x (pp _ hx);have gb:Good cx m nt call ops fr σ b:=g1.same (λ s hs=>(zro λ p hp e=>hab.ab p hp (e ▸ hs)).symm) (λ i hi=>(zc1 λ hm=>(hab.sab i hm).1 hi).symm);have ga:Good cx m nt call ops (b.nextF fr) (b.nextS σ) a:=h1.same (λ s hs=>zro λ p hp e=>hab.ba p hp (e ▸ hs)) (λ i hi=>zc1 λ hm=>(hab.sba i hm).1 hi);exact ⟨gb,⟨ga,g2.same (hab.swapF fr) (hab.swapS σ)⟩,g3.trans (ziy (hab.swapF fr)),g4.trans (zsh (hab.swapS σ))⟩
end
section
variable {R:Type} {cx:Cx}
theorem zn9:∀ (ops:List Oper) (acc:List Nat) (i:Nat),i<acc.length→(qv ops acc).getD i 0=acc.getD i 0
 | [],_,_,_=>rfl
 | o::r,acc,i,h=>by
  simp only [qv];rw [zn9 r _ i (by simp; omega)]
  simp [List.getD_eq_getElem?_getD,List.getElem?_append_left h]
theorem zuy{acc:List Nat}{k:Nat}:∀ (es:List Edge) (s:Nat),
  (es.foldl (λ s e=>bif Region.binds .any e then s ||| 2 ^ e.on ||| acc.getD e.on 0 else s) s).testBit k=true →
  s.testBit k=true∨∃ e∈es,Region.binds .any e=true∧(k=e.on∨(acc.getD e.on 0).testBit k=true)
 | [],s,h=>.inl h
 | e::es,s,h=>by
  simp only [List.foldl_cons] at h;rcases zuy es _ h with h | ⟨e',he',h⟩
  ·cases hb:Region.binds .any e <;> rw [hb] at h
   ·exact .inl h
   ·simp only [cond_true,Nat.testBit_or,Bool.or_eq_true] at h;rcases h with (h | h) | h
    ·exact .inl h
    ·refine .inr ⟨e,pn,hb,.inl ?_⟩;rw [Nat.testBit_two_pow] at h;simpa [eq_comm] using h
    ·exact .inr ⟨e,pn,hb,.inr h⟩
  ·exact .inr ⟨e',pp _ he',h⟩
theorem zlu:∀ (ops:List Oper) (acc:List Nat) (i k:Nat),acc.length≤i→xd (qv ops acc) i k=true →
  ∃ o e,ops[i - acc.length]?=some o∧e∈o.after.toList∧Region.binds .any e=true∧(k=e.on∨xd (qv ops acc) e.on k=true)
 | [],acc,i,k,hi,h=>by
  simp only [qv,xd,List.getD_eq_getElem?_getD,List.getElem?_eq_none hi] at h;simp at h
 | o::r,acc,i,k,hi,h=>by
  simp only [qv] at h ⊢;by_cases he:i=acc.length
  ·subst he;have h0:=h;simp only [xd] at h;rw [zn9 r _ _ (by simp)] at h
   simp only [List.getD_eq_getElem?_getD,List.getElem?_concat_length,Option.getD_some] at h;rcases zuy _ _ h with h | ⟨e,he,hb,h⟩
   ·simp at h
   ·refine ⟨o,e,by simp,he,hb,h.imp id λ h=>?_⟩
    by_cases hlt:e.on<acc.length
    ·simp only [xd];rw [zn9 r _ _ (by simp; omega)]
     simpa [List.getD_eq_getElem?_getD,List.getElem?_append_left hlt] using h
    ·simp [List.getD_eq_getElem?_getD,List.getElem?_eq_none (Nat.le_of_not_lt hlt)] at h
  ·obtain ⟨o',e,h1,h2⟩:=zlu r (acc++[_]) i k (by simp; omega) h
   refine ⟨o',e,?_,h2⟩;have:i - acc.length=(i - (acc++[o.after.toList.foldl (λ s e=>bif Region.binds .any e then s ||| 2 ^ e.on ||| acc.getD e.on 0 else s) 0]).length)+1:=by simp; omega
   rw [this,List.getElem?_cons_succ];exact h1
def zal(t:It):Prop:=match t.res with | .pan ..=>True | _=>False
def zru(t:It):Log:=⟨t.i,t.ws.map (·.1)++t.rs,t.ws.map (·.1)⟩
variable {m nt:Nat} {call:Nat→List V→St→Option (Out×St)} {ds:List Deferred} {w₀:World} {σ₀:St} {μ₀:Mu}
def lis(listed:Array Bool)(i:Nat):Prop:=listed.getD i false=true
theorem zgv{listed:Array Bool}{i j:Nat}(hi:i<listed.size):lis (listed.setIfInBounds i true) j↔j=i∨lis listed j:=by
 unfold lis;by_cases h:i=j
 ·subst h; simp [Array.getD_eq_getD_getElem?,hi]
 ·simp [Array.getD_eq_getD_getElem?,Array.getElem?_setIfInBounds_ne h,Ne.symm h]
theorem any_ok(hcall:zai cx call)(hn:xe cx.P){arr:Array Oper}{K:Ex→Fr→St→Option R}{r:R}
  {Q:Exit→Act→World→Prop} {frE:Fr} {σE:St}
  (hQ:∀ e fr σ,K e fr σ=some r→∀ x a w μ,zhn w σ μ e x→Now cx nt ds w₀ σ₀ μ₀ a w σ μ fr→Q x a w)
  (hedge:∀ (j:Nat) o,arr.toList[j]?=some o→zbt j o=true) :
  ∀ (N:Nat) (L:List It) (listed:Array Bool) (fr:Fr) (σ:St) (a:Act) (w:World) (μ:Mu),L.length=N→listed.size=arr.size →
   (∀ t∈L,arr.toList[t.i]?=some t.o)→(∀ i,i<arr.size→(lis listed i↔∀ t∈L,t.i ≠ i)) →
   L.Pairwise (λ a b=>a.i<b.i∧(xd (qv arr.toList []) b.i a.i=true∨Comm arr.toList a b)) →
   (∀ j k,lis listed j→xd (qv arr.toList []) j k=true→lis listed k) →
   (∀ t∈L,t.res=.dep∨zm8 nt t.o.dst=true) →
   (∀ t∈L,t.res=.dep→∃ t'∈L,zal t'∧xd (qv arr.toList []) t.i t'.i=true) →
   (∀ t∈L,∀ v δ fp,t.res=.pan v δ fp→K (.pan v) [] σE=some r∧∀ t'∈L,t'.ws=[]∨t'.i=t.i∨xd (qv arr.toList []) t.i t'.i=true) →
   ((∃ t∈L,zal t)∨K .normal frE σE=some r) →
   Rem cx m nt call arr.toList L fr σ→xm (zqv L fr) frE→wl (zi6 L σ) σE →
   Now cx nt ds w₀ σ₀ μ₀ a w σ μ fr→wpAny cx.P .any arr Q N listed a w:=by
 intro N
 induction N with
 | zero=>
  intro L listed fr σ a w μ hN hsz hops hlis hpair hclosed hdst hdep hpan hend hrem hF hS hnow;obtain rfl:=List.eq_nil_of_length_eq_zero hN;have hK:K .normal frE σE=some r:=hend.resolve_left (by simp)
  refine ⟨?_,?_⟩
  ·simp only [Region.ready,List.filter_eq_nil_iff,List.mem_range];intro i hi;have:lis listed i:=(hlis i hi).2 (by simp)
   have hi':i<listed.size:=by omega
   simp [lis,Array.getD_eq_getD_getElem?,hi'] at this ⊢;simp [this]
  ·have haf:=hS.after hnow.after.inv;exact hQ _ _ _ hK _ _ _ μ trivial ⟨hnow.after.trans haf,(haf.frs hnow.after.inv hnow.fr).same hF,hnow.size,hnow.defers⟩
 | succ N ih=>
  intro L listed fr σ a w μ hN hsz hops hlis hpair hclosed hdst hdep hpan hend hrem hF hS hnow;refine ⟨λ hready=>?_,λ i hi=>?_⟩
  ·-- something is always ready
   exfalso;cases L with
   | nil=>simp at hN
   | cons t L=>
    have ht:=hops t pn;have hlt:t.i<arr.size:=by have:=(pj.1 ht).1; simpa using this
    have hnl : ¬ lis listed t.i:=λ h=>((hlis t.i hlt).1 h) t pn rfl;have:t.i∈Region.ready .any arr listed:=by
     simp only [Region.ready,List.mem_filter,List.mem_range];refine ⟨hlt,?_⟩;have h1:arr[t.i]?=some t.o:=by simpa using ht
     have h2:listed.getD t.i true=false:=by
      have hi':t.i<listed.size:=by omega
      simp [lis,Array.getD_eq_getD_getElem?,hi'] at hnl ⊢;exact hnl
     simp only [h1,h2,Bool.not_false,Bool.true_and,Option.map_some,Option.getD_some];rw [←Array.all_toList,List.all_eq_true];intro e he;have he2:=List.all_eq_true.1 (hedge t.i t.o ht) e he;cases hb:Region.binds .any e
     ·rfl
     ·rw [hb] at he2;have hlt2:e.on<t.i:=by simpa using he2
      have:lis listed e.on:=(hlis e.on (by omega)).2 λ u hu hui=>by
       rcases List.mem_cons.1 hu with rfl | hu
       ·omega
       ·have:=(List.pairwise_cons.1 hpair).1 u hu;omega
      simpa [lis] using this
    rw [hready] at this;cases this
  ·-- one that is ready
   simp only [Region.ready,List.mem_filter,List.mem_range,ph] at hi;obtain ⟨hlt,hnl,haft⟩:=hi;have hnl' : ¬ lis listed i:=by
    have hi':i<listed.size:=by omega
    simp [lis,Array.getD_eq_getD_getElem?,hi'] at hnl ⊢;exact hnl
   obtain ⟨b,hb,hbi⟩:∃ b∈L,b.i=i:=Classical.byContradiction λ hne=>hnl' ((hlis i hlt).2 λ t ht he=>hne ⟨t,ht,he⟩);subst hbi;obtain ⟨A,B,rfl⟩:=List.append_of_mem hb;have hbo:=hops b hb;have hbo':arr[b.i]?=some b.o:=by simpa using hbo
   simp only [hbo',Option.map_some,Option.getD_some] at haft;have hbefore:∀ k,xd (qv arr.toList []) b.i k=true→lis listed k:=by
    intro k hk;obtain ⟨o,e,h1,h2,h3,h4⟩:=zlu arr.toList [] b.i k (Nat.zero_le _) hk;rw [List.length_nil,Nat.sub_zero,hbo] at h1;cases h1;rw [←Array.all_toList,List.all_eq_true] at haft;have he:=haft e h2;rw [h3] at he;have hl:lis listed e.on:=by simpa [lis] using he
    rcases h4 with rfl | h4
    ·exact hl
    ·exact hclosed _ _ hl h4
   have hunl:∀ t∈A++b::B,¬ lis listed t.i:=λ t ht h=>by
    have hto:=hops t ht;have hlt:t.i<arr.size:=by have:=(pj.1 hto).1; simpa using this
    exact (hlis t.i hlt).1 h t ht rfl
   have hpair':=hpair;rw [List.pairwise_append] at hpair';obtain ⟨hpA,hpB,hpAB⟩:=hpair';rw [List.pairwise_cons] at hpB;have hcomm:∀ x∈A,Comm arr.toList x b:=λ x hx=>
    ((hpAB x hx b pn).2).resolve_left λ h=>hunl x (List.mem_append_left _ hx) (hbefore _ h)
   obtain ⟨hg,hrem',hF',hS'⟩:=hrem.pull hcomm;have hsub:∀ t∈A++B,t∈A++b::B:=λ t ht=>by
    rcases List.mem_append.1 ht with h | h
    ·exact List.mem_append_left _ h
    ·exact List.mem_append_right _ (pp _ h)
   have hne:∀ t∈A++B,t.i ≠ b.i:=λ t ht=>by
    rcases List.mem_append.1 ht with h | h
    ·have:=(hpAB t h b pn).1; omega
    ·have:=(hpB.1 t h).1; omega
   have hsz':b.i<listed.size:=by omega
   -- the rest,once this one is done
   have rest : ¬ zal b→∀ (a':Act) (w':World) (μ':Mu),Now cx nt ds w₀ σ₀ μ₀ a' w' (b.nextS σ) μ' (b.nextF fr)→wpAny cx.P .any arr Q N (listed.setIfInBounds b.i true) a' w':=by
    intro hnp a' w' μ' hnow';refine ih (A++B) _ _ _ a' w' μ' ?_ (by simpa using hsz) (λ t ht=>hops t (hsub t ht)) ?_ ?_ ?_ (λ t ht=>hdst t (hsub t ht)) ?_ ?_ ?_ hrem' (λ s=>(hF s).trans (hF' s).symm) (λ s=>(hS s).trans (hS' s).symm) hnow'
    ·simp at hN ⊢; omega
    ·intro j hj;rw [zgv hsz',hlis j hj];constructor
     ·rintro (rfl | h) t ht
      ·exact hne t ht
      ·exact h t (hsub t ht)
     ·intro h;by_cases hjb:j=b.i
      ·exact .inl hjb
      ·refine .inr λ t ht=>?_;rcases List.mem_append.1 ht with h' | h'
       ·exact h t (List.mem_append_left _ h')
       ·rcases List.mem_cons.1 h' with rfl | h'
        ·exact λ e=>hjb e.symm
        ·exact h t (List.mem_append_right _ h')
    ·rw [List.pairwise_append];exact ⟨hpA,hpB.2,λ x hx y hy=>hpAB x hx y (pp _ hy)⟩
    ·intro j k hj hk;rw [zgv hsz'] at hj ⊢;rcases hj with rfl | hj
     ·exact .inr (hbefore k hk)
     ·exact .inr (hclosed j k hj hk)
    ·intro t ht htd;obtain ⟨t',ht',hp,hpre⟩:=hdep t (hsub t ht) htd;refine ⟨t',?_,hp,hpre⟩;rcases List.mem_append.1 ht' with h' | h'
     ·exact List.mem_append_left _ h'
     ·rcases List.mem_cons.1 h' with rfl | h'
      ·exact (hnp hp).elim
      ·exact List.mem_append_right _ h'
    ·intro t ht v δ fp htp;obtain ⟨h1,h2⟩:=hpan t (hsub t ht) v δ fp htp;exact ⟨h1,λ t' ht'=>h2 t' (hsub t' ht')⟩
    ·refine hend.imp (λ ⟨t,ht,hp⟩=>⟨t,?_,hp⟩) id;rcases List.mem_append.1 ht with h' | h'
     ·exact List.mem_append_left _ h'
     ·rcases List.mem_cons.1 h' with rfl | h'
      ·exact (hnp hp).elim
      ·exact List.mem_append_right _ h'
   unfold wpOp;simp only [hbo'];have hd:=hdst b hb;cases hres:b.res with
   | dep=>
    obtain ⟨t',ht',_,hpre⟩:=hdep b hb hres;exact (hunl t' ht' (hbefore _ hpre)).elim
   | off=>
    have hd:=hd.resolve_left (by rw [hres]; intro h; cases h)
    simp only [Good,hres] at hg;rw [zdi rfl hnow.fr hg];simp only [Bool.false_eq_true,if_false];have e1:b.nextF fr=ze2 fr b.o.dst qu:=by simp only [It.nextF,It.wf,hres,ze2]; cases b.o.dst <;> rfl
    have e2:b.nextS σ=σ:=by simp only [It.nextS,It.ws,hres]; rfl
    refine rest (by simp [zal,hres]) _ _ μ ?_
    rw [e1,e2];exact ⟨hnow.after,FR.put hnow.fr hd hnow.size znw,by rw [qm]; exact hnow.size,by rw [w9]; exact hnow.defers⟩
   | val v δ fp=>
    have hd:=hd.resolve_left (by rw [hres]; intro h; cases h)
    simp only [Good,hres] at hg;obtain ⟨hw,hev⟩:=hg;rw [zdi rfl hnow.fr hw,if_pos rfl];left;obtain ⟨oc,δ',fp',hK,hok⟩:=zk4 hcall hn hnow.after.inv hnow.fr hev;cases hK;refine hok _ _ ?_;intro v' w' μ' haf hv;have e1:b.nextF fr=ze2 fr b.o.dst v:=by simp only [It.nextF,It.wf,hres,ze2]; cases b.o.dst <;> rfl
    have e2:b.nextS σ=zf σ δ:=by simp only [It.nextS,It.ws,hres]
    refine rest (by simp [zal,hres]) _ _ μ' ?_
    rw [e1,e2];exact ⟨hnow.after.trans haf,FR.put (haf.frs hnow.after.inv hnow.fr) hd hnow.size hv,by rw [qm]; exact hnow.size,by rw [w9]; exact hnow.defers⟩
   | pan v δ fp=>
    simp only [Good,hres] at hg;obtain ⟨hw,hev⟩:=hg;rw [zdi rfl hnow.fr hw,if_pos rfl];left;obtain ⟨oc,δ',fp',hK,hok⟩:=zk4 hcall hn hnow.after.inv hnow.fr hev;cases hK;refine hok _ _ ?_;intro x w' μ' haf hv;obtain ⟨hKp,hws⟩:=hpan b hb v δ fp hres;have e2:b.nextS σ=zf σ δ:=by simp only [It.nextS,It.ws,hres]
    have hquiet:∀ (L:List It) (σ:St),(∀ t∈L,t.ws=[])→zi6 L σ=σ:=by
     intro L
     induction L with
     | nil=>intro σ _; rfl
     | cons t L ihL=>
      intro σ h;simp only [zi6];rw [ihL _ λ u hu=>h u (pp _ hu)];simp only [It.nextS,h t pn,zf]
    have hall:∀ t∈A++B,t.ws=[]:=λ t ht=>by
     rcases hws t (hsub t ht) with h | h | h
     ·exact h
     ·exact (hne t ht h).elim
     ·exact (hunl t (hsub t ht) (hbefore _ h)).elim
    have hsame:wl (zf σ δ) σE:=by
     intro s;rw [hS s,←hS' s,hquiet _ _ hall,e2]
    have haf2:=hsame.after haf.inv;exact hQ _ _ _ hKp _ _ _ μ' ⟨x,rfl,haf2.rv haf.inv hv⟩ ⟨(hnow.after.trans haf).trans haf2,FR.nil,hnow.size,hnow.defers⟩
end
section
variable {R:Type} {cx:Cx} {m nt:Nat} {call:Nat→List V→St→Option (Out×St)} {ops:List Oper}
def ygh(K:Ex→Fr→St→Option R)(r:R)(pre:List Nat)(log:List Log)(L:List It)(fr:Fr)(σ:St):Option (Nat×V)→Prop
 | some (k,v)=>(∀ t∈L,¬ zal t)∧(∀ t∈L,t.res=.dep→xd pre t.i k=true)∧K (.pan v) [] (zi6 L σ)=some r ∧
   (∀ e∈log,e.w=[]∨e.i=k∨xd pre k e.i=true)∧∀ t∈L,t.ws=[]∨t.i=k∨xd pre k t.i=true
 | none=>((∀ t∈L,¬ zal t)∧(∀ t∈L,t.res ≠ .dep)∧∃ frE,xm (zqv L fr) frE∧K .normal frE (zi6 L σ)=some r) ∨
   ∃ t₀∈L,∃ v δ fp,t₀.res=.pan v δ fp∧(∀ t∈L,zal t→t=t₀)∧(∀ t∈L,t.res=.dep→xd pre t.i t₀.i=true)∧K (.pan v) [] (zi6 L σ)=some r ∧
    (∀ e∈log,e.w=[]∨e.i=t₀.i∨xd pre t₀.i e.i=true)∧∀ t∈L,t.ws=[]∨t.i=t₀.i∨xd pre t₀.i t.i=true
theorem zrs{pre:List Nat}{e:Log}{i:Nat}:zfl pre e ⟨i,[],[]⟩=true:=by simp [zfl,z4l]
theorem zoo{pre:List Nat}{e:Log}{i:Nat}:zfl pre ⟨i,[],[]⟩ e=true:=by simp [zfl,z4l]
theorem zep{α:Type}{l:List α}(h:l.isEmpty=true):l=[]:=by simpa using h
theorem zk6{K0:Nat}{pre:List Nat}{K:Ex→Fr→St→Option R}{r:R} :
  ∀ (l:List Oper) (i:Nat) (log:List Log) (dead:Option (Nat×V)) (fr:Fr) (σ:St),(ops.take K0).drop i=l→(∀ k v,dead=some (k,v)→k<i) →
   vt cx m nt call ops pre i l log dead fr σ K=some r →
   ∃ L:List It,(∀ t∈L,(i≤t.i∧t.i<(ops.take K0).length)∧ops[t.i]?=some t.o)∧(∀ j,i≤j→j<(ops.take K0).length→∃ t∈L,t.i=j)∧L.Pairwise (λ a b=>a.i<b.i∧zfl pre (zru a) (zru b)=true) ∧
    (∀ e∈log,∀ t∈L,zfl pre e (zru t)=true)∧(∀ t∈L,t.res=.dep∨zm8 nt t.o.dst=true)∧Rem cx m nt call ops L fr σ∧ygh K r pre log L fr σ dead∧L.length+i=max i (ops.take K0).length:=by
 intro l
 induction l with
 | nil=>
  intro i log dead fr σ hl hk h;have hlen:(ops.take K0).length≤i:=by have:=congrArg List.length hl; rw [List.length_drop] at this; simp only [List.length_nil,List.length_cons] at this; omega
  refine ⟨[],by simp,λ j h1 h2=>by omega,.nil,by simp,by simp,trivial,?_,by rw [List.length_nil]; omega⟩
  cases dead with
  | none=>exact .inl ⟨by simp,by simp,fr,xm.refl fr,h⟩
  | some p=>
   obtain ⟨k,v⟩:=p;simp only [vt] at h;obtain ⟨hc,h⟩:=ze h;refine ⟨by simp,by simp,h,λ e he=>?_,by simp⟩
   have:=List.all_eq_true.1 hc e he;simp only [Bool.or_eq_true] at this;rcases this with (h | h) | h
   ·exact .inl (zep h)
   ·exact .inr (.inl (pg h))
   ·exact .inr (.inr h)
 | cons o l ih=>
  intro i log dead fr σ hl hk h;have hlt:i<(ops.take K0).length:=by have:=congrArg List.length hl; rw [List.length_drop] at this; simp only [List.length_nil,List.length_cons] at this; omega
  have ho:ops[i]?=some o:=by
   have:=congrArg (·[0]?) hl;have h2:(ops.take K0)[i]?=some o:=by simpa using this
   rw [List.getElem?_take_of_lt (by rw [List.length_take] at hlt; omega)] at h2
   exact h2
  have hrest:(ops.take K0).drop (i+1)=l:=by rw [←List.drop_drop,hl]; rfl
  have hcover:∀ {L:List It} {t:It},t.i=i→(∀ j,i+1≤j→j<(ops.take K0).length→∃ t∈L,t.i=j)→∀ j,i≤j→j<(ops.take K0).length→∃ u∈t::L,u.i=j:=by
   intro L t ht h j h1 h2;by_cases hj:j=i
   ·exact ⟨t,pn,ht.trans hj.symm⟩
   ·obtain ⟨u,hu,huj⟩:=h j (by omega) h2
    exact ⟨u,pp _ hu,huj⟩
  simp only [vt] at h;cases hdep:zlb pre i dead
  ·rw [hdep,cond_false] at h;obtain ⟨hd,h⟩:=ze h;obtain ⟨fr',hs,h⟩:=zm4 h;rcases h with ⟨hw,h⟩ | ⟨hw,h⟩
   ·-- it runs
    obtain ⟨p,hp,h⟩:=zd h;obtain ⟨hmeet,h⟩:=ze h;obtain ⟨oc,δ,fp⟩:=p;have hfr:zbo cx m nt call o fr σ=some (oc,δ,fp):=by
     rw [←hp];unfold zbo;exact (zzx λ x _=>zu3 λ t _=>hs t).symm
    cases oc with
    | val v=>
     simp only at h hmeet;obtain ⟨L,h1,h2,h3,h4,h5,h6,h7,h8⟩:=ih (i+1) _ dead _ _ hrest (λ k v hd=>Nat.lt_succ_of_lt (hk k v hd)) h
     let t:It:=⟨i,o,.val v δ fp⟩
     have hlog:zru t=⟨i,δ.map (·.1)++fp,δ.map (·.1)⟩:=rfl;have hsF:xm (t.nextF fr) (ze2 fr' o.dst v):=λ s=>by
      rw [zmc,za9,show t.wf=o.dst.map λ d=>(d,v) from rfl];cases o.dst with
      | none=>simp [hs s]
      | some d=>simp [hs s]
     refine ⟨t::L,?_,hcover rfl h2,?_,?_,?_,⟨⟨hw,hfr⟩,h6.same (λ s=>(hsF s).symm) (λ _=>rfl)⟩,?_,by rw [List.length_cons]; omega⟩
     ·intro u hu;rcases List.mem_cons.1 hu with rfl | hu
      ·exact ⟨⟨Nat.le_refl _,hlt⟩,ho⟩
      ·exact ⟨by have:=(h1 u hu).1; omega,(h1 u hu).2⟩
     ·refine List.pairwise_cons.2 ⟨λ u hu=>⟨by have:=(h1 u hu).1; show i<u.i; omega,?_⟩,h3⟩
      exact h4 _ pn u hu
     ·intro e he u hu;rcases List.mem_cons.1 hu with rfl | hu
      ·exact List.all_eq_true.1 hmeet e he
      ·exact h4 e (pp _ he) u hu
     ·intro u hu;rcases List.mem_cons.1 hu with rfl | hu
      ·exact .inr hd
      ·exact h5 u hu
     ·have hws:t.ws=[]↔δ.map (·.1)=[]:=by show δ=[]↔_; simp
      cases dead with
      | some q=>
       obtain ⟨k,u⟩:=q;obtain ⟨g1,g2,g3,g4,g5⟩:=h7;refine ⟨λ x hx=>?_,λ x hx hd=>?_,g3,λ e he=>g4 e (pp _ he),λ x hx=>?_⟩
       ·rcases List.mem_cons.1 hx with rfl | hx
        ·exact λ h=>h
        ·exact g1 x hx
       ·rcases List.mem_cons.1 hx with rfl | hx
        ·cases hd
        ·exact g2 x hx hd
       ·rcases List.mem_cons.1 hx with rfl | hx
        ·have:=g4 _ pn;rw [hws]; exact this
        ·exact g5 x hx
      | none=>
       rcases h7 with ⟨g1,g2,frE,g3,g4⟩ | ⟨t₀,g1,v₀,δ₀,fp₀,g2,g3,g4,g5,g6,g7⟩
       ·refine .inl ⟨λ x hx=>?_,λ x hx=>?_,frE,(ziy hsF).trans g3,g4⟩
        ·rcases List.mem_cons.1 hx with rfl | hx
         ·exact λ h=>h
         ·exact g1 x hx
        ·rcases List.mem_cons.1 hx with rfl | hx
         ·intro h; cases h
         ·exact g2 x hx
       ·refine .inr ⟨t₀,pp _ g1,v₀,δ₀,fp₀,g2,λ x hx hp=>?_,λ x hx hd=>?_,g5,λ e he=>g6 e (pp _ he),λ x hx=>?_⟩
        ·rcases List.mem_cons.1 hx with rfl | hx
         ·exact hp.elim
         ·exact g3 x hx hp
        ·rcases List.mem_cons.1 hx with rfl | hx
         ·cases hd
         ·exact g4 x hx hd
        ·rcases List.mem_cons.1 hx with rfl | hx
         ·have:=g6 _ pn;rw [hws]; exact this
         ·exact g7 x hx
    | pan v=>
     cases dead with
     | some q=>cases h
     | none=>
      simp only at h hmeet;obtain ⟨L,h1,h2,h3,h4,h5,h6,h7,h8⟩:=ih (i+1) _ (some (i,v)) _ _ hrest (λ k v hd=>by cases hd; omega) h
      let t:It:=⟨i,o,.pan v δ fp⟩
      obtain ⟨g1,g2,g3,g4,g5⟩:=h7;refine ⟨t::L,?_,hcover rfl h2,?_,?_,?_,⟨⟨hw,hfr⟩,h6.same (λ s=>(hs s).symm) (λ _=>rfl)⟩,?_,by rw [List.length_cons]; omega⟩
      ·intro u hu;rcases List.mem_cons.1 hu with rfl | hu
       ·exact ⟨⟨Nat.le_refl _,hlt⟩,ho⟩
       ·exact ⟨by have:=(h1 u hu).1; omega,(h1 u hu).2⟩
      ·refine List.pairwise_cons.2 ⟨λ u hu=>⟨by have:=(h1 u hu).1; show i<u.i; omega,?_⟩,h3⟩
       exact h4 _ pn u hu
      ·intro e he u hu;rcases List.mem_cons.1 hu with rfl | hu
       ·exact List.all_eq_true.1 hmeet e he
       ·exact h4 e (pp _ he) u hu
      ·intro u hu;rcases List.mem_cons.1 hu with rfl | hu
       ·exact .inr hd
       ·exact h5 u hu
      ·refine .inr ⟨t,pn,v,δ,fp,rfl,λ x hx hp=>?_,λ x hx hd=>?_,g3,λ e he=>g4 e (pp _ he),λ x hx=>?_⟩
       ·rcases List.mem_cons.1 hx with rfl | hx
        ·rfl
        ·exact (g1 x hx hp).elim
       ·rcases List.mem_cons.1 hx with rfl | hx
        ·cases hd
        ·exact g2 x hx hd
       ·rcases List.mem_cons.1 hx with rfl | hx
        ·exact .inr (.inl rfl)
        ·exact g5 x hx
   ·-- it is not wanted
    obtain ⟨L,h1,h2,h3,h4,h5,h6,h7,h8⟩:=ih (i+1) _ dead _ _ hrest (λ k v hd=>Nat.lt_succ_of_lt (hk k v hd)) h
    let t:It:=⟨i,o,.off⟩
    have hsF:xm (t.nextF fr) (ze2 fr' o.dst qu):=λ s=>by
     rw [zmc,za9,show t.wf=o.dst.map λ d=>(d,qu) from rfl];cases o.dst with
     | none=>simp [hs s]
     | some d=>simp [hs s]
    refine ⟨t::L,?_,hcover rfl h2,?_,?_,?_,⟨hw,h6.same (λ s=>(hsF s).symm) (λ _=>rfl)⟩,?_,by rw [List.length_cons]; omega⟩
    ·intro u hu;rcases List.mem_cons.1 hu with rfl | hu
     ·exact ⟨⟨Nat.le_refl _,hlt⟩,ho⟩
     ·exact ⟨by have:=(h1 u hu).1; omega,(h1 u hu).2⟩
    ·exact List.pairwise_cons.2 ⟨λ u hu=>⟨by have:=(h1 u hu).1; show i<u.i; omega,zoo⟩,h3⟩
    ·intro e he u hu;rcases List.mem_cons.1 hu with rfl | hu
     ·exact zrs
     ·exact h4 e he u hu
    ·intro u hu;rcases List.mem_cons.1 hu with rfl | hu
     ·exact .inr hd
     ·exact h5 u hu
    ·cases dead with
     | some q=>
      obtain ⟨k,u⟩:=q;obtain ⟨g1,g2,g3,g4,g5⟩:=h7;refine ⟨λ x hx=>?_,λ x hx hd=>?_,g3,g4,λ x hx=>?_⟩
      ·rcases List.mem_cons.1 hx with rfl | hx
       ·exact λ h=>h
       ·exact g1 x hx
      ·rcases List.mem_cons.1 hx with rfl | hx
       ·cases hd
       ·exact g2 x hx hd
      ·rcases List.mem_cons.1 hx with rfl | hx
       ·exact .inl rfl
       ·exact g5 x hx
     | none=>
      rcases h7 with ⟨g1,g2,frE,g3,g4⟩ | ⟨t₀,g1,v₀,δ₀,fp₀,g2,g3,g4,g5,g6,g7⟩
      ·refine .inl ⟨λ x hx=>?_,λ x hx=>?_,frE,(ziy hsF).trans g3,g4⟩
       ·rcases List.mem_cons.1 hx with rfl | hx
        ·exact λ h=>h
        ·exact g1 x hx
       ·rcases List.mem_cons.1 hx with rfl | hx
        ·intro h; cases h
        ·exact g2 x hx
      ·refine .inr ⟨t₀,pp _ g1,v₀,δ₀,fp₀,g2,λ x hx hp=>?_,λ x hx hd=>?_,g5,g6,λ x hx=>?_⟩
       ·rcases List.mem_cons.1 hx with rfl | hx
        ·exact hp.elim
        ·exact g3 x hx hp
       ·rcases List.mem_cons.1 hx with rfl | hx
        ·cases hd
        ·exact g4 x hx hd
       ·rcases List.mem_cons.1 hx with rfl | hx
        ·exact .inl rfl
        ·exact g7 x hx
  ·-- it waits for the one that panicked
   rw [hdep,cond_true] at h;obtain ⟨L,h1,h2,h3,h4,h5,h6,h7,h8⟩:=ih (i+1) _ dead _ _ hrest (λ k v hd=>Nat.lt_succ_of_lt (hk k v hd)) h
   let t:It:=⟨i,o,.dep⟩
   refine ⟨t::L,?_,hcover rfl h2,?_,?_,?_,⟨trivial,h6⟩,?_,by rw [List.length_cons]; omega⟩
   ·intro u hu;rcases List.mem_cons.1 hu with rfl | hu
    ·exact ⟨⟨Nat.le_refl _,hlt⟩,ho⟩
    ·exact ⟨by have:=(h1 u hu).1; omega,(h1 u hu).2⟩
   ·exact List.pairwise_cons.2 ⟨λ u hu=>⟨by have:=(h1 u hu).1; show i<u.i; omega,zoo⟩,h3⟩
   ·intro e he u hu;rcases List.mem_cons.1 hu with rfl | hu
    ·exact zrs
    ·exact h4 e he u hu
   ·intro u hu;rcases List.mem_cons.1 hu with rfl | hu
    ·exact .inl rfl
    ·exact h5 u hu
   ·cases dead with
    | some q=>
     obtain ⟨k,u⟩:=q;obtain ⟨g1,g2,g3,g4,g5⟩:=h7;refine ⟨λ x hx=>?_,λ x hx hd=>?_,g3,g4,λ x hx=>?_⟩
     ·rcases List.mem_cons.1 hx with rfl | hx
      ·exact λ h=>h
      ·exact g1 x hx
     ·rcases List.mem_cons.1 hx with rfl | hx
      ·exact hdep
      ·exact g2 x hx hd
     ·rcases List.mem_cons.1 hx with rfl | hx
      ·exact .inl rfl
      ·exact g5 x hx
    | none=>cases hdep
end
end Go.Vai
end

/-
  Each operation of the interpreter is the machine's: what is appended. To: A call from the caller's side.
-/
import Derived.Test.YtmolcgfhgdhgoaaGreatDoorVaiPart2
import Derived.Laws.CopyRow
import Derived.Laws.Tables
import Derived.MapKept
set_option linter.all false
noncomputable section
namespace Go.Vai
section
variable {R:Type} {P:Program} {cx:Cx} {w w':World} {σ:St} {μ μ':Mu}
theorem xh(g o:Nat)(t:TypeId)(fr:Nat×Nat):∀ (vs:List Value) (i:Nat) (cur:Array Value) (w:World),w.heap[g]?=some (.cells cur t fr)→o+i+vs.length≤cur.size →
  (fr=(0,0)∨cur.size≤fr.1)→(∀ v∈vs,v.oneCell'=true) →
  (storeCells ⟨g,o,none⟩ vs i).run P w=.ok () (w.setRow g (cur.toList.take (o+i)++vs++cur.toList.drop (o+i+vs.length)).toArray)
 | [],i,cur,w,hg,_,_,_=>by
  simp only [storeCells,List.append_nil,p8,Nat.add_zero,List.take_append_drop,Array.toArray_toList];rw [setRow_self w g cur t fr hg];rfl
 | v::rest,i,cur,w,hg,hl,hfr,h1=>by
  have hi:o+i<cur.size:=by simp at hl; omega
  have hadd:(⟨g,o,none⟩:Addr).add i=⟨g,o+i,none⟩:=addr_add g o i;have hcell:w.cell? ⟨g,o+i,none⟩=some cur[o+i]:=by simp [World.cell?,hg,hi]
  have hfro:w.frozen? ⟨g,o+i,none⟩=false:=by
   rcases hfr with rfl | hfr
   ·simp [World.frozen?,hg]
   ·obtain ⟨a,b⟩:=fr;simp only [World.frozen?,hg] at hfr ⊢;have : ¬ a≤o+i:=by omega
    simp [this]
  have hst:(store ((⟨g,o,none⟩:Addr).add i) v).run P w=.ok () (w.setRow g (cur.setIfInBounds (o+i) v)):=by
   rw [hadd,run_store P w _ v _ (h1 v (by simp)),hcell]
   simp [hfro,setCell_eq_setRow w g (o+i) cur t fr v hg]
  have ih:=xh g o t fr rest (i+1) (cur.setIfInBounds (o+i) v) (w.setRow g (cur.setIfInBounds (o+i) v)) (setRow_heap w g cur _ t _ hg) (by simp at hl ⊢; omega) (by simpa using hfr) (λ x hx=>h1 x (by simp [hx]))
  simp only [storeCells,Sem.run_bind,hst,Result.andThen_ok,ih,setRow_setRow];congr 3;have e:=list_seg_step cur.toList (o+i) v rest (by simp at hl ⊢; omega)
  simpa [Array.toList_setIfInBounds,Nat.add_assoc] using e
theorem zrp(s:List UInt8):ye (s.map λ b=>(D.int .u8 b.toNat))=s.map λ b=>(D.int .u8 b.toNat):=by
 unfold ye
 induction s with
 | nil=>rfl
 | cons a s ih=>simp only [List.map_cons,List.flatMap_cons,ih]; rfl
theorem zep{v:V}{v':Value}{K:Nat→List D→Option R}{r:R}(hv:RV w σ μ v' v)(h:dataOf v K=some r) :
  ∃ sz ys,K sz ys=some r∧(Builtin.lenOf v').run P w=.ok ys.length w∧∀ size,(sz=size∨ys=[]) →
   (∀ y∈ys,y.cells.length=size)∧∃ xs:List Value,(∀ w',Stays w (zp σ μ) w' (zp σ μ)→(Builtin.firstCells size ys.length v').run P w'=.ok xs.toArray w')∧RDs w (zp σ μ) xs (ye ys)∧(∀ x∈xs,x.oneCell'=true):=by
 have slc:∀ {sz:Nat} {l:List D},RD w (zp σ μ) v' (.sl sz l)→K sz l=some r→∃ sz ys,K sz ys=some r∧(Builtin.lenOf v').run P w=.ok ys.length w∧∀ size,(sz=size∨ys=[]) →
   (∀ y∈ys,y.cells.length=size)∧∃ xs:List Value,(∀ w',Stays w (zp σ μ) w' (zp σ μ)→(Builtin.firstCells size ys.length v').run P w'=.ok xs.toArray w')∧RDs w (zp σ μ) xs (ye ys)∧(∀ x∈xs,x.oneCell'=true):=by
  intro sz l hd hK;refine ⟨sz,l,hK,?_,λ size hs=>?_⟩
  ·obtain ⟨base,cap,rfl⟩:=hd.slice_inv; rfl
  ·have hd:=hd.sl_sz hs;obtain ⟨base,cap,rfl,_,hsz,xs,hxl,h1,hr,hc⟩:=hd.toRow;by_cases he:l=[]
   ·subst he;refine ⟨by simp,[],λ w' _=>?_,⟨rfl,by simp [ye]⟩,by simp⟩
    cases base with
    | none=>rfl
    | some a=>
     simp only [Builtin.firstCells,p8,Nat.zero_mul];rfl
   ·refine ⟨hsz he,xs,λ w' hst=>?_,hr,h1⟩;obtain ⟨b,o,rfl,hcc⟩:=hc he;simp only [Builtin.firstCells];have:=run_loadCells_list (P:=P) w' ⟨b,o,none⟩ xs (λ j x hx=>by rw [addr_add]; exact (hst.cell _ _ _ (hcc j x hx).2 (hcc j x hx).1).1)
    rw [hxl] at this;exact this
 unfold dataOf at h;split at h
 ·cases hv with | d _ _ hd=>exact slc hd h
 ·exact slc hv.slD h
 ·rename_i s;obtain rfl:=hv.str_inv;refine ⟨1,_,h,?_,λ size hs=>?_⟩
  ·simp [Builtin.lenOf,zce]
  ·have hfl:=zrp s;refine ⟨λ y hy=>?_,s.map λ b=>.int .u8 b.toNat,λ w' _=>?_,?_,?_⟩
   ·rcases hs with rfl | hs
    ·simp only [List.mem_map] at hy; obtain ⟨b,_,rfl⟩:=hy; rfl
    ·rw [hs] at hy; cases hy
   ·simp only [Builtin.firstCells,pm];have e:(y8 s).extract 0 s.length=y8 s:=by
     have:=zhq s 0 s.length;simpa using this
    rw [e];simp [y8]
   ·rw [hfl];exact ⟨by simp,λ i x y hx hy=>by
     simp only [List.getElem?_map,Option.map_eq_some_iff] at hx hy;obtain ⟨b,hb,rfl⟩:=hx;obtain ⟨b',hb',rfl⟩:=hy;rw [hb] at hb'; cases hb';exact .int _ _⟩
   ·intro x hx;simp only [List.mem_map] at hx;obtain ⟨b,_,rfl⟩:=hx;rfl
 ·cases h
theorem zof(need:Nat):∀ (n c:Nat),c≤need+(need+768) / 4→Builtin.growBy need n c≤need+(need+768) / 4
 | 0,c,h=>h
 | n+1,c,h=>by
  unfold Builtin.growBy;split
  ·exact h
  ·exact zof need n _ (by omega)
theorem zss(need cap:Nat)(h:cap<need):Builtin.nextslicecap need cap≤2 * need+192:=by
 unfold Builtin.nextslicecap;split
 ·omega
 ·split
  ·omega
  ·have:=zof need 4 cap (by omega)
   omega
theorem qt(l l':List D):ye (l++l')=ye l++ye l':=by simp [ye]
theorem zek:Stays w (zp σ μ) w.drew (zp σ μ):=⟨λ _ _ _ h hc=>⟨hc,h⟩,λ _ _ _ h hm=>⟨hm,h⟩⟩
theorem wh(z:Array Value)(n:Nat):(Builtin.zeroCells z n).size=n * z.size:=by simp [Builtin.zeroCells]
theorem zkh{t':Nat}(ht':(match P.underlying t' with | some (.int _)=>false | some _=>true | none=>false)=true):∃ d,P.underlying t'=some d∧∀ k,d ≠ .int k:=by
 cases hu:P.underlying t' with
 | none=>rw [hu] at ht'; cases ht'
 | some d=>
  refine ⟨d,rfl,λ k hk=>?_⟩;subst hk;rw [hu] at ht';cases ht'
theorem v8{t t' e ty ln n cap:Nat}{base:Option Addr}{x':Value}{d':TypeDesc}{xs:List Value}(hu:P.underlying t=some (.slice e))(hty:qg P e=true)(hu':P.underlying t'=some d')(hd':∀ k,d' ≠ .int k)
  (hl:(Builtin.lenOf x').run P w=.ok n w) (hx:(Builtin.firstCells (P.cellsOf e) n x').run P w=.ok xs.toArray w) (hc:ln+n≤cap) {w':World}
  (hst:(match base with | some a=>storeCells (a.add (ln * P.cellsOf e)) xs | none=>pure ():Sem Unit).run P w=.ok () w') :
  (Builtin.append_ #[t,t'] ty #[.slice base ln cap,x']).run P w=.ok (.slice base (ln+n) cap) w':=by
 unfold Builtin.append_
 simp only [List.getElem?_toArray,List.getElem?_cons_zero,List.getElem?_cons_succ,Sem.run_bind,run_underlying hu,run_underlying hu',Result.andThen_ok,wz hty,Sem.run_pure,hl,Bool.false_eq_true,if_false,if_pos hc,
  Bool.not_false,if_true,hx]
 cases base with
 | none=>simp only [Sem.run_pure] at hst ⊢; cases hst; rfl
 | some a=>simp only [Sem.run_bind,hst,Result.andThen_ok,Sem.run_pure]
theorem run_append_grow{t t' e ty ln n cap:Nat}{base:Option Addr}{x':Value}{d':TypeDesc}{xs ys:List Value}{i:TypeInfo}{z:Value}(hu:P.underlying t=some (.slice e))(hi:P.info? e=some i)(hz:i.zero=some z)(hty:qg P e=true)
  (hu':P.underlying t'=some d') (hd':∀ k,d' ≠ .int k) (hl:(Builtin.lenOf x').run P w=.ok n w) (hc:cap<ln+n) (hle:ln+n≤4294967296) (hby:P.bytesOf e≤4096)
  (hy:(Builtin.firstCells (P.cellsOf e) ln (.slice base ln cap)).run P w.drew=.ok ys.toArray w.drew)
  (hx:(Builtin.firstCells (P.cellsOf e) n x').run P w.drew=.ok xs.toArray w.drew) :
  ∃ c,ln+n≤c∧(Builtin.append_ #[t,t'] ty #[.slice base ln cap,x']).run P w =
   .ok (.slice (some ⟨w.heap.size,0,none⟩) (ln+n) c) (w.drew.alloc (.cells (ys.toArray++xs.toArray++Builtin.zeroCells z.cells (c - (ln+n))) e)):=by
 have hb:i.bytes=P.bytesOf e:=by simp [Program.bytesOf,hi]
 have hnc : ¬ Builtin.nextslicecap (ln+n) cap * i.bytes > 2 ^ 48:=by
  have h1:=zss (ln+n) cap hc;have h2:Builtin.nextslicecap (ln+n) cap * i.bytes≤(2 * 4294967296+192) * 4096:=Nat.mul_le_mul (by omega) (by omega)
  omega
 have hbig : ¬ ((ln+n:Nat):Int) > IntKind.i64.max:=by
  have:IntKind.i64.max=9223372036854775807:=by decide
  rw [this]; omega
 refine ⟨(Question.appendCap (ln+n) cap e).cut (w.tape w.drawn (.appendCap (ln+n) cap e)),Nat.le_add_right _ _,?_⟩;unfold Builtin.append_
 simp only [List.getElem?_toArray,List.getElem?_cons_zero,List.getElem?_cons_succ,Sem.run_bind,run_underlying hu,run_underlying hu',Result.andThen_ok,wz hty,Sem.run_pure,hl,Bool.false_eq_true,if_false,if_neg (Nat.not_le.2 hc),
  typeInfo,run_program,hi,hbig,false_and,Bool.not_false,if_true]
 rw [if_neg hnc];simp only [Sem.run_bind,Sem.run_pure,run_program,Result.andThen_ok,hi,run_choose,Question.forced,run_askRoom,World.drew_eq,hy,hx,hz,newRow,run_newObj,World.alloc_eq,World.size_drew,Bool.false_eq_true,if_false,zeroValue,typeInfo]
theorem Inv.tailOwn(hi:Inv cx w σ μ){id n b:Nat}(ho:zf σ id=some (.tok n))(hb:(μ id).blk=some b){j:Nat}{o:Ob}{k:Nat}(hj:zf σ j=some o)(hown:owns μ j o b k):j=id:=by
 have key:∃ i,owns μ j o b i∧owns μ id (.tok n) b i:=by
  refine ⟨max k (max (μ id).f (μ j).f),?_,?_⟩
  ·cases o <;> simp only [owns] at hown ⊢ <;> first | exact hown | exact ⟨hown.1,by omega⟩
  ·exact ⟨hb,by omega⟩
 obtain ⟨i,h1,h2⟩:=key;exact hi.apart j id o _ b i hj ho h1 h2
theorem zwj{t t' e ty id:Nat}{sz sz':Nat}{l ys:List D}{s' x':Value}{x:V}{z:List D}(hi:Inv cx w σ μ)(hs:RV w σ μ s' (.sl sz l id))(hx:RV w σ μ x' x)
  (hd:dataOf x (λ a b=>some (a,b))=some (sz',ys))
  (hu:cx.P.underlying t=some (.slice e)) (hz:zeroOf cx.P e=some z) (ht':(match cx.P.underlying t' with | some (.int _)=>false | some _=>true | none=>false)=true)
  (hsz':sz'=cx.P.cellsOf e∨ys=[]) (hsz:szN sz=cx.P.cellsOf e) (hT:zhp sz e) (hby:cx.P.bytesOf e≤4096) (ho:zf σ id=some (.tok l.length)) (hle:l.length+ys.length≤4294967296) :
  ∃ v' w' lo,(Builtin.append_ #[t,t'] ty #[s',x']).run cx.P w=.ok v' w'∧Upd cx w σ μ w' (ze σ [(id,.tok (l.length+ys.length))]) (setMu μ id lo) [id] ∧
   (∀ j∈[id],∀ o',zf (ze σ [(id,.tok (l.length+ys.length))]) j=some o'→zay w' (ze σ [(id,.tok (l.length+ys.length))]) (setMu μ id lo) j o') ∧
   RV w' (ze σ [(id,.tok (l.length+ys.length))]) (setMu μ id lo) v' (.sl sz (l++ys) id):=by
 obtain ⟨sz0,ys0,h0,hlen,hcells⟩:=zep (P:=cx.P) hx hd;cases h0;obtain ⟨hysz,xs,hfx,hxr,hx1⟩:=hcells _ hsz';obtain ⟨i,zv,hti,hzv,hty,ha,hzr,hzone,hzlen,hzfit⟩:=x8 (w:=w) hz;obtain ⟨d',hu',hd'⟩:=zkh ht';have hzc:zv.cells.size=cx.P.cellsOf e:=by have:=(hzr (zp σ μ)).1; simp at this; omega
 have hxl:xs.length=ys.length * cx.P.cellsOf e:=by rw [hxr.1,y5 ys hysz]
 have hnew:zf (ze σ [(id,Ob.tok (l.length+ys.length))]) id=some (.tok (l.length+ys.length)):=by simp [ze,zk]
 have hother:∀ j,j ≠ id→zf (ze σ [(id,Ob.tok (l.length+ys.length))]) j=zf σ j:=λ j hj=>by simp [ze,zk,Ne.symm hj]
 cases hs with
 | sl _ _ _ _ n hrd ht hn htail=>?_
 rw [ho] at ht; cases ht;have htail:=htail rfl;rw [hsz] at hrd;obtain ⟨base,cap,rfl,hcap,hlsz,zs,hzl,hz1,hzsr,hzcell⟩:=hrd.toRow;have hcap:l.length≤cap:=by
  by_cases he:l=[]
  ·subst he; simp
  ·exact hcap he
 have hlsz':∀ y∈l,y.cells.length=cx.P.cellsOf e:=λ y hy=>hlsz (List.ne_nil_of_mem hy) y hy;have hall:∀ y∈l++ys,y.cells.length=cx.P.cellsOf e:=λ y hy=>by
  rcases List.mem_append.1 hy with h | h
  ·exact hlsz' y h
  ·exact hysz y h
 by_cases hroom:l.length+ys.length≤cap
 ·-- in place
  by_cases hys:ys=[]
  ·-- nothing is appended
   subst hys;have hxs:xs=[]:=by simpa using hxl
   subst hxs;have hup:Upd cx w σ μ w (ze σ [(id,Ob.tok (l.length+0))]) (setMu μ id (μ id)) [id]:=by
    have hmu:=zd8 μ id;rw [hmu]
    exact {
     os:=rfl,output:=rfl,size:=Nat.le_refl _,blk:=λ _ _ _=>rfl,cell:=λ _ _ _ _ h=>h,
     fr:=rfl,same:=λ j hj=>⟨hother j (by simpa using hj),rfl⟩,
     own:=λ j hj q hq b i hown _=>by
      simp at hj; subst hj;rw [show zf (ze σ [(j,Ob.tok (l.length+0))]) j=some (.tok (l.length+0)) from hnew] at hq;cases hq;exact ⟨_,ho,hown⟩,
     still:=λ j hj q hq=>by
      simp at hj; subst hj;rw [ho] at hq; cases hq;rw [show zf (ze σ [(j,Ob.tok (l.length+0))]) j=some (.tok (l.length+0)) from hnew];exact ⟨by omega,λ _=>rfl⟩,
     apart:=λ j hj j' hj' _ _ _ _ _ _ _ _ _=>by simp at hj hj'; rw [hj,hj'] }
   have hmu:=zd8 μ id;refine ⟨.slice base (l.length+0) cap,w,μ id,?_,hup,λ j hj o' ho'=>?_,?_⟩
   ·refine v8 hu hty hu' hd' hlen (hfx w (Stays.refl _ _)) (by simpa using hroom) ?_
    cases base <;> rfl
   ·simp at hj; subst hj;rw [hnew] at ho';cases ho';rw [hmu];exact hi.ob j _ ho
   ·rw [List.append_nil];refine .slm hsz ?_ hnew (by simp) λ _=>by rw [hmu]; exact htail
    exact hrd.stays (hup.goes.stays' hi)
  ·-- behind the slice's end
   have hpos:0<ys.length:=List.length_pos_iff.2 hys;rcases zqn hsz htail with ⟨h1,_,_,_⟩ | ⟨b,o,hbase,hb,hf,hend,hnc,hTe⟩
   ·omega
   obtain rfl:=hbase;obtain ⟨cs,el,fr,hh,hel,hcs,hfr⟩:=hi.ob id _ ho b hb;have hmul:(l.length+ys.length) * cx.P.cellsOf e≤cap * cx.P.cellsOf e:=Nat.mul_le_mul_right _ hroom;rw [Nat.add_mul] at hmul;have hfit:o+l.length * cx.P.cellsOf e+0+xs.length≤cs.size:=by rw [hcs,hxl]; omega
   have hst:=xh (P:=cx.P) b (o+l.length * cx.P.cellsOf e) el fr xs 0 cs w hh hfit hfr hx1;simp only [Nat.add_zero] at hst;generalize hncs:(cs.toList.take (o+l.length * cx.P.cellsOf e)++xs++cs.toList.drop (o+l.length * cx.P.cellsOf e+xs.length)).toArray=ncs at hst;have hncsz:ncs.size=cs.size:=by rw [←hncs]; simp; omega
   have hlow:∀ k,k<(μ id).f→ncs[k]?=cs[k]?:=λ k hk=>by
    rw [←hncs];have:k<o+l.length * cx.P.cellsOf e:=by omega
    simp only [List.getElem?_toArray,List.append_assoc];rw [List.getElem?_append_left (by simp; omega),List.getElem?_take,if_pos this]
    simp
   have hmid:∀ (k:Nat) v,xs[k]?=some v→ncs[o+l.length * cx.P.cellsOf e+k]?=some v:=λ k v hk=>by
    rw [←hncs];have hkl:=(pr.1 hk).1;have hmin:min (o+l.length * cx.P.cellsOf e) cs.size=o+l.length * cx.P.cellsOf e:=by omega
    simp only [List.getElem?_toArray,List.append_assoc];rw [List.getElem?_append_right (by simp; omega)]
    rw [List.getElem?_append_left (by simp [hmin]; omega)]
    rw [←hk];congr 1;simp [hmin]
   have hnh:(w.setRow b ncs).heap[b]?=some (.cells ncs el fr):=setRow_heap w b cs ncs el fr hh
   let lo:Lo:=⟨some b,(μ id).f+xs.length,(μ id).e,(μ id).el⟩
   have hup:Upd cx w σ μ (w.setRow b ncs) (ze σ [(id,Ob.tok (l.length+ys.length))]) (setMu μ id lo) [id]:={
    os:=rfl,output:=rfl,size:=by rw [setRow_size]; exact Nat.le_refl _,
    blk:=λ b' _ hn=>by
     have hne:b' ≠ b:=λ h=>hn id (by simp) _ ho (μ id).f (by rw [h]; exact ⟨hb,Nat.le_refl _⟩)
     exact setRow_other _ _ _ hne,
    cell:=λ b' k v hn hc=>by
     by_cases hbb:b'=b
     ·subst hbb;have hk:k<(μ id).f:=Nat.lt_of_not_le λ h=>hn id (by simp) _ ho ⟨hb,h⟩
      rw [cell_of_heap hnh,hlow k hk,←cell_of_heap (i:=k) hh];exact hc
     ·unfold World.cell? at hc ⊢;simp only at hc ⊢;rw [setRow_other _ _ _ hbb];exact hc,
    fr:=rfl,same:=λ j hj=>by
     have hj:j ≠ id:=by simpa using hj
     exact ⟨hother j hj,by simp [setMu,hj]⟩,
    own:=λ j hj q hq b' k hown _=>by
     simp at hj; subst hj;rw [hnew] at hq; cases hq;refine ⟨_,ho,?_⟩;have h1:some b=some b':=by simpa [setMu,lo] using hown.1
     have h2:(μ j).f+xs.length≤k:=by simpa [setMu,lo] using hown.2
     exact ⟨hb.trans h1,by omega⟩,
    still:=λ j hj q hq=>by
     simp at hj; subst hj;rw [ho] at hq; cases hq;rw [hnew];exact ⟨by omega,λ h=>by omega⟩,
    apart:=λ j hj j' hj' _ _ _ _ _ _ _ _ _=>by simp at hj hj'; rw [hj,hj'] }
   have hs:=hup.goes.stays' hi;refine ⟨.slice (some ⟨b,o,none⟩) (l.length+ys.length) cap,w.setRow b ncs,lo,?_,hup,λ j hj o' ho'=>?_,?_⟩
   ·refine v8 hu hty hu' hd' hlen (hfx w (Stays.refl _ _)) hroom ?_;simp only [addr_add];exact hst
   ·simp at hj; subst hj;rw [hnew] at ho'; cases ho';intro b' hb';have hbb:b=b':=by simpa [setMu,lo] using hb'
    subst hbb;exact ⟨ncs,el,fr,hnh,by simp [setMu,lo,hel],by simp [setMu,lo,hncsz,hcs],by rw [hncsz]; exact hfr⟩
   ·refine .slm hsz ?_ hnew (by simp) λ _=>zd3 hsz (by simp [setMu,lo]) ?_ (by simpa [setMu,lo] using hend) hroom (by simpa [setMu,lo] using hTe.more (Nat.le_add_right _ ys.length))
    ·refine RD.ofRow hnh (by simp) hroom hall (λ k c hk=>?_) λ k hk hown=>?_
     ·rw [qt] at hk;have hfl:=y5 l hlsz';by_cases hkl:k<(ye l).length
      ·rw [List.getElem?_append_left hkl] at hk;obtain ⟨v,hv⟩:=yo (l:=zs) (i:=k) (by rw [hzsr.1]; exact hkl)
       have hne:l ≠ []:=by intro h; subst h; simp [ye] at hkl
       obtain ⟨b1,o1,hb1,hc1⟩:=hzcell hne;cases hb1;have hc2:=(hc1 k v hv).1;rw [cell_of_heap hh] at hc2;refine ⟨v,?_,(hzsr.2 k v c hv hk).stays hs,hz1 v (pz hv)⟩;rw [hlow _ (by omega)]
       exact hc2
      ·rw [List.getElem?_append_right (by omega)] at hk
       obtain ⟨v,hv⟩:=yo (l:=xs) (i:=k - (ye l).length) (by rw [hxr.1]; exact (pr.1 hk).1)
       refine ⟨v,?_,(hxr.2 _ v c hv hk).stays hs,hx1 v (pz hv)⟩;have:=hmid _ v hv;rw [hfl] at this hkl;rw [show o+k=o+l.length * cx.P.cellsOf e+(k - l.length * cx.P.cellsOf e) by omega]
       exact this
     ·rcases hown with hfr | ⟨j,q,hj,hq⟩
      ·exact hi.frame id _ b _ ho ⟨hb,Nat.le_refl _⟩ _ hfr
      by_cases hjid:j=id
      ·subst hjid;rw [hnew] at hj; cases hj;have h2:(μ j).f+xs.length≤o+k:=by simpa [setMu,lo] using hq.2
       rw [Nat.add_mul] at hk;omega
      ·rw [hother j hjid] at hj;exact hjid (hi.tailOwn ho hb hj ((x2 (by simp [setMu,hjid]) q _ _).1 hq))
    ·simp only [setMu,lo,if_true];rw [Nat.add_mul,hxl]; omega
 ·-- a new array
  have hgrow:cap<l.length+ys.length:=by omega
  have hpos:0<ys.length:=by omega
  have hfz:(Builtin.firstCells (cx.P.cellsOf e) l.length (.slice base l.length cap)).run cx.P w.drew=.ok zs.toArray w.drew:=by
   by_cases he:l=[]
   ·subst he;have:zs=[]:=by simpa using hzl
    subst this;cases base with
    | none=>rfl
    | some a=>simp only [Builtin.firstCells,p8,Nat.zero_mul]; rfl
   ·obtain ⟨b,o,rfl,hc⟩:=hzcell he;simp only [Builtin.firstCells];have:=run_loadCells_list (P:=cx.P) w.drew ⟨b,o,none⟩ zs (λ j x hx=>by rw [addr_add]; exact (hc j x hx).1)
    rw [hzl] at this;exact this
  obtain ⟨c,hc,hrun⟩:=run_append_grow (ty:=ty) hu hti hzv hty hu' hd' hlen hgrow hle hby hfz (hfx w.drew zek);generalize hncs:zs.toArray++xs.toArray++Builtin.zeroCells zv.cells (c - (l.length+ys.length))=ncs at hrun
  let lo:Lo:=⟨some w.heap.size,(l.length+ys.length) * cx.P.cellsOf e,c * cx.P.cellsOf e,e⟩
  have hsize:ncs.size=c * cx.P.cellsOf e:=by
   rw [←hncs];simp only [Array.size_append,List.size_toArray,wh,hzl,hxl,hzc];have:c=l.length+ys.length+(c - (l.length+ys.length)):=by omega
   rw [this];simp only [Nat.add_mul,Nat.add_sub_cancel_left]
  have hnh:(w.drew.alloc (.cells ncs e)).heap[w.heap.size]?=some (.cells ncs e (0,0)):=wj (w:=w.drew);have hold:∀ b,b<w.heap.size→(w.drew.alloc (.cells ncs e)).heap[b]?=w.heap[b]?:=λ b hb=>alloc_old (w:=w.drew) b hb
  have hup:Upd cx w σ μ (w.drew.alloc (.cells ncs e)) (ze σ [(id,Ob.tok (l.length+ys.length))]) (setMu μ id lo) [id]:={
   os:=rfl,output:=rfl,size:=by simp,
   blk:=λ b' hb' _=>hold b' hb',
   cell:=λ b' k v _ hc=>by
    have:=hold b' (lt_of_cell hc);unfold World.cell? at hc ⊢;simp only at hc ⊢;rw [this];exact hc,
   fr:=rfl,same:=λ j hj=>by
    have hj:j ≠ id:=by simpa using hj
    exact ⟨hother j hj,by simp [setMu,hj]⟩,
   own:=λ j hj q hq b' k hown hlt=>by
    simp at hj; subst hj;rw [hnew] at hq; cases hq;have h1:w.heap.size=b':=by simpa [setMu,lo] using hown.1
    omega,
   still:=λ j hj q hq=>by
    simp at hj; subst hj;rw [ho] at hq; cases hq;rw [hnew];exact ⟨by omega,λ h=>by omega⟩,
   apart:=λ j hj j' hj' _ _ _ _ _ _ _ _ _=>by simp at hj hj'; rw [hj,hj'] }
  have hs:=hup.goes.stays' hi;refine ⟨_,_,lo,hrun,hup,λ j hj o' ho'=>?_,?_⟩
  ·simp at hj; subst hj;rw [hnew] at ho'; cases ho';intro b' hb';have hbb:w.heap.size=b':=by simpa [setMu,lo] using hb'
   subst hbb;exact ⟨ncs,e,(0,0),hnh,by simp [setMu,lo],by simp [setMu,lo,hsize],.inl rfl⟩
  ·refine .slm hsz ?_ hnew (by simp) λ _=>zd3 hsz (by simp [setMu,lo]) (by simp [setMu,lo]) (by simp [setMu,lo]) hc (by simpa [setMu,lo] using hT.o (show 0<l.length+ys.length by omega))
   refine RD.ofRow hnh (by simp) hc hall (λ k c' hk=>?_) λ k hk hown=>?_
   ·rw [qt] at hk;rw [Nat.zero_add];by_cases hkl:k<(ye l).length
    ·rw [List.getElem?_append_left hkl] at hk;obtain ⟨v,hv⟩:=yo (l:=zs) (i:=k) (by rw [hzsr.1]; exact hkl)
     refine ⟨v,?_,(hzsr.2 k v c' hv hk).stays hs,hz1 v (pz hv)⟩;have hkz:=(pr.1 hv).1;rw [←hncs,Array.getElem?_append_left (by simp; omega),Array.getElem?_append_left (by simpa using hkz)]
     simpa using hv
    ·rw [List.getElem?_append_right (by omega)] at hk
     obtain ⟨v,hv⟩:=yo (l:=xs) (i:=k - (ye l).length) (by rw [hxr.1]; exact (pr.1 hk).1)
     refine ⟨v,?_,(hxr.2 _ v c' hv hk).stays hs,hx1 v (pz hv)⟩;have hkx:=(pr.1 hv).1;have hzf:=hzsr.1;rw [←hncs,Array.getElem?_append_left (by simp; omega),Array.getElem?_append_right (by simp; omega)]
     simp only [List.size_toArray,hzf];simpa using hv
   ·rcases hown with hfr | ⟨j,q,hj,hq⟩
    ·exact absurd (hi.frLt _ _ hfr) (by omega)
    by_cases hjid:j=id
    ·subst hjid;rw [hnew] at hj; cases hj;have h2:(l.length+ys.length) * cx.P.cellsOf e≤0+k:=by simpa [setMu,lo] using hq.2
     omega
    ·rw [hother j hjid] at hj;have:=zb6 hi hj ((x2 (by simp [setMu,hjid]) q _ _).1 hq)
     omega
end
section
variable {R:Type} {P:Program} {cx:Cx} {w w':World} {σ:St} {μ μ':Mu}
theorem zzv{t t' e ty id:Nat}{sz sz':Nat}{l ps:List D}{y:D}{s' x':Value}{x:V}{z:List D}{vs:List Value}(hi:Inv cx w σ μ)(hs:RV w σ μ s' (.sl sz l id))(hx:RV w σ μ x' x)
  (hd:dataOf x (λ a b=>some (a,b))=some (sz',ps)) (hps:ps.length=1) (hvr:RDs w (zp σ μ) vs y.cells) (hv1:∀ x∈vs,x.oneCell'=true) (hyc:y.cells.length=cx.P.cellsOf e)
  (hu:cx.P.underlying t=some (.slice e)) (hz:zeroOf cx.P e=some z) (ht':(match cx.P.underlying t' with | some (.int _)=>false | some _=>true | none=>false)=true)
  (hsz':sz'=cx.P.cellsOf e∨ps=[]) (hsz:szN sz=cx.P.cellsOf e) (hT:zhp sz e) (hby:cx.P.bytesOf e≤4096) (ho:zf σ id=some (.tok l.length)) (hle:l.length+1≤4294967296) :
  ∃ b o cap w1 w' lo,(Builtin.append_ #[t,t'] ty #[s',x']).run cx.P w=.ok (.slice (some ⟨b,o,none⟩) (l.length+1) cap) w1 ∧
   (storeCells ⟨b,o+l.length * cx.P.cellsOf e,none⟩ vs).run cx.P w1=.ok () w'∧Upd cx w σ μ w' (ze σ [(id,.tok (l.length+1))]) (setMu μ id lo) [id] ∧
   (∀ j∈[id],∀ o',zf (ze σ [(id,.tok (l.length+1))]) j=some o'→zay w' (ze σ [(id,.tok (l.length+1))]) (setMu μ id lo) j o') ∧
   RV w' (ze σ [(id,.tok (l.length+1))]) (setMu μ id lo) (.slice (some ⟨b,o,none⟩) (l.length+1) cap) (.sl sz (l++[y]) id)∧lo.blk=some b ∧
   ∃ ncs,w'=w1.setRow b ncs∧∀ w2:World,w2.heap[b]?=w1.heap[b]?→(storeCells ⟨b,o+l.length * cx.P.cellsOf e,none⟩ vs).run cx.P w2=.ok () (w2.setRow b ncs):=by
 obtain ⟨sz0,ys0,h0,hlen,hcells⟩:=zep (P:=cx.P) hx hd;cases h0;obtain ⟨hpsz,xs0,hfx0,hxr0,hx01⟩:=hcells _ hsz';rw [hps] at hlen hfx0;have hysz:∀ q∈[y],q.cells.length=cx.P.cellsOf e:=λ q hq=>by simp at hq; subst hq; exact hyc
 obtain ⟨i,zv,hti,hzv,hty,ha,hzr,hzone,hzlen,hzfit⟩:=x8 (w:=w) hz;obtain ⟨d',hu',hd'⟩:=zkh ht';have hzc:zv.cells.size=cx.P.cellsOf e:=by have:=(hzr (zp σ μ)).1; simp at this; omega
 have hfy:ye [y]=y.cells:=by simp [ye]
 have hxl0:xs0.length=1 * cx.P.cellsOf e:=by rw [hxr0.1,y5 ps hpsz,hps]
 have hxl:vs.length=1 * cx.P.cellsOf e:=by rw [hvr.1,hyc,Nat.one_mul]
 have hxr:RDs w (zp σ μ) vs (ye [y]):=by rw [hfy]; exact hvr
 have hnew:zf (ze σ [(id,Ob.tok (l.length+1))]) id=some (.tok (l.length+1)):=by simp [ze,zk]
 have hother:∀ j,j ≠ id→zf (ze σ [(id,Ob.tok (l.length+1))]) j=zf σ j:=λ j hj=>by simp [ze,zk,Ne.symm hj]
 cases hs with
 | sl _ _ _ _ n hrd ht hn htail=>?_
 rw [ho] at ht; cases ht;have htail:=htail rfl;rw [hsz] at hrd;obtain ⟨base,cap,rfl,hcap,hlsz,zs,hzl,hz1,hzsr,hzcell⟩:=hrd.toRow;have hcap:l.length≤cap:=by
  by_cases he:l=[]
  ·subst he; simp
  ·exact hcap he
 have hlsz':∀ y∈l,y.cells.length=cx.P.cellsOf e:=λ y hy=>hlsz (List.ne_nil_of_mem hy) y hy;have hall:∀ q∈l++[y],q.cells.length=cx.P.cellsOf e:=λ q hq=>by
  rcases List.mem_append.1 hq with h | h
  ·exact hlsz' q h
  ·exact hysz q h
 by_cases hroom:l.length+1≤cap
 ·-- in place
  ·-- behind the slice's end
   rcases zqn hsz htail with ⟨h1,_,_,_⟩ | ⟨b,o,hbase,hb,hf,hend,hnc,hTe⟩
   ·omega
   obtain rfl:=hbase;obtain ⟨cs,el,fr,hh,hel,hcs,hfr⟩:=hi.ob id _ ho b hb;have hmul:(l.length+1) * cx.P.cellsOf e≤cap * cx.P.cellsOf e:=Nat.mul_le_mul_right _ hroom;rw [Nat.add_mul] at hmul;have hfit:o+l.length * cx.P.cellsOf e+0+vs.length≤cs.size:=by rw [hcs,hxl]; omega
   have hst0:=xh (P:=cx.P) b (o+l.length * cx.P.cellsOf e) el fr xs0 0 cs w hh (by rw [hxl0]; rw [hxl] at hfit; exact hfit) hfr hx01
   simp only [Nat.add_zero] at hst0;generalize hncs0:(cs.toList.take (o+l.length * cx.P.cellsOf e)++xs0++cs.toList.drop (o+l.length * cx.P.cellsOf e+xs0.length)).toArray=ncs0 at hst0;have hn0:ncs0.size=cs.size:=by rw [←hncs0]; simp; omega
   have hst:=xh (P:=cx.P) b (o+l.length * cx.P.cellsOf e) el fr vs 0 ncs0 (w.setRow b ncs0) (setRow_heap w b cs ncs0 el fr hh) (by rw [hn0]; exact hfit) (by rw [hn0]; exact hfr) hv1
   simp only [Nat.add_zero] at hst;have hsame:(ncs0.toList.take (o+l.length * cx.P.cellsOf e)++vs++ncs0.toList.drop (o+l.length * cx.P.cellsOf e+vs.length))=(cs.toList.take (o+l.length * cx.P.cellsOf e)++vs++cs.toList.drop (o+l.length * cx.P.cellsOf e+vs.length)):=by
    have hmin:min (o+l.length * cx.P.cellsOf e) cs.size=o+l.length * cx.P.cellsOf e:=by omega
    rw [←hncs0];simp only;congr 1
    ·congr 1;rw [List.append_assoc,List.take_append_of_le_length (by simp [hmin]),List.take_take,Nat.min_self]
    ·rw [List.drop_append,List.drop_eq_nil_of_le (by simp [hmin]; omega),List.nil_append,List.drop_drop]
     congr 1;simp [hmin]; omega
   rw [hsame,setRow_setRow] at hst;generalize hncs:(cs.toList.take (o+l.length * cx.P.cellsOf e)++vs++cs.toList.drop (o+l.length * cx.P.cellsOf e+vs.length)).toArray=ncs at hst;have hncsz:ncs.size=cs.size:=by rw [←hncs]; simp; omega
   have hlow:∀ k,k<(μ id).f→ncs[k]?=cs[k]?:=λ k hk=>by
    rw [←hncs];have:k<o+l.length * cx.P.cellsOf e:=by omega
    simp only [List.getElem?_toArray,List.append_assoc];rw [List.getElem?_append_left (by simp; omega),List.getElem?_take,if_pos this]
    simp
   have hmid:∀ (k:Nat) v,vs[k]?=some v→ncs[o+l.length * cx.P.cellsOf e+k]?=some v:=λ k v hk=>by
    rw [←hncs];have hkl:=(pr.1 hk).1;have hmin:min (o+l.length * cx.P.cellsOf e) cs.size=o+l.length * cx.P.cellsOf e:=by omega
    simp only [List.getElem?_toArray,List.append_assoc];rw [List.getElem?_append_right (by simp; omega)]
    rw [List.getElem?_append_left (by simp [hmin]; omega)]
    rw [←hk];congr 1;simp [hmin]
   have hnh:(w.setRow b ncs).heap[b]?=some (.cells ncs el fr):=setRow_heap w b cs ncs el fr hh
   let lo:Lo:=⟨some b,(μ id).f+vs.length,(μ id).e,(μ id).el⟩
   have hup:Upd cx w σ μ (w.setRow b ncs) (ze σ [(id,Ob.tok (l.length+1))]) (setMu μ id lo) [id]:={
    os:=rfl,output:=rfl,size:=by rw [setRow_size]; exact Nat.le_refl _,
    blk:=λ b' _ hn=>by
     have hne:b' ≠ b:=λ h=>hn id (by simp) _ ho (μ id).f (by rw [h]; exact ⟨hb,Nat.le_refl _⟩)
     exact setRow_other _ _ _ hne,
    cell:=λ b' k v hn hc=>by
     by_cases hbb:b'=b
     ·subst hbb;have hk:k<(μ id).f:=Nat.lt_of_not_le λ h=>hn id (by simp) _ ho ⟨hb,h⟩
      rw [cell_of_heap hnh,hlow k hk,←cell_of_heap (i:=k) hh];exact hc
     ·unfold World.cell? at hc ⊢;simp only at hc ⊢;rw [setRow_other _ _ _ hbb];exact hc,
    fr:=rfl,same:=λ j hj=>by
     have hj:j ≠ id:=by simpa using hj
     exact ⟨hother j hj,by simp [setMu,hj]⟩,
    own:=λ j hj q hq b' k hown _=>by
     simp at hj; subst hj;rw [hnew] at hq; cases hq;refine ⟨_,ho,?_⟩;have h1:some b=some b':=by simpa [setMu,lo] using hown.1
     have h2:(μ j).f+vs.length≤k:=by simpa [setMu,lo] using hown.2
     exact ⟨hb.trans h1,by omega⟩,
    still:=λ j hj q hq=>by
     simp at hj; subst hj;rw [ho] at hq; cases hq;rw [hnew];exact ⟨by omega,λ h=>by omega⟩,
    apart:=λ j hj j' hj' _ _ _ _ _ _ _ _ _=>by simp at hj hj'; rw [hj,hj'] }
   have hs:=hup.goes.stays' hi;have hall2:∀ w2:World,w2.heap[b]?=(w.setRow b ncs0).heap[b]?→(storeCells ⟨b,o+l.length * cx.P.cellsOf e,none⟩ vs).run cx.P w2=.ok () (w2.setRow b ncs):=by
    intro w2 h2;have h3:w2.heap[b]?=some (.cells ncs0 el fr):=h2.trans (setRow_heap w b cs ncs0 el fr hh);have:=xh (P:=cx.P) b (o+l.length * cx.P.cellsOf e) el fr vs 0 ncs0 w2 h3 (by rw [hn0]; exact hfit) (by rw [hn0]; exact hfr) hv1
    simp only [Nat.add_zero] at this;rw [hsame,hncs] at this;exact this
   refine ⟨b,o,cap,w.setRow b ncs0,w.setRow b ncs,lo,?_,hst,hup,λ j hj o' ho'=>?_,?_,rfl,ncs,(setRow_setRow ..).symm,hall2⟩
   ·refine v8 hu hty hu' hd' hlen (hfx0 w (Stays.refl _ _)) hroom ?_;simp only [addr_add];exact hst0
   ·simp at hj; subst hj;rw [hnew] at ho'; cases ho';intro b' hb';have hbb:b=b':=by simpa [setMu,lo] using hb'
    subst hbb;exact ⟨ncs,el,fr,hnh,by simp [setMu,lo,hel],by simp [setMu,lo,hncsz,hcs],by rw [hncsz]; exact hfr⟩
   ·refine .slm hsz ?_ hnew (by simp) λ _=>zd3 hsz (by simp [setMu,lo]) ?_ (by simpa [setMu,lo] using hend) hroom (by simpa [setMu,lo] using hTe.more (Nat.le_succ _))
    ·refine RD.ofRow hnh (by simp) hroom hall (λ k c hk=>?_) λ k hk hown=>?_
     ·rw [qt] at hk;have hfl:=y5 l hlsz';by_cases hkl:k<(ye l).length
      ·rw [List.getElem?_append_left hkl] at hk;obtain ⟨v,hv⟩:=yo (l:=zs) (i:=k) (by rw [hzsr.1]; exact hkl)
       have hne:l ≠ []:=by intro h; subst h; simp [ye] at hkl
       obtain ⟨b1,o1,hb1,hc1⟩:=hzcell hne;cases hb1;have hc2:=(hc1 k v hv).1;rw [cell_of_heap hh] at hc2;refine ⟨v,?_,(hzsr.2 k v c hv hk).stays hs,hz1 v (pz hv)⟩;rw [hlow _ (by omega)]
       exact hc2
      ·rw [List.getElem?_append_right (by omega)] at hk
       obtain ⟨v,hv⟩:=yo (l:=vs) (i:=k - (ye l).length) (by rw [hxr.1]; exact (pr.1 hk).1)
       refine ⟨v,?_,(hxr.2 _ v c hv hk).stays hs,hv1 v (pz hv)⟩;have:=hmid _ v hv;rw [hfl] at this hkl;rw [show o+k=o+l.length * cx.P.cellsOf e+(k - l.length * cx.P.cellsOf e) by omega]
       exact this
     ·rcases hown with hfr | ⟨j,q,hj,hq⟩
      ·exact hi.frame id _ b _ ho ⟨hb,Nat.le_refl _⟩ _ hfr
      by_cases hjid:j=id
      ·subst hjid;rw [hnew] at hj; cases hj;have h2:(μ j).f+vs.length≤o+k:=by simpa [setMu,lo] using hq.2
       rw [Nat.add_mul] at hk;omega
      ·rw [hother j hjid] at hj;exact hjid (hi.tailOwn ho hb hj ((x2 (by simp [setMu,hjid]) q _ _).1 hq))
    ·simp only [setMu,lo,if_true];rw [Nat.add_mul,hxl]; omega
 ·-- a new array
  have hgrow:cap<l.length+1:=by omega
  have hfz:(Builtin.firstCells (cx.P.cellsOf e) l.length (.slice base l.length cap)).run cx.P w.drew=.ok zs.toArray w.drew:=by
   by_cases he:l=[]
   ·subst he;have:zs=[]:=by simpa using hzl
    subst this;cases base with
    | none=>rfl
    | some a=>simp only [Builtin.firstCells,p8,Nat.zero_mul]; rfl
   ·obtain ⟨b,o,rfl,hc⟩:=hzcell he;simp only [Builtin.firstCells];have:=run_loadCells_list (P:=cx.P) w.drew ⟨b,o,none⟩ zs (λ j x hx=>by rw [addr_add]; exact (hc j x hx).1)
    rw [hzl] at this;exact this
  obtain ⟨c,hc,hrun⟩:=run_append_grow (ty:=ty) hu hti hzv hty hu' hd' hlen hgrow hle hby hfz (hfx0 w.drew zek);generalize hncs0:zs.toArray++xs0.toArray++Builtin.zeroCells zv.cells (c - (l.length+1))=ncs0 at hrun;generalize hncs:zs.toArray++vs.toArray++Builtin.zeroCells zv.cells (c - (l.length+1))=ncs
  let lo:Lo:=⟨some w.heap.size,(l.length+1) * cx.P.cellsOf e,c * cx.P.cellsOf e,e⟩
  have hsize:ncs.size=c * cx.P.cellsOf e:=by
   rw [←hncs];simp only [Array.size_append,List.size_toArray,wh,hzl,hxl,hzc];have:c=l.length+1+(c - (l.length+1)):=by omega
   rw [this];simp only [Nat.add_mul,Nat.add_sub_cancel_left]
  have hsize0:ncs0.size=c * cx.P.cellsOf e:=by
   rw [←hncs0];simp only [Array.size_append,List.size_toArray,wh,hzl,hxl0,hzc];have:c=l.length+1+(c - (l.length+1)):=by omega
   rw [this];simp only [Nat.add_mul,Nat.add_sub_cancel_left]
  have hcmul:(l.length+1) * cx.P.cellsOf e≤c * cx.P.cellsOf e:=Nat.mul_le_mul_right _ hc;rw [Nat.add_mul] at hcmul;have hst:=xh (P:=cx.P) w.heap.size (0+l.length * cx.P.cellsOf e) e (0,0) vs 0 ncs0 (w.drew.alloc (.cells ncs0 e)) (wj (w:=w.drew)) (by rw [hsize0,hxl]; omega) (.inl rfl) hv1
  simp only [Nat.add_zero,Nat.zero_add] at hst;have hsame:(ncs0.toList.take (l.length * cx.P.cellsOf e)++vs++ncs0.toList.drop (l.length * cx.P.cellsOf e+vs.length)).toArray=ncs:=by
   rw [←hncs0,←hncs];apply Array.ext';simp only [Array.toList_append];congr 1
   ·congr 1;rw [List.append_assoc,List.take_append_of_le_length (by omega),List.take_of_length_le (by omega)]
   ·rw [List.drop_append,List.drop_eq_nil_of_le (by simp; omega),List.nil_append]
    have:l.length * cx.P.cellsOf e+vs.length - (zs++xs0).length=0:=by simp; omega
    rw [this,List.drop_zero]
  rw [hsame] at hst;have hws:(w.drew.alloc (.cells ncs0 e)).setRow w.heap.size ncs=w.drew.alloc (.cells ncs e):=by
   unfold World.setRow World.alloc;congr 1;apply Array.ext_getElem?;intro k;simp only [Array.getElem?_modify,Array.getElem?_push];have hsd:w.drew.heap.size=w.heap.size:=rfl;by_cases hk:k=w.heap.size
   ·subst hk; simp [hsd]
   ·simp [hsd,hk,Ne.symm hk]
  rw [hws] at hst;have hnh:(w.drew.alloc (.cells ncs e)).heap[w.heap.size]?=some (.cells ncs e (0,0)):=wj (w:=w.drew);have hold:∀ b,b<w.heap.size→(w.drew.alloc (.cells ncs e)).heap[b]?=w.heap[b]?:=λ b hb=>alloc_old (w:=w.drew) b hb
  have hup:Upd cx w σ μ (w.drew.alloc (.cells ncs e)) (ze σ [(id,Ob.tok (l.length+1))]) (setMu μ id lo) [id]:={
   os:=rfl,output:=rfl,size:=by simp,
   blk:=λ b' hb' _=>hold b' hb',
   cell:=λ b' k v _ hc=>by
    have:=hold b' (lt_of_cell hc);unfold World.cell? at hc ⊢;simp only at hc ⊢;rw [this];exact hc,
   fr:=rfl,same:=λ j hj=>by
    have hj:j ≠ id:=by simpa using hj
    exact ⟨hother j hj,by simp [setMu,hj]⟩,
   own:=λ j hj q hq b' k hown hlt=>by
    simp at hj; subst hj;rw [hnew] at hq; cases hq;have h1:w.heap.size=b':=by simpa [setMu,lo] using hown.1
    omega,
   still:=λ j hj q hq=>by
    simp at hj; subst hj;rw [ho] at hq; cases hq;rw [hnew];exact ⟨by omega,λ h=>by omega⟩,
   apart:=λ j hj j' hj' _ _ _ _ _ _ _ _ _=>by simp at hj hj'; rw [hj,hj'] }
  have hs:=hup.goes.stays' hi;have hall2:∀ w2:World,w2.heap[w.heap.size]?=(w.drew.alloc (.cells ncs0 e)).heap[w.heap.size]?→(storeCells ⟨w.heap.size,0+l.length * cx.P.cellsOf e,none⟩ vs).run cx.P w2=.ok () (w2.setRow w.heap.size ncs):=by
   intro w2 h2;have h3:w2.heap[w.heap.size]?=some (.cells ncs0 e (0,0)):=h2.trans (wj (w:=w.drew));have:=xh (P:=cx.P) w.heap.size (0+l.length * cx.P.cellsOf e) e (0,0) vs 0 ncs0 w2 h3 (by rw [hsize0,hxl]; omega) (.inl rfl) hv1
   simp only [Nat.add_zero,Nat.zero_add] at this;rw [hsame] at this;rw [Nat.zero_add];exact this
  refine ⟨w.heap.size,0,c,_,_,lo,hrun,by rw [Nat.zero_add]; exact hst,hup,λ j hj o' ho'=>?_,?_,rfl,ncs,hws.symm,hall2⟩
  ·simp at hj; subst hj;rw [hnew] at ho'; cases ho';intro b' hb';have hbb:w.heap.size=b':=by simpa [setMu,lo] using hb'
   subst hbb;exact ⟨ncs,e,(0,0),hnh,by simp [setMu,lo],by simp [setMu,lo,hsize],.inl rfl⟩
  ·refine .slm hsz ?_ hnew (by simp) λ _=>zd3 hsz (by simp [setMu,lo]) (by simp [setMu,lo]) (by simp [setMu,lo]) hc (by simpa [setMu,lo] using hT.o (Nat.succ_pos l.length))
   refine RD.ofRow hnh (by simp) hc hall (λ k c' hk=>?_) λ k hk hown=>?_
   ·rw [qt] at hk;rw [Nat.zero_add];by_cases hkl:k<(ye l).length
    ·rw [List.getElem?_append_left hkl] at hk;obtain ⟨v,hv⟩:=yo (l:=zs) (i:=k) (by rw [hzsr.1]; exact hkl)
     refine ⟨v,?_,(hzsr.2 k v c' hv hk).stays hs,hz1 v (pz hv)⟩;have hkz:=(pr.1 hv).1;rw [←hncs,Array.getElem?_append_left (by simp; omega),Array.getElem?_append_left (by simpa using hkz)]
     simpa using hv
    ·rw [List.getElem?_append_right (by omega)] at hk
     obtain ⟨v,hv⟩:=yo (l:=vs) (i:=k - (ye l).length) (by rw [hxr.1]; exact (pr.1 hk).1)
     refine ⟨v,?_,(hxr.2 _ v c' hv hk).stays hs,hv1 v (pz hv)⟩;have hkx:=(pr.1 hv).1;have hzf:=hzsr.1;rw [←hncs,Array.getElem?_append_left (by simp; omega),Array.getElem?_append_right (by simp; omega)]
     simp only [List.size_toArray,hzf];simpa using hv
   ·rcases hown with hfr | ⟨j,q,hj,hq⟩
    ·exact absurd (hi.frLt _ _ hfr) (by omega)
    by_cases hjid:j=id
    ·subst hjid;rw [hnew] at hj; cases hj;have h2:(l.length+1) * cx.P.cellsOf e≤0+k:=by simpa [setMu,lo] using hq.2
     omega
    ·rw [hother j hjid] at hj;have:=zb6 hi hj ((x2 (by simp [setMu,hjid]) q _ _).1 hq)
     omega
end
section
variable {R:Type} {P:Program} {cx:Cx} {w w':World} {σ:St} {μ μ':Mu}
theorem zev{id:Nat}{ob:Ob}(hf:zf σ id=none):Upd cx w σ μ w (ze σ [(id,ob)]) (setMu μ id ⟨none,0,0,0⟩) [id]:=
 zg3 (δ:=[(id,ob)]) rfl rfl (Nat.le_refl _) (λ _ _=>rfl) (by simp [z8,hf]) rfl (λ j hj=>by simp at hj; simp [setMu,hj])
  (λ j hj b hb=>by simp at hj; subst hj; simp [setMu] at hb) (λ j hj j' hj' b _ _=>by simp at hj hj'; rw [hj,hj'])
theorem zeu{id sz cap:Nat}{base:Option Addr}(hf:zf σ id=none)(hc:cap=0)(hb:sz<1048576∨base=none) :
  (∀ j∈[id],∀ o',zf (ze σ [(id,.tok 0)]) j=some o'→zay w (ze σ [(id,.tok 0)]) (setMu μ id ⟨none,0,0,0⟩) j o') ∧
   RV w (ze σ [(id,.tok 0)]) (setMu μ id ⟨none,0,0,0⟩) (.slice base 0 cap) (.sl sz [] id):=by
 refine ⟨λ j hj o' ho'=>?_,?_⟩
 ·simp at hj; subst hj;simp only [ze,zk,if_pos] at ho';cases ho';intro b hb;simp [setMu] at hb
 ·exact .sl _ _ _ id 0 (.sl0 _ _ _) (by simp [ze,zk]) (Nat.le_refl _) λ _=>.inl ⟨hc,rfl,by simp [setMu],hb⟩
theorem znk{t t' e ty id:Nat}{sz':Nat}{ys:List D}{x':Value}{x:V}{z:List D}(hi:Inv cx w σ μ)(hx:RV w σ μ x' x)
  (hd:dataOf x (λ a b=>some (a,b))=some (sz',ys))
  (hu:cx.P.underlying t=some (.slice e)) (hz:zeroOf cx.P e=some z) (ht':(match cx.P.underlying t' with | some (.int _)=>false | some _=>true | none=>false)=true)
  (hsz':sz'=cx.P.cellsOf e∨ys=[]) (hby:cx.P.bytesOf e≤4096) (hf:zf σ id=none) (hle:ys.length≤4294967296) (hsm:cx.P.cellsOf e<1048576) :
  ∃ v' w' lo,(Builtin.append_ #[t,t'] ty #[.slice none 0 0,x']).run cx.P w=.ok v' w'∧Upd cx w σ μ w' (ze σ [(id,.tok ys.length)]) (setMu μ id lo) [id] ∧
   (∀ j∈[id],∀ o',zf (ze σ [(id,.tok ys.length)]) j=some o'→zay w' (ze σ [(id,.tok ys.length)]) (setMu μ id lo) j o') ∧
   RV w' (ze σ [(id,.tok ys.length)]) (setMu μ id lo) v' (.sl (cx.P.cellsOf e) ys id):=by
 obtain ⟨sz0,ys0,h0,hlen,hcells⟩:=zep (P:=cx.P) hx hd;cases h0;obtain ⟨hysz,xs,hfx,hxr,hx1⟩:=hcells _ hsz';obtain ⟨i,zv,hti,hzv,hty,ha,hzr,hzone,hzlen,hzfit⟩:=x8 (w:=w) hz;obtain ⟨d',hu',hd'⟩:=zkh ht';have hzc:zv.cells.size=cx.P.cellsOf e:=by have:=(hzr (zp σ μ)).1; simp at this; omega
 have hxl:xs.length=ys.length * cx.P.cellsOf e:=by rw [hxr.1,y5 ys hysz]
 by_cases hys:ys=[]
 ·subst hys;have hxs:xs=[]:=by simpa using hxl
  subst hxs;obtain ⟨g1,g2⟩:=zeu (w:=w) (μ:=μ) (sz:=cx.P.cellsOf e) (base:=none) (cap:=0) hf rfl (.inr rfl);refine ⟨.slice none (0+0) 0,w,⟨none,0,0,0⟩,?_,zev hf,g1,g2⟩;exact v8 hu hty hu' hd' hlen (hfx w (Stays.refl _ _)) (by simp) rfl
 ·have hpos:0<ys.length:=List.length_pos_iff.2 hys;obtain ⟨c,hc,hrun⟩:=run_append_grow (ty:=ty) (ln:=0) (cap:=0) (base:=none) (ys:=[]) hu hti hzv hty hu' hd' hlen (by omega) (by omega) hby rfl (hfx w.drew zek)
  simp only [Nat.zero_add] at hc hrun;generalize hncs:(List.toArray []:Array Value)++xs.toArray++Builtin.zeroCells zv.cells (c - ys.length)=ncs at hrun
  let lo:Lo:=⟨some w.heap.size,ys.length * cx.P.cellsOf e,c * cx.P.cellsOf e,e⟩
  have hsize:ncs.size=c * cx.P.cellsOf e:=by
   rw [←hncs];simp only [Array.size_append,List.size_toArray,wh,hxl,hzc,p8,Nat.zero_add];have:c=ys.length+(c - ys.length):=by omega
   rw [this];simp only [Nat.add_mul,Nat.add_sub_cancel_left]
  have hnh:(w.drew.alloc (.cells ncs e)).heap[w.heap.size]?=some (.cells ncs e (0,0)):=wj (w:=w.drew)
  have hup:Upd cx w σ μ (w.drew.alloc (.cells ncs e)) (ze σ [(id,.tok ys.length)]) (setMu μ id lo) [id]:=
   zg3 (δ:=[(id,.tok ys.length)]) rfl rfl (by simp) (λ b hb=>alloc_old (w:=w.drew) b hb) (by simp [z8,hf]) rfl (λ j hj=>by simp at hj; simp [setMu,hj])
    (λ j hj b hb=>by simp at hj; subst hj; simp [setMu,lo] at hb; omega) (λ j hj j' hj' b _ _=>by simp at hj hj'; rw [hj,hj'])
  have hs:=hup.goes.stays' hi;have hnew:zf (ze σ [(id,Ob.tok ys.length)]) id=some (.tok ys.length):=by simp [ze,zk]
  refine ⟨_,_,lo,hrun,hup,λ j hj o' ho'=>?_,?_⟩
  ·simp at hj; subst hj;rw [hnew] at ho'; cases ho';intro b' hb';have hbb:w.heap.size=b':=by simpa [setMu,lo] using hb'
   subst hbb;exact ⟨ncs,e,(0,0),hnh,by simp [setMu,lo],by simp [setMu,lo,hsize],.inl rfl⟩
  ·refine .slm (zit hsm) ?_ hnew (Nat.le_refl _) λ _=>zd3 (zit hsm) (by simp [setMu,lo]) (by simp [setMu,lo]) (by simp [setMu,lo]) hc (.inl hsm)
   refine RD.ofRow hnh rfl hc hysz (λ k c' hk=>?_) λ k hk hown=>?_
   ·obtain ⟨v,hv⟩:=yo (l:=xs) (i:=k) (by rw [hxr.1]; exact (pr.1 hk).1)
    refine ⟨v,?_,(hxr.2 _ v c' hv hk).stays hs,hx1 v (pz hv)⟩;have hkx:=(pr.1 hv).1;rw [Nat.zero_add,←hncs,Array.getElem?_append_left (by simpa using hkx)]
    simpa using hv
   ·rcases hown with hfr | ⟨j,q,hj,hq⟩
    ·exact absurd (hi.frLt _ _ hfr) (by omega)
    by_cases hjid:j=id
    ·subst hjid;rw [hnew] at hj; cases hj;have h2:ys.length * cx.P.cellsOf e≤0+k:=by simpa [setMu,lo] using hq.2
     omega
    ·have hj':zf σ j=some q:=by simpa [ze,zk,Ne.symm hjid] using hj
     have:=zb6 hi hj' ((x2 (by simp [setMu,hjid]) q _ _).1 hq)
     omega
theorem zj5{t:Nat}{s:List UInt8}{lo hi:Option Value}{l h:Nat}(hu:P.underlying t=some .string)(hr:(Instr.sliceBounds false s.length s.length lo hi none).run P w=.ok (l,h,s.length) w) :
  (Instr.sliceAt t (.string (y8 s)) lo hi none).run P w=.ok (.string ((y8 s).extract l h)) w:=by
 unfold Instr.sliceAt Instr.slice;simp [run_underlying hu,zce,hr]
theorem zcq{t e:Nat}{base:Option Addr}{n cap:Nat}{lo hi mx:Option Value}{l h m:Nat}(hu:P.underlying t=some (.slice e))(hty:qg P e=true)
  (hr:(Instr.sliceBounds true n cap lo hi mx).run P w=.ok (l,h,m) w) :
  (Instr.sliceAt t (.slice base n cap) lo hi mx).run P w=.ok (.slice (if m=l then base else base.map (·.add (l * P.cellsOf e))) (h - l) (m - l)) w:=by
 unfold Instr.sliceAt Instr.slice;simp [run_underlying hu,hr,wz hty]
theorem zu5{site t:Nat}{x:V}{x':Value}{lo hi mx:Option V}{lo' hi' mx':Option Value}{K:V→De→List Nat→Option R}{r:R}(hx:RV w σ μ x' x)
  (hlo:znu w σ μ lo lo') (hhi:znu w σ μ hi hi') (hmx:znu w σ μ mx mx') (h:zd6 cx σ site t x lo hi mx K=some r) :
  ∃ v δ fp,K v δ fp=some r∧∃ v' μ' ids,(Instr.sliceAt t x' lo' hi' mx').run cx.P w=.ok v' w∧Upd cx w σ μ w (ze σ δ) μ' ids ∧
   (∀ j∈ids,∀ o',zf (ze σ δ) j=some o'→zay w (ze σ δ) μ' j o')∧RV w (ze σ δ) μ' v' v:=by
 have plain:∀ {v:V} {v':Value},K v [] []=some r→(Instr.sliceAt t x' lo' hi' mx').run cx.P w=.ok v' w→RV w σ μ v' v →
   ∃ v δ fp,K v δ fp=some r∧∃ v' μ' ids,(Instr.sliceAt t x' lo' hi' mx').run cx.P w=.ok v' w∧Upd cx w σ μ w (ze σ δ) μ' ids ∧
   (∀ j∈ids,∀ o',zf (ze σ δ) j=some o'→zay w (ze σ δ) μ' j o')∧RV w (ze σ δ) μ' v' v:=by
  intro v v' hK hr hv;refine ⟨v,[],[],hK,v',μ,[],hr,?_,by simp,hv⟩
  exact { os:=rfl,output:=rfl,size:=Nat.le_refl _,blk:=λ _ _ _=>rfl,cell:=λ _ _ _ _ h=>h,fr:=rfl,same:=λ _ _=>⟨rfl,rfl⟩,own:=by simp,still:=by simp,apart:=by simp }
 unfold zd6 at h;split at h
 ·rename_i hu;split at h
  ·rename_i s;cases mx' with
   | some a=>exact hmx.elim
   | none=>
    obtain rfl:=hx.str_inv;obtain ⟨a,b,h1,h2,hK,hr⟩:=zmk (P:=cx.P) (b:=false) hlo hhi (Nat.le_refl _) h;refine plain hK (zj5 hu hr) ?_;rw [zhq];exact .str' _
  ·cases h
 ·rename_i e hu;have hty:=(zd h).1;replace h:=(zd h).2;obtain ⟨sz,xs,hrd,h1⟩:=zl7 hx h;have hsz:=(zd h1).1;replace h1:=(zd h1).2;have hsz:sz=cx.P.cellsOf e∨xs=[]:=by
   rw [Bool.or_eq_true] at hsz;rcases hsz with g | g
   ·exact .inl (po g)
   ·exact .inr (by simpa using g)
  have hrd:=hrd.sl_sz hsz;have hcap:∃ base cap,x'=.slice base xs.length cap∧xs.length≤cap:=by
   obtain ⟨base,n,cap,rfl,hn,hc,_⟩:=hrd.piece (Nat.le_refl xs.length) (Nat.le_refl _);subst hn;exact ⟨base,cap,rfl,hc⟩
  obtain ⟨base,cap,rfl,hcap⟩:=hcap;split at h1
  ·cases mx' with
   | some a=>exact hmx.elim
   | none=>
    obtain ⟨a,b,g1,g2,hK,hr⟩:=zmk (P:=cx.P) (b:=true) hlo hhi hcap h1;refine plain hK (zcq hu hty hr) ?_;obtain ⟨base',n,cap',heq,hn,hc,hp⟩:=hrd.piece g1 g2;cases heq;exact .d _ _ (hp cap hc)
  ·rename_i m;have hhs:=(zd h1).1;replace h1:=(zd h1).2;cases mx' with
   | none=>exact hmx.elim
   | some mv=>
    rcases zcf (v':=some mv) hmx h1 with ⟨hn,_,_⟩ | ⟨k,i,hmv,m0,m1,h2⟩
    ·cases hn
    cases hmv;cases hi with
    | none=>cases hhs
    | some hiv=>
     cases hi' with
     | none=>exact hhi.elim
     | some hv=>
      rcases zcf (v':=some hv) hhi h2 with ⟨hn,_,_⟩ | ⟨k2,i2,hhv,q0,q1,h3⟩
      ·cases hn
      cases hhv
      have hb:∃ a,a≤i2.toNat∧(bif Nat.beq i.toNat a then zh (z8 σ [(site,.tok 0)]&&Nat.blt (cx.P.cellsOf e) 1048576) (K (.sl (cx.P.cellsOf e) [] site) [(site,.tok 0)] [site])
        else K (.d (.sl (cx.P.cellsOf e) ((xs.take i2.toNat).drop a))) [] [])=some r∧(Instr.sliceBounds true xs.length cap lo' (some (.int k2 i2)) (some (.int k i))).run cx.P w=.ok (a,i2.toNat,i.toNat) w:=by
       have c1:(Instr.sliceBound (.int k i) cap .slice3Acap).run cx.P w=.ok i.toNat w:=run_sliceBound m0 (by omega)
       have c2:(Instr.sliceBound (.int k2 i2) i.toNat .slice3B).run cx.P w=.ok i2.toNat w:=run_sliceBound q0 q1;rcases zcf hlo h3 with ⟨rfl,_,h4⟩ | ⟨k3,i3,rfl,r0,r1,h4⟩
       ·exact ⟨0,Nat.zero_le _,h4,by simp [Instr.sliceBounds,c1,c2]⟩
       ·exact ⟨i3.toNat,by omega,h4,by simp [Instr.sliceBounds,c1,c2,run_sliceBound r0 r1]⟩
      obtain ⟨a,ha,h4,hr⟩:=hb;have hle:i2.toNat≤xs.length:=by omega
      obtain ⟨base',n,cap',heq,hn,hc,hp⟩:=hrd.piece ha hle;cases heq;cases hw:Nat.beq i.toNat a
      ·rw [hw,p6] at h4;exact plain h4 (zcq hu hty hr) (.d _ _ (hp i.toNat (by omega)))
      ·rw [hw,p5] at h4;have hia:=po hw;obtain ⟨hf,hK⟩:=zd h4;rw [pq] at hf;obtain ⟨hf,hsm⟩:=hf;have h0:i2.toNat - a=0:=by omega
       obtain ⟨g1,g2⟩:=zeu (w:=w) (μ:=μ) (sz:=cx.P.cellsOf e) (base:=if i.toNat=a then base else base.map (·.add (a * cx.P.cellsOf e))) (cap:=i.toNat - a) (zls hf) (by omega) (.inl (p4 hsm))
       have hr':=zcq (base:=base) hu hty hr;rw [h0] at hr';exact ⟨_,_,_,hK,_,_,[site],hr',zev (zls hf),g1,g2⟩
 ·cases h
theorem zvq{t e id n:Nat}{sz:Nat}{l:List D}{x':Value}(hi:Inv cx w σ μ)(hx:RV w σ μ x' (.sl sz l id))(hl:l ≠ [])(ho:zf σ id=some (.tok n))(hn:l.length=n)
  (hu:cx.P.underlying t=some (.slice e)) (he:cx.P.underlying e=some (.int .u8)) :
  ∃ w',(convert t t x').run cx.P w=.ok x' w'∧Upd cx w σ μ w' (ze σ [(id,.tok n)]) μ [id] ∧
   (∀ j∈[id],∀ o',zf (ze σ [(id,.tok n)]) j=some o'→zay w' (ze σ [(id,.tok n)]) μ j o')∧RV w' (ze σ [(id,.tok n)]) μ x' (.sl sz l id):=by
 have hx0:=hx;cases hx with | sl _ _ _ _ n' hrd ht hn' htail=>?_
 rw [ho] at ht; cases ht;have htail:=htail hn;obtain ⟨base,cap,rfl⟩:=hrd.slice_inv;have hne:l.length ≠ 0:=λ h=>hl (List.eq_nil_of_length_eq_zero h);rcases htail with ⟨_,h0,_,_⟩ | ⟨b,o,hbase,hb,hf,hend,hnc,_⟩
 ·exact absurd h0 hne
 obtain rfl:=hbase;obtain ⟨cs,el,fr,hh,hel,hcs,hfr⟩:=hi.ob id _ ho b hb;have hlt:=lt_of_heap hh
 let w':=w.freeze ⟨b,cs.size,none⟩ 1
 have hhb:∃ fr',w'.heap[b]?=some (.cells cs el fr')∧cs.size≤fr'.1:=by
  simp only [w',World.freeze];rw [if_neg (by omega)]
  simp only [Array.getElem?_modify,if_true,hh,Option.map_some];obtain ⟨lo,hi'⟩:=fr;refine ⟨_,rfl,?_⟩;split
  ·exact Nat.le_refl _
  ·rename_i hne';rcases hfr with h | h
   ·cases h; simp at hne'
   ·simp only at h ⊢; omega
 have hho:∀ b',b' ≠ b→w'.heap[b']?=w.heap[b']?:=λ b' hb'=>by
  simp only [w',World.freeze];rw [if_neg (by omega)]
  simp [Array.getElem?_modify,Ne.symm hb']
 have hsz:w'.heap.size=w.heap.size:=by
  simp only [w',World.freeze];rw [if_neg (by omega)]
  simp
 have hcell:∀ b' k,w'.cell? ⟨b',k,none⟩=w.cell? ⟨b',k,none⟩:=λ b' k=>by
  by_cases hbb:b'=b
  ·subst hbb;obtain ⟨fr',h1,_⟩:=hhb;rw [cell_of_heap h1,cell_of_heap hh]
  ·unfold World.cell?;simp only;rw [hho b' hbb]
 have hnew:zf (ze σ [(id,Ob.tok n)]) id=some (.tok n):=by simp [ze,zk]
 have hup:Upd cx w σ μ w' (ze σ [(id,.tok n)]) μ [id]:={
  os:=by simp only [w',World.freeze]; split <;> rfl
  output:=by simp only [w',World.freeze]; split <;> rfl
  size:=by omega
  blk:=λ b' _ h=>hho b' λ e=>h id (by simp) _ ho (μ id).f (by rw [e]; exact ⟨hb,Nat.le_refl _⟩)
  cell:=λ b' k v _ h=>(hcell b' k).trans h
  fr:=rfl
  same:=λ j hj=>by
   have:id ≠ j:=λ e=>hj (by simp [e])
   exact ⟨by simp [ze,zk,this],rfl⟩
  own:=λ j hj q hq b' k hown _=>by
   simp at hj; subst hj;rw [hnew] at hq; cases hq;exact ⟨_,ho,hown⟩
  still:=λ j hj q hq=>by
   simp at hj; subst hj;rw [ho] at hq; cases hq;rw [hnew];exact ⟨Nat.le_refl _,λ _=>rfl⟩
  apart:=λ j hj j' hj' _ _ _ _ _ _ _ _ _=>by simp at hj hj'; rw [hj,hj'] }
 refine ⟨w',?_,hup,λ j hj o' ho'=>?_,?_⟩
 ·unfold convert;simp only [Sem.run_bind,run_underlying hu,Result.andThen_ok,run_underlying he,beq_self_eq_true];unfold markStringish;simp [World.shape?,hh,w']
 ·simp at hj; subst hj;rw [hnew] at ho'; cases ho';intro b' hb';rw [hb] at hb'; cases hb';obtain ⟨fr',h1,h2⟩:=hhb;exact ⟨cs,el,fr',h1,hel,hcs,.inr h2⟩
 ·exact hx0.stays (hup.goes.stays' hi) λ j hj o ho=>hup.stillAll j o ho
end
section
variable {R:Type} {P:Program} {cx:Cx} {w w':World} {σ:St} {μ μ':Mu}
theorem w7.none{own:Own}{lo:Lo}{l:List D}(h:lo.blk=none):w7 w own lo l:=λ b hb=>by rw [h] at hb; cases hb
theorem w7.of{own:Own}{lo:Lo}{l:List D}{b:Nat}{cs:Array Value}{el:TypeId}(hb:lo.blk=some b)(hh:w.heap[b]?=some (.cells cs el (0,0)))(he:cs.size=lo.e)(hle:l.length * lo.f≤cs.size)
  (h1:∀ x∈cs.toList,x.oneCell'=true) (hsz:∀ y∈l,y.cells.length=lo.f) (hr:∀ (k:Nat) c,(ye l)[k]?=some c→∃ x,cs[k]?=some x∧RD w own x c):w7 w own lo l:=by
 intro b' hb';rw [hb] at hb'; cases hb';exact ⟨cs,el,hh,he,hle,h1,hsz,λ i j y c hy hc=>hr _ _ (zgc l i j y c hsz hy hc)⟩
theorem zvb{id sz:Nat}(hf:zf σ id=none) :
  (∀ j∈[id],∀ o',zf (ze σ [(id,.row [])]) j=some o'→zay w (ze σ [(id,.row [])]) (setMu μ id ⟨none,0,0,0⟩) j o') ∧
   RV w (ze σ [(id,.row [])]) (setMu μ id ⟨none,0,0,0⟩) (.slice none 0 0) (.slo id sz 0):=by
 refine ⟨λ j hj o' ho'=>?_,?_⟩
 ·simp at hj; subst hj;simp only [ze,zk,if_pos] at ho';cases ho';exact w7.none (by simp [setMu])
 ·exact .slo id sz 0 0 none [] (by simp [ze,zk]) (Nat.le_refl _) (Nat.le_refl _) (λ _=>rfl) λ _=>.inl ⟨by simp [setMu],rfl,rfl⟩
theorem znt{id sz n c:Nat}{e:TypeId}{cs:Array Value}{xs:List D}{w₁:World}(hi:Inv cx w σ μ)(hc:zf σ id=none)(hd:w₁=w∨w₁=w.drew)
  (hr:RDs w (zp σ μ) (cs.toList.take (xs.length * sz)) (ye xs)) (h1:∀ x∈cs.toList,x.oneCell'=true) (hsz:∀ y∈xs,y.cells.length=sz) (hn:xs.length=n) (hnc:n≤c) (hcl:cs.size=c * sz) :
  Upd cx w σ μ (w₁.alloc (.cells cs e)) (ze σ [(id,.row xs)]) (setMu μ id ⟨some w.heap.size,sz,c * sz,e⟩) [id] ∧
   (∀ j∈[id],∀ o',zf (ze σ [(id,.row xs)]) j=some o'→zay (w₁.alloc (.cells cs e)) (ze σ [(id,.row xs)]) (setMu μ id ⟨some w.heap.size,sz,c * sz,e⟩) j o') ∧
   RV (w₁.alloc (.cells cs e)) (ze σ [(id,.row xs)]) (setMu μ id ⟨some w.heap.size,sz,c * sz,e⟩) (.slice (some ⟨w.heap.size,0,Option.none⟩) n c) (.slo id sz n):=by
 have hsize:w₁.heap.size=w.heap.size:=by rcases hd with rfl | rfl <;> rfl
 have hold:∀ b,b<w.heap.size→(w₁.alloc (.cells cs e)).heap[b]?=w.heap[b]?:=λ b hb=>by
  rcases hd with rfl | rfl
  ·exact alloc_old b hb
  ·exact alloc_old (w:=w.drew) b hb
 have hnew:(w₁.alloc (.cells cs e)).heap[w.heap.size]?=some (.cells cs e (0,0)):=by
  rw [←hsize]; exact wj
 have hup:Upd cx w σ μ (w₁.alloc (.cells cs e)) (ze σ [(id,.row xs)]) (setMu μ id ⟨some w.heap.size,sz,c * sz,e⟩) [id]:=
  zg3 (δ:=[(id,.row xs)]) (by rcases hd with rfl | rfl <;> rfl) (by rcases hd with rfl | rfl <;> rfl) (by simp [hsize]) hold (by simp [z8,hc]) rfl (λ j hj=>by simp at hj; simp [setMu,hj])
   (λ j hj b hb=>by simp at hj; subst hj; simp [setMu] at hb; omega) (λ j hj j' hj' b _ _=>by simp at hj hj'; rw [hj,hj'])
 have hst:=hup.goes.stays' hi;have hle:n * sz≤c * sz:=Nat.mul_le_mul_right _ hnc;refine ⟨hup,λ j hj o' ho'=>?_,?_⟩
 ·simp at hj; subst hj;simp only [ze,zk,if_pos] at ho';cases ho';refine w7.of (b:=w.heap.size) (cs:=cs) (el:=e) (by simp [setMu]) hnew (by simp [setMu,hcl]) (by simp [setMu,hcl,hn]; exact hle) h1 (by simpa [setMu] using hsz) λ k x hk=>?_
  have hlt:k<(ye xs).length:=(pr.1 hk).1;have hlt':k<xs.length * sz:=by rw [y5 xs hsz] at hlt; exact hlt
  obtain ⟨v,hv⟩:=yo (l:=cs.toList.take (xs.length * sz)) (i:=k) (by rw [hr.1]; exact hlt)
  refine ⟨v,?_,(hr.2 k v x hv hk).stays hst⟩;rw [List.getElem?_take,if_pos hlt'] at hv;simpa using hv
 ·exact .slo id sz n c _ xs (by simp [ze,zk]) (by omega) hnc (λ h=>by cases h) λ _=>.inr ⟨w.heap.size,rfl,by simp [setMu],by simp [setMu],by simp [setMu]⟩
theorem zmi{t e n id:Nat}{a:Act}{fr:Fr}{ps:Array (Nat×Operand)}{z xs:List D}{l:List (Nat×V)}(hi:Inv cx w σ μ)(hf:FR w σ μ a.tmps fr)
  (hu:cx.P.underlying t=some (.slice e)) (hz:zeroOf cx.P e=some z) (hl:zh0 cx.P fr t ps.toList=some l) (hx:za0 cx.P e (List.replicate n (wn cx.P e z)) l=some xs)
  (hc:zf σ id=none) (hn:n≤4096) (hs:cx.P.cellsOf e≤4096) (hs0:cx.P.cellsOf e ≠ 0) :
  ∃ w' lo,(Instr.buildSlice t n (ps.map λ (i,x)=>(i,a.eval x))).run cx.P w=.ok (.slice (some ⟨w.heap.size,0,Option.none⟩) n n) w' ∧
   Upd cx w σ μ w' (ze σ [(id,.row xs)]) (setMu μ id lo) [id] ∧
   (∀ j∈[id],∀ o',zf (ze σ [(id,.row xs)]) j=some o'→zay w' (ze σ [(id,.row xs)]) (setMu μ id lo) j o') ∧
   RV w' (ze σ [(id,.row xs)]) (setMu μ id lo) (.slice (some ⟨w.heap.size,0,Option.none⟩) n n) (.slo id (cx.P.cellsOf e) n):=by
 obtain ⟨cs',k0,k2,k3,k4,k5,hcl⟩:=zfv hf hu hz hl hx hn hs hs0;have hr:RDs w (zp σ μ) (cs'.toList.take (xs.length * cx.P.cellsOf e)) (ye xs):=by
  rw [List.take_of_length_le (by simp [hcl,k5])]; exact k2
 obtain ⟨h1,h2,h3⟩:=znt (cx:=cx) (e:=e) hi hc (.inl rfl) hr k3 k4 k5 (Nat.le_refl n) hcl;exact ⟨_,_,k0,h1,h2,h3⟩
theorem zpk(w:World){e:Nat}{z:List D}(hz:zeroOf P e=some z):(wn P e z).cells=z:=by
 obtain ⟨i,zv,hti,hzv,hty,ha,hr,hone,hlen,hfit⟩:=x8 (w:=w) hz;unfold wn;rw [←ha];cases zv with
 | agg cs=>rfl
 | _=>
  simp only [zsb,p6];have:=(hr λ _ _=>True).1;simp only [Value.cells] at this
  match z,this with
  | [x],_=>
   have h1:=hone _ py;have h2:=(hr λ _ _=>True).2 0 _ x rfl rfl;cases h2 <;> first | rfl | (simp [Value.oneCell',Value.cells] at h1)
theorem zqe{e n:Nat}{own:Own}{z:List D}{zs:Array Value}(hr:RDs w own zs.toList z)(hl:zs.size=z.length)(h0:zs.size ≠ 0)(h1:∀ x∈zs.toList,x.oneCell'=true) :
  (((Array.range (n * zs.size)).map λ j=>zs[j % zs.size]!):Array Value).size=n * zs.size∧(∀ x∈(((Array.range (n * zs.size)).map λ j=>zs[j % zs.size]!):Array Value).toList,x.oneCell'=true) ∧
   ∀ (k:Nat) c,(List.replicate n z).flatten[k]?=some c→∃ x,(((Array.range (n * zs.size)).map λ j=>zs[j % zs.size]!):Array Value)[k]?=some x∧RD w own x c:=by
 have hmod:∀ k,k % zs.size<zs.size:=λ k=>Nat.mod_lt _ (by omega)
 refine ⟨by simp,λ x hx=>?_,?_⟩
 ·simp only [Array.toList_map,Array.toList_range,List.mem_map,List.mem_range] at hx;obtain ⟨j,_,rfl⟩:=hx;rw [getElem!_pos zs _ (hmod j)];exact h1 _ (by simp)
 ·intro k c hk;have hlen:(List.replicate n z).flatten.length=n * z.length:=by simp
  have hlt:k<n * zs.size:=by rw [hl,←hlen]; exact (pr.1 hk).1
  have key:∀ (n k:Nat) c,(List.replicate n z).flatten[k]?=some c→z[k % zs.size]?=some c:=by
   intro n
   induction n with
   | zero=>intro k c hk; simp at hk
   | succ n ih=>
    intro k c hk;rw [List.replicate_succ,List.flatten_cons] at hk;by_cases h:k<z.length
    ·rw [List.getElem?_append_left h] at hk;rw [Nat.mod_eq_of_lt (by omega)]; exact hk
    ·rw [List.getElem?_append_right (by omega)] at hk
     have:=ih _ _ hk;rw [Nat.mod_eq_sub_mod (by omega:zs.size≤k),hl]
     rw [hl] at this;exact this
  refine ⟨zs[k % zs.size]'(hmod k),?_,hr.2 (k % zs.size) _ c (by simp [hmod k]) (key n k c hk)⟩
  simp [hlt,getElem!_pos zs (k % zs.size) (hmod k)]
theorem znf{id:Nat}{o:Ob}(h:z8 σ [(id,o)]=true):zf σ id=none:=(qb h).1 id (by simp)
theorem wrap_small{n:Int}(h0:0≤n)(h1:n≤4294967296):IntKind.i64.wrap n=n:=by
 rw [IntKind.wrap_i64];omega
theorem zm5{z:Array Value}{n:Nat}(h:∀ x∈z.toList,x.oneCell'=true):∀ x∈(Builtin.zeroCells z n).toList,x.oneCell'=true:=by
 intro x hx;simp only [Builtin.zeroCells,Array.toList_map,Array.toList_range,List.mem_map,List.mem_range] at hx;obtain ⟨j,hj,rfl⟩:=hx;have:j % z.size<z.size:=Nat.mod_lt _ (by
  rcases Nat.eq_zero_or_pos z.size with h0 | h0
  ·rw [h0] at hj; omega
  ·exact h0)
 rw [getElem!_pos z _ this];exact h _ (by simp)
theorem _root_.Go.Vai.Inv.blockApart'(hi:Inv cx w σ μ){id id':Nat}{o o':Ob}{b i i':Nat}(ho:zf σ id=some o)(ho':zf σ id'=some o')(h:owns μ id o b i)(h':owns μ id' o' b i'):id=id':=by
 have key:∃ k,owns μ id o b k∧owns μ id' o' b k:=by
  refine ⟨max (max i i') (max (μ id).f (μ id').f),?_,?_⟩
  ·cases o <;> simp only [owns] at h ⊢ <;> first | exact h | exact ⟨h.1,by omega⟩
  ·cases o' <;> simp only [owns] at h' ⊢ <;> first | exact h' | exact ⟨h'.1,by omega⟩
 obtain ⟨k,h1,h2⟩:=key;exact hi.apart id id' o o' b k ho ho' h1 h2
theorem zoi{sz:Nat}:∀ (l:List D) (k:Nat) (c:D),(∀ y∈l,y.cells.length=sz)→(ye l)[k]?=some c→∃ y c' i j,l[i]?=some y∧y.cells[j]?=some c'∧i * sz+j=k∧c'=c
 | [],k,c,_,h=>by simp [ye] at h
 | x::l,k,c,hz,h=>by
  simp only [ye,List.flatMap_cons] at h;have hx:=hz x py;by_cases hk:k<x.cells.length
  ·rw [List.getElem?_append_left hk] at h;exact ⟨x,c,0,k,rfl,h,by omega,rfl⟩
  ·rw [List.getElem?_append_right (by omega)] at h
   obtain ⟨y,c',i,j,h1,h2,h3,h4⟩:=zoi l _ c (λ y hy=>hz y (p0 _ hy)) h;exact ⟨y,c',i+1,j,by simpa using h1,h2,by rw [Nat.add_mul]; omega,h4⟩
theorem zj9(n:Nat)(x:D):ye (List.replicate n x)=(List.replicate n x.cells).flatten:=by
 unfold ye;rw [List.flatMap_def,List.map_replicate]
theorem znc{site t:Nat}{l c:V}{l' c':Value}{K:V→De→List Nat→Option R}{r:R}(hi:Inv cx w σ μ)(hl:RV w σ μ l' l)(hc:RV w σ μ c' c)(h:vm cx σ site t l c K=some r) :
  ∃ v δ fp,K v δ fp=some r∧∃ v' w' μ',(Instr.makeSlice t l' c').run cx.P w=.ok v' w'∧Upd cx w σ μ w' (ze σ δ) μ' [site] ∧
   (∀ j∈[site],∀ o',zf (ze σ δ) j=some o'→zay w' (ze σ δ) μ' j o')∧RV w' (ze σ δ) μ' v' v:=by
 unfold vm at h;split at h
 ·rename_i e n n' hu;obtain ⟨z,hz,h⟩:=zb h;obtain ⟨hg,hK⟩:=zd h;simp only [pq,decide_eq_true_eq,Bool.not_eq_true'] at hg;obtain ⟨⟨⟨⟨⟨g1,g2⟩,g3⟩,g4⟩,g5⟩,g6⟩:=hg;obtain rfl:=RV.int_inv hl;obtain rfl:=RV.int_inv hc;obtain ⟨i,zv,hti,hzv,hty,ha,hr,hone,hlen,hfit⟩:=x8 (w:=w) hz;have hzc:zv.cells.size=cx.P.cellsOf e:=by have:=(hr (zp σ μ)).1; simp at this; omega
  have h0:cx.P.cellsOf e ≠ 0:=λ h=>by rw [h] at g4; cases g4
  obtain ⟨k1,k2,k3⟩:=zqe (e:=e) (n:=n'.toNat) (hr (zp σ μ)) (by omega) (by omega) hone
  generalize hcs:((Array.range (n'.toNat * zv.cells.size)).map λ j=>zv.cells[j % zv.cells.size]!:Array Value)=cs at k1 k2 k3;have hmz:=zpk w hz;have hle:n.toNat≤n'.toNat:=by omega
  have hflat:ye (List.replicate n.toNat (wn cx.P e z))=(List.replicate n.toNat z).flatten:=by rw [zj9,hmz]
  have hrd:RDs w (zp σ μ) (cs.toList.take ((List.replicate n.toNat (wn cx.P e z)).length * cx.P.cellsOf e)) (ye (List.replicate n.toNat (wn cx.P e z))):=by
   rw [hflat];have hmul:n.toNat * cx.P.cellsOf e≤n'.toNat * cx.P.cellsOf e:=Nat.mul_le_mul_right _ hle;refine ⟨by simp only [List.length_take,Array.length_toList,k1,hzc,List.length_replicate,List.length_flatten,List.map_replicate,List.sum_replicate_nat,hlen]; omega,λ k x y hx hy=>?_⟩
   have hpre:(List.replicate n'.toNat z).flatten[k]?=some y:=by
    rw [show n'.toNat=n.toNat+(n'.toNat - n.toNat) by omega,←List.replicate_append_replicate,List.flatten_append,List.getElem?_append_left (pr.1 hy).1]
    exact hy
   obtain ⟨v,hv,hvc⟩:=k3 k y hpre;have hx':cs[k]?=some x:=by
    rw [List.getElem?_take] at hx;split at hx
    ·simpa using hx
    ·cases hx
   rw [hv] at hx'; cases hx';exact hvc
  obtain ⟨u1,u2,u3⟩:=znt (cx:=cx) (e:=e) (n:=n.toNat) (c:=n'.toNat) hi (znf g6) (.inl rfl) hrd k2 (λ y hy=>by rw [List.eq_of_mem_replicate hy,hmz,hlen]) (by simp) hle (by rw [k1,hzc])
  refine ⟨_,_,_,hK,_,_,_,?_,u1,u2,u3⟩;have w1:IntKind.i64.wrap n=n:=wrap_small g1 (by omega)
  have w2:IntKind.i64.wrap n'=n':=wrap_small (by omega) (by omega)
  have hb:i.bytes=cx.P.bytesOf e:=by simp [Program.bytesOf,hti]
  have g5:i.bytes≤4096:=by rw [hb]; exact p4 g5
  have hbig:∀ k:Int,0≤k→k≤4294967296→¬ ((i.bytes:Int) * k > 2 ^ 48):=λ k h1 h2=>by
   have:(i.bytes:Int) * k≤4096 * 4294967296:=Int.mul_le_mul (by omega) h2 h1 (by omega)
   omega
  unfold Instr.makeSlice;have c1 : ¬ (n'<0):=by omega
  have c2 : ¬ (n<0):=by omega
  have c3 : ¬ (n > n'):=by omega
  have c4:=hbig n' (by omega) g3
  simp only [Sem.run_bind,run_underlying hu,Result.andThen_ok,Go.asInt,asIntOf,Sem.run_pure,typeInfo,run_program,hti,w1,w2];simp only [c1,c2,c3,c4,decide_false,Bool.or_false,Bool.false_eq_true,if_false,Sem.run_bind,run_askRoom,Result.andThen_ok,wz hty,Sem.run_pure];by_cases hz0:n'.toNat * cx.P.cellsOf e=0
  ·have e0:cs = #[]:=by rw [←hcs,hzc,hz0]; simp
   have e1:(Array.map (λ _:Nat=>(default:Value)) (Array.range 0)) = #[]:=Array.ext' (by simp)
   simp [hz0,e0,newRow,e1]
  ·simp only [if_neg hz0,Sem.run_bind,zhs hti hzv,Result.andThen_ok,Sem.run_pure];rw [hzc] at hcs;simp only [hzc,hcs];simp [newRow]
 ·cases h
theorem zqb{t t' e ty id:Nat}{sz sz':Nat}{l ys:List D}{s' x':Value}{x:V}{z:List D}(hi:Inv cx w σ μ)(hs:RV w σ μ s' (.slo id sz l.length))(hx:RV w σ μ x' x)
  (hd:dataOf x (λ a b=>some (a,b))=some (sz',ys))
  (hu:cx.P.underlying t=some (.slice e)) (hz:zeroOf cx.P e=some z) (ht':(match cx.P.underlying t' with | some (.int _)=>false | some _=>true | none=>false)=true)
  (hsz':sz'=cx.P.cellsOf e∨ys=[]) (hsz:sz=cx.P.cellsOf e) (hby:cx.P.bytesOf e≤4096) (ho:zf σ id=some (.row l)) (hle:l.length+ys.length≤4294967296) :
  ∃ v' w' lo,(Builtin.append_ #[t,t'] ty #[s',x']).run cx.P w=.ok v' w'∧Upd cx w σ μ w' (ze σ [(id,.row (l++ys))]) (setMu μ id lo) [id] ∧
   (∀ j∈[id],∀ o',zf (ze σ [(id,.row (l++ys))]) j=some o'→zay w' (ze σ [(id,.row (l++ys))]) (setMu μ id lo) j o') ∧
   RV w' (ze σ [(id,.row (l++ys))]) (setMu μ id lo) v' (.slo id sz (l.length+ys.length)):=by
 subst hsz;obtain ⟨sz0,ys0,h0,hlen,hcells⟩:=zep (P:=cx.P) hx hd;cases h0;obtain ⟨hysz,xs,hfx,hxr,hx1⟩:=hcells _ hsz';obtain ⟨i,zv,hti,hzv,hty,ha,hzr,hzone,hzlen,hzfit⟩:=x8 (w:=w) hz;obtain ⟨d',hu',hd'⟩:=zkh ht';have hzc:zv.cells.size=cx.P.cellsOf e:=by have:=(hzr (zp σ μ)).1; simp at this; omega
 have hxl:xs.length=ys.length * cx.P.cellsOf e:=by rw [hxr.1,y5 ys hysz]
 have hnew:zf (ze σ [(id,Ob.row (l++ys))]) id=some (.row (l++ys)):=by simp [ze,zk]
 have hother:∀ j,j ≠ id→zf (ze σ [(id,Ob.row (l++ys))]) j=zf σ j:=λ j hj=>by simp [ze,zk,Ne.symm hj]
 cases hs with | slo _ _ _ cap base l' hl' hk hcap hn hat=>?_
 rw [ho] at hl'; cases hl';have hat:=hat rfl;have hrow:=hi.ob id _ ho
 -- the cells that are there
 obtain ⟨zs,hzl,hz1,hzsr,hlsz,hzcell⟩:∃ zs:List Value,zs.length=l.length * cx.P.cellsOf e∧(∀ x∈zs,x.oneCell'=true)∧RDs w (zp σ μ) zs (ye l)∧(∀ y∈l,y.cells.length=cx.P.cellsOf e) ∧
   (l ≠ []→∃ b,base=some ⟨b,0,Option.none⟩∧∀ (k:Nat) x,zs[k]?=some x→w.cell? ⟨b,k,Option.none⟩=some x):=by
  rcases hat with ⟨_,_,hc0⟩ | ⟨b,hb1,hb,hf,he⟩
  ·obtain rfl:l=[]:=List.eq_nil_of_length_eq_zero (by omega)
   exact ⟨[],by simp,by simp,⟨rfl,by simp [ye]⟩,by simp,by simp⟩
  ·obtain ⟨cs,el,hh,h1,h2,h3,h4,h5⟩:=hrow b hb;rw [hf] at h2 h4 h5;have hfl:=y5 l h4;refine ⟨cs.toList.take (l.length * cx.P.cellsOf e),by simp; omega,λ x hx=>h3 x (List.mem_of_mem_take hx),⟨by simp [hfl]; omega,λ k x c hx hc=>?_⟩,h4,λ _=>⟨b,hb1,λ k x hx=>?_⟩⟩
   ·obtain ⟨y,c',i,j,hy,hc',hk,hcc⟩:=zoi l k c h4 hc;subst hk; subst hcc;obtain ⟨v,hv,hvc⟩:=h5 i j y c' hy hc';have hx':cs[i * cx.P.cellsOf e+j]?=some x:=by
     rw [List.getElem?_take] at hx;split at hx
     ·simpa using hx
     ·cases hx
    rw [hv] at hx'; cases hx';exact hvc
   ·rw [cell_of_heap hh];rw [List.getElem?_take] at hx;split at hx
    ·simpa using hx
    ·cases hx
 have hall:∀ y∈l++ys,y.cells.length=cx.P.cellsOf e:=λ y hy=>by
  rcases List.mem_append.1 hy with h | h
  ·exact hlsz y h
  ·exact hysz y h
 by_cases hroom:l.length+ys.length≤cap
 ·by_cases hys:ys=[]
  ·subst hys;have hxs:xs=[]:=by simpa using hxl
   subst hxs;have hmu:=zd8 μ id;have hup:Upd cx w σ μ w (ze σ [(id,Ob.row (l++[]))]) (setMu μ id (μ id)) [id]:=by
    rw [hmu]
    exact {
     os:=rfl,output:=rfl,size:=Nat.le_refl _,blk:=λ _ _ _=>rfl,cell:=λ _ _ _ _ h=>h,
     fr:=rfl,same:=λ j hj=>⟨hother j (by simpa using hj),rfl⟩,
     own:=λ j hj q hq b i hown _=>by
      simp at hj; subst hj;rw [hnew] at hq;cases hq;exact ⟨_,ho,hown⟩,
     still:=λ j hj q hq=>by
      simp at hj; subst hj;rw [ho] at hq; cases hq;rw [hnew];exact ⟨by simp,λ _=>rfl⟩,
     apart:=λ j hj j' hj' _ _ _ _ _ _ _ _ _=>by simp at hj hj'; rw [hj,hj'] }
   refine ⟨.slice base (l.length+0) cap,w,μ id,?_,hup,λ j hj o' ho'=>?_,?_⟩
   ·refine v8 hu hty hu' hd' hlen (hfx w (Stays.refl _ _)) (by simpa using hroom) ?_
    cases base <;> rfl
   ·simp at hj; subst hj;rw [hnew] at ho';cases ho';rw [hmu,List.append_nil];have hst:=hup.goes.stays' hi;rw [hmu,List.append_nil] at hst;exact w7.stays hst hrow λ _ _ _=>rfl
   ·rw [hmu];exact .slo id _ _ cap base (l++[]) (by simpa using hnew) (by simp) hcap hn λ _=>hat
  ·have hpos:0<ys.length:=List.length_pos_iff.2 hys;rcases hat with ⟨_,_,h1⟩ | ⟨b,rfl,hb,hf,hend⟩
   ·omega
   obtain ⟨cs,el,hh,hcs,h2,h3,h4,h5⟩:=hrow b hb;rw [hf] at h2 h4 h5;have hmul:(l.length+ys.length) * cx.P.cellsOf e≤cap * cx.P.cellsOf e:=Nat.mul_le_mul_right _ hroom;rw [Nat.add_mul] at hmul;have hfit:l.length * cx.P.cellsOf e+0+xs.length≤cs.size:=by rw [hcs,hxl]; omega
   have hst:=xh (P:=cx.P) b (l.length * cx.P.cellsOf e) el (0,0) xs 0 cs w hh hfit (.inl rfl) hx1;simp only [Nat.add_zero] at hst;generalize hncs:(cs.toList.take (l.length * cx.P.cellsOf e)++xs++cs.toList.drop (l.length * cx.P.cellsOf e+xs.length)).toArray=ncs at hst;have hncsz:ncs.size=cs.size:=by rw [←hncs]; simp; omega
   have htl:(cs.toList.take (l.length * cx.P.cellsOf e)).length=l.length * cx.P.cellsOf e:=by simp; omega
   have hlow:∀ k,k<l.length * cx.P.cellsOf e→ncs[k]?=cs[k]?:=λ k hk=>by
    rw [←hncs];simp only [List.getElem?_toArray,List.append_assoc];rw [List.getElem?_append_left (by omega),List.getElem?_take,if_pos hk]
    simp
   have hmid:∀ (k:Nat) v,xs[k]?=some v→ncs[l.length * cx.P.cellsOf e+k]?=some v:=λ k v hk=>by
    rw [←hncs];have hkl:=(pr.1 hk).1;simp only [List.getElem?_toArray,List.append_assoc];rw [List.getElem?_append_right (by omega),List.getElem?_append_left (by omega),←hk]
    congr 1;omega
   have hnh:(w.setRow b ncs).heap[b]?=some (.cells ncs el (0,0)):=setRow_heap w b cs ncs el (0,0) hh;have hmu:=zd8 μ id;have hup:Upd cx w σ μ (w.setRow b ncs) (ze σ [(id,Ob.row (l++ys))]) (setMu μ id (μ id)) [id]:=by
    rw [hmu];exact zg1 ho hb (zhy hb _) (zhy hb _) rfl rfl (setRow_size _ _) (λ b' hb'=>setRow_other _ _ _ hb') ⟨by simp,λ _=>rfl⟩
   have hs:=hup.goes.stays' hi;refine ⟨.slice (some ⟨b,0,Option.none⟩) (l.length+ys.length) cap,w.setRow b ncs,μ id,?_,hup,λ j hj o' ho'=>?_,?_⟩
   ·refine v8 hu hty hu' hd' hlen (hfx w (Stays.refl _ _)) hroom ?_;simp only [addr_add,Nat.zero_add];exact hst
   ·simp at hj; subst hj;rw [hnew] at ho'; cases ho';show w7 _ _ (setMu μ j (μ j) j) _;rw [hmu];rw [hmu] at hs;refine w7.of hb hnh (by rw [hncsz,hcs]) (by rw [hf,hncsz,pj,Nat.add_mul]; omega) (λ x hx=>?_) (by rw [hf]; exact hall) λ k c hk=>?_
    ·rw [←hncs] at hx;simp only [List.mem_append] at hx;rcases hx with (hx | hx) | hx
     ·exact h3 x (List.mem_of_mem_take hx)
     ·exact hx1 x hx
     ·exact h3 x (List.mem_of_mem_drop hx)
    ·rw [qt] at hk;have hfl:=y5 l hlsz;by_cases hkl:k<(ye l).length
     ·rw [List.getElem?_append_left hkl] at hk;obtain ⟨v,hv⟩:=yo (l:=zs) (i:=k) (by rw [hzsr.1]; exact hkl)
      have hne:l ≠ []:=by intro h; subst h; simp [ye] at hkl
      obtain ⟨b1,hb1,hc1⟩:=hzcell hne;cases hb1;have hc2:=hc1 k v hv;rw [cell_of_heap hh] at hc2;exact ⟨v,by rw [hlow _ (by omega)]; exact hc2,(hzsr.2 k v c hv hk).stays hs⟩
     ·rw [List.getElem?_append_right (by omega)] at hk
      obtain ⟨v,hv⟩:=yo (l:=xs) (i:=k - (ye l).length) (by rw [hxr.1]; exact (pr.1 hk).1)
      refine ⟨v,?_,(hxr.2 _ v c hv hk).stays hs⟩;have:=hmid _ v hv;rw [hfl] at this hkl;rw [show k=l.length * cx.P.cellsOf e+(k - l.length * cx.P.cellsOf e) by omega]
      exact this
   ·rw [hmu];exact .slo id _ _ cap _ (l++ys) hnew (by simp) hroom (λ h=>by cases h) λ _=>.inr ⟨b,rfl,hb,hf,hend⟩
 ·-- a new array
  have hgrow:cap<l.length+ys.length:=by omega
  have hfz:(Builtin.firstCells (cx.P.cellsOf e) l.length (.slice base l.length cap)).run cx.P w.drew=.ok zs.toArray w.drew:=by
   by_cases he:l=[]
   ·subst he;have:zs=[]:=by simpa using hzl
    subst this;cases base with
    | none=>rfl
    | some a=>simp only [Builtin.firstCells,p8,Nat.zero_mul]; rfl
   ·obtain ⟨b,rfl,hc⟩:=hzcell he;simp only [Builtin.firstCells];have:=run_loadCells_list (P:=cx.P) w.drew ⟨b,0,Option.none⟩ zs (λ j x hx=>by rw [addr_add,Nat.zero_add]; exact hc j x hx)
    rw [hzl] at this;exact this
  obtain ⟨c,hc,hrun⟩:=run_append_grow (ty:=ty) hu hti hzv hty hu' hd' hlen hgrow hle hby hfz (hfx w.drew zek);generalize hncs:zs.toArray++xs.toArray++Builtin.zeroCells zv.cells (c - (l.length+ys.length))=ncs at hrun
  let lo:Lo:=⟨some w.heap.size,cx.P.cellsOf e,c * cx.P.cellsOf e,e⟩
  have hsize:ncs.size=c * cx.P.cellsOf e:=by
   rw [←hncs];simp only [Array.size_append,List.size_toArray,wh,hzl,hxl,hzc];have:c=l.length+ys.length+(c - (l.length+ys.length)):=by omega
   rw [this];simp only [Nat.add_mul,Nat.add_sub_cancel_left]
  have hnh:(w.drew.alloc (.cells ncs e)).heap[w.heap.size]?=some (.cells ncs e (0,0)):=wj (w:=w.drew);have hold:∀ b,b<w.heap.size→(w.drew.alloc (.cells ncs e)).heap[b]?=w.heap[b]?:=λ b hb=>alloc_old (w:=w.drew) b hb
  have hup:Upd cx w σ μ (w.drew.alloc (.cells ncs e)) (ze σ [(id,Ob.row (l++ys))]) (setMu μ id lo) [id]:={
   os:=rfl,output:=rfl,size:=by simp,
   blk:=λ b' hb' _=>hold b' hb',
   cell:=λ b' k v _ hc=>by
    have:=hold b' (lt_of_cell hc);unfold World.cell? at hc ⊢;simp only at hc ⊢;rw [this];exact hc,
   fr:=rfl,same:=λ j hj=>by
    have hj:j ≠ id:=by simpa using hj
    exact ⟨hother j hj,by simp [setMu,hj]⟩,
   own:=λ j hj q hq b' k hown hlt=>by
    simp at hj; subst hj;rw [hnew] at hq; cases hq;have h1:w.heap.size=b':=by simpa [owns,setMu,lo] using hown
    omega,
   still:=λ j hj q hq=>by
    simp at hj; subst hj;rw [ho] at hq; cases hq;rw [hnew];exact ⟨by simp,λ h=>by simp at h; subst h; simp at hgrow; omega⟩,
   apart:=λ j hj j' hj' _ _ _ _ _ _ _ _ _=>by simp at hj hj'; rw [hj,hj'] }
  have hs:=hup.goes.stays' hi;have hmul:(l++ys).length * cx.P.cellsOf e≤c * cx.P.cellsOf e:=Nat.mul_le_mul_right _ (by simpa using hc)
  refine ⟨_,_,lo,hrun,hup,λ j hj o' ho'=>?_,?_⟩
  ·simp at hj; subst hj;rw [hnew] at ho'; cases ho';refine w7.of (b:=w.heap.size) (by simp [setMu,lo]) hnh (by simp [setMu,lo,hsize]) (by simp only [setMu,lo,if_true,hsize]; exact hmul) (λ x hx=>?_) (by simpa [setMu,lo] using hall) λ k c' hk=>?_
   ·rw [←hncs] at hx;simp only [Array.toList_append,List.mem_append] at hx;rcases hx with (hx | hx) | hx
    ·exact hz1 x hx
    ·exact hx1 x hx
    ·exact zm5 hzone x hx
   ·rw [qt] at hk;by_cases hkl:k<(ye l).length
    ·rw [List.getElem?_append_left hkl] at hk;obtain ⟨v,hv⟩:=yo (l:=zs) (i:=k) (by rw [hzsr.1]; exact hkl)
     refine ⟨v,?_,(hzsr.2 k v c' hv hk).stays hs⟩;have hkz:=(pr.1 hv).1;rw [←hncs,Array.getElem?_append_left (by simp; omega),Array.getElem?_append_left (by simpa using hkz)]
     simpa using hv
    ·rw [List.getElem?_append_right (by omega)] at hk
     obtain ⟨v,hv⟩:=yo (l:=xs) (i:=k - (ye l).length) (by rw [hxr.1]; exact (pr.1 hk).1)
     refine ⟨v,?_,(hxr.2 _ v c' hv hk).stays hs⟩;have hkx:=(pr.1 hv).1;have hfl:(ye l).length=zs.length:=hzsr.1.symm;rw [←hncs,Array.getElem?_append_left (by simp; omega),Array.getElem?_append_right (by simp; omega)]
     rw [←hv];simp [hfl]
  ·exact .slo id _ _ c _ (l++ys) hnew (by simp) hc (λ h=>by cases h) λ _=>.inr ⟨w.heap.size,rfl,by simp [setMu,lo],by simp [setMu,lo],by simp [setMu,lo]⟩
theorem zw3{v:V}{v':Value}{K:V→De→List Nat→Option R}{r:R}(hi:Inv cx w σ μ)(hv:RV w σ μ v' v)(h:zgn σ v K=some r) :
  ∃ u δ fp,K u δ fp=some r∧∃ μ' ids,Upd cx w σ μ w (ze σ δ) μ' ids∧(∀ j∈ids,∀ o',zf (ze σ δ) j=some o'→zay w (ze σ δ) μ' j o')∧RV w (ze σ δ) μ' v' u:=by
 unfold zgn at h;split at h
 ·rename_i id sz k;split at h
  ·rename_i l ho;obtain ⟨hk,hK⟩:=zd h;obtain rfl:=po hk;have hnew:zf (ze σ [(id,Ob.row (l++[.nilIface]))]) id=some (.row (l++[.nilIface])):=by simp [ze,zk]
   have hup:Upd cx w σ μ w (ze σ [(id,Ob.row (l++[.nilIface]))]) (setMu μ id ⟨none,0,0,0⟩) [id]:={
    os:=rfl,output:=rfl,size:=Nat.le_refl _,blk:=λ _ _ _=>rfl,cell:=λ _ _ _ _ h=>h,
    fr:=rfl,same:=λ j hj=>by
     have hj:j ≠ id:=by simpa using hj
     exact ⟨by simp [ze,zk,Ne.symm hj],by simp [setMu,hj]⟩,
    own:=λ j hj q hq b i hown _=>by
     simp at hj; subst hj;rw [hnew] at hq; cases hq;simp [owns,setMu] at hown,
    still:=λ j hj q hq=>by
     simp at hj; subst hj;rw [ho] at hq; cases hq;rw [hnew];exact ⟨by simp,λ h=>by simp at h⟩,
    apart:=λ j hj j' hj' _ _ _ _ _ _ _ _ _=>by simp at hj hj'; rw [hj,hj'] }
   have hst:=hup.goes.stays' hi;refine ⟨_,_,_,hK,_,[id],hup,λ j hj o' ho'=>?_,?_⟩
   ·simp at hj; subst hj;rw [hnew] at ho'; cases ho';exact w7.none (by simp [setMu])
   ·cases hv with | slo _ _ _ cap base l' hl' hk' hcap hn hat=>?_
    rw [ho] at hl'; cases hl';refine .d _ _ (zix (hi.ob id _ ho) (hat rfl) hcap hst λ b hb j hown=>?_);have h1:owns μ id (.row l) b 0:=hb;rcases hown with hf | ⟨q,o,hq,hown⟩
    ·exact hi.frame id _ b 0 ho h1 j hf
    ·by_cases hqi:q=id
     ·subst hqi;rw [hnew] at hq; cases hq;simp [owns,setMu] at hown
     ·have hq':zf σ q=some o:=by simpa [ze,zk,Ne.symm hqi] using hq
      have hown':owns μ q o b j:=(x2 (by simp [setMu,hqi]) o _ _).1 hown
      exact hqi (hi.blockApart' hq' ho hown' h1)
  ·cases h
 ·cases h
theorem zxx{kt:Nat}{own:Own}{key:D}{k:Value}(h:zrg P kt key=true)(hk:RD w own k key):(∃ d,P.underlying kt=some d∧MapKept.IsKey d k)∨(zfb P kt=true∧∃ j l a b,key=.agg [.int j a,.int l b]∧k=.agg #[.int j a,.int l b]):=by
 unfold zrg at h;split at h
 ·rename_i s hu;cases hk;exact .inl ⟨_,hu,trivial⟩
 ·rename_i k' n hu;cases hk;exact .inl ⟨_,hu,by simpa [MapKept.IsKey] using h⟩
 ·exact .inr ⟨h,_,_,_,_,rfl,RD.two_inv hk⟩
 ·cases h
theorem zht{d:TypeDesc}{k:Value}(hk:MapKept.IsKey d k):(Instr.keyThatStays k k).run P w=.ok k w:=MapKept.run_keyThatStays hk
theorem zw7{s t:List UInt8}(h:y8 s=y8 t):s=t:=by
 have:=congrArg ByteArray.toList h
 rwa [zao,zao] at this
theorem zvn{d:TypeDesc}{own:Own}{x y:D}{a b:Value}{r:Bool}(ha:RD w own a x)(hb:RD w own b y)(hk:MapKept.IsKey d a)(h:zi7 x y=some r):Instr.sameNow d a b=some r∧(r=true→a=b):=by
 unfold zi7 at h;split at h
 ·rename_i s t;cases ha; cases hb;cases h;obtain ⟨r',h1,h2⟩:=MapKept.sameNow_of_keys (b:=.string (y8 t)) hk (by cases d <;> simp_all [MapKept.IsKey])
  have:r'=decide (s=t):=by
   by_cases e:s=t
   ·subst e; rw [h2.2 rfl]; simp
   ·rw [pd e];cases r' with
    | false=>rfl
    | true=>have:=h2.1 rfl; simp only [Value.string.injEq] at this; exact absurd (zw7 this) e
  subst this;exact ⟨h1,h2.1⟩
 ·rename_i k n k' m;cases ha; cases hb;cases hkk:decide (k=k') <;> rw [hkk] at h
  ·cases h
  ·cases h;have hkk:=ph hkk;subst hkk;obtain ⟨r',h1,h2⟩:=MapKept.sameNow_of_keys (b:=.int k m) hk (by cases d <;> simp_all [MapKept.IsKey])
   have:r'=decide (n=m):=by
    by_cases e:n=m
    ·subst e; rw [h2.2 rfl]; simp
    ·rw [pd e];cases r' with
     | false=>rfl
     | true=>have:=h2.1 rfl; simp only [Value.int.injEq,true_and] at this; exact absurd this e
   subst this;exact ⟨h1,h2.1⟩
 ·rename_i a' b';cases ha;cases d <;> simp_all [MapKept.IsKey]
 ·cases h
theorem zn3{d:TypeDesc}{own:Own}{key:D}{k:Value}(hk:RD w own k key)(hd:MapKept.IsKey d k):∀ (es:List MapEntry) (ks:List D) (i:Nat) (o:Option Nat),RDs w own (es.map (·.key)) ks→zah key ks i=some o →
  (o=none→Instr.findNow d k es i=some none)∧(∀ j,o=some j→i≤j∧∃ e,es[j - i]?=some e∧e.key=k∧Instr.findNow d k es i=some (some (j,e.val)))
 | [],ks,i,o,hr,h=>by
  have:ks=[]:=by have:=hr.1; simp at this; exact List.eq_nil_of_length_eq_zero this.symm
  subst this;cases h;exact ⟨λ _=>rfl,λ j hj=>by cases hj⟩
 | e::es,[],i,o,hr,h=>by have:=hr.1; simp at this
 | e::es,q::ks,i,o,hr,h=>by
  have h0:=hr.2 0 e.key q rfl rfl;have htl:RDs w own (es.map (·.key)) ks:=⟨by have:=hr.1; simpa using this,λ j x y hx hy=>hr.2 (j+1) x y (by simpa using hx) (by simpa using hy)⟩
  simp only [zah] at h;cases hc:zi7 key q with
  | none=>rw [hc] at h; cases h
  | some b=>
   rw [hc] at h;obtain ⟨h1,h2⟩:=zvn hk h0 hd hc;cases b with
   | true=>
    cases h;exact ⟨(λ h=>by cases h),λ j hj=>by cases hj; exact ⟨Nat.le_refl _,e,by simp,(h2 rfl).symm,by simp [Instr.findNow,h1]⟩⟩
   | false=>
    obtain ⟨h3,h4⟩:=zn3 hk hd es ks (i+1) o htl h;refine ⟨λ ho=>by simp [Instr.findNow,h1,h3 ho],λ j hj=>?_⟩
    obtain ⟨h5,e',h6,h7,h8⟩:=h4 j hj;refine ⟨by omega,e',?_,h7,by simp [Instr.findNow,h1,h8]⟩
    rw [show j - i=(j - (i+1))+1 by omega]
    simpa using h6
theorem zp5{kt:Nat}(ht:zfb P kt=true)(em:Bool)(n:Nat){j l:IntKind}{a b:Int}:(Instr.checkKey em (n+2) kt (.agg #[.int j a,.int l b])).run P w=.ok () w:=by
 obtain ⟨f,g,k',l',hu,hf,hg,h0,h1,n0,n1,hs⟩:=zfa ht;have pf:P.plainKey f.type=true:=by simp [Program.plainKey,hf]
 have pg:P.plainKey g.type=true:=by simp [Program.plainKey,hg]
 have e1:∀ x y:Value,(part f.type #[x,y] f.offset).run P w=.ok x w:=λ x y=>run_part_plain w pf (by rw [h0]; rfl)
 have e2:∀ x y:Value,(part g.type #[x,y] g.offset).run P w=.ok y w:=λ x y=>run_part_plain w pg (by rw [h1]; rfl)
 have c1:(Instr.checkKey em (n+1) f.type (.int j a)).run P w=.ok () w:=by
  unfold Instr.checkKey;simp [run_underlying hf]
 have c2:(Instr.checkKey em (n+1) g.type (.int l b)).run P w=.ok () w:=by
  unfold Instr.checkKey;simp [run_underlying hg]
 unfold Instr.checkKey;simp only [Sem.run_bind,run_underlying hu,Result.andThen_ok];rw [←Array.forIn_toList];simp [n0,n1,e1,e2,c1,c2]
theorem zu1{j l:IntKind}{a b:Int}:(Instr.keyThatStays (.agg #[.int j a,.int l b]) (.agg #[.int j a,.int l b])).run P w=.ok (.agg #[.int j a,.int l b]) w:=by
 have:Instr.sameBits 10000 (.agg #[.int j a,.int l b]) (.agg #[.int j a,.int l b])=true:=by simp [Instr.sameBits]
 simp [Instr.keyThatStays,this]
theorem zmo{kt:Nat}(ht:zfb P kt=true){own:Own}{j l:IntKind}{a b:Int}:∀ (es:List MapEntry) (ks:List D) (i:Nat) (o:Option Nat),RDs w own (es.map (·.key)) ks→zah (.agg [.int j a,.int l b]) ks i=some o →
  (o=none→(Instr.findAsking kt (.agg #[.int j a,.int l b]) es i).run P w=.ok none w)∧(∀ q,o=some q→i≤q∧∃ e,es[q - i]?=some e∧e.key=.agg #[.int j a,.int l b]∧(Instr.findAsking kt (.agg #[.int j a,.int l b]) es i).run P w=.ok (some (q,e.val)) w)
 | [],ks,i,o,hr,h=>by
  have:ks=[]:=by have:=hr.1; simp at this; exact List.eq_nil_of_length_eq_zero this.symm
  subst this;cases h;exact ⟨λ _=>rfl,λ j hj=>by cases hj⟩
 | e::es,[],i,o,hr,h=>by have:=hr.1; simp at this
 | e::es,q::ks,i,o,hr,h=>by
  have h0:=hr.2 0 e.key q rfl rfl;have htl:RDs w own (es.map (·.key)) ks:=⟨by have:=hr.1; simpa using this,λ j x y hx hy=>hr.2 (j+1) x y (by simpa using hx) (by simpa using hy)⟩
  simp only [zah] at h;cases hc:zi7 (.agg [.int j a,.int l b]) q with
  | none=>rw [hc] at h; cases h
  | some r0=>
   rw [hc] at h;have hq:∃ c d,q=.agg [.int j c,.int l d]∧r0=(decide (a=c)&&decide (b=d)):=by
    unfold zi7 at hc;split at hc
    ·rename_i he; cases he
    ·rename_i he; cases he
    ·rename_i x y he;cases he;obtain ⟨_,_,_,_,c,d,e1,e2,e3⟩:=zry hc;cases e1;exact ⟨c,d,by rw [e2],e3⟩
    ·cases hc
   obtain ⟨c,d,rfl,hr0⟩:=hq;have hk0:=RD.two_inv h0;have heq:(Op.equal kt (.agg #[.int j a,.int l b]) e.key).run P w=.ok r0 w:=by
    rw [hk0,hr0];exact zop ht 9998
   cases r0 with
   | true=>
    cases h;have hr0:=hr0.symm;rw [pq] at hr0;obtain rfl:=ph hr0.1;obtain rfl:=ph hr0.2;exact ⟨(λ h=>by cases h),λ q hq=>by cases hq; exact ⟨Nat.le_refl _,e,by simp,hk0,by simp [Instr.findAsking,heq]⟩⟩
   | false=>
    obtain ⟨h3,h4⟩:=zmo ht es ks (i+1) o htl h;refine ⟨λ ho=>by simp [Instr.findAsking,heq,h3 ho],λ q hq=>?_⟩
    obtain ⟨h5,e',h6,h7,h8⟩:=h4 q hq;refine ⟨by omega,e',?_,h7,by simp [Instr.findAsking,heq,h8]⟩
    rw [show q - i=(q - (i+1))+1 by omega]
    simpa using h6
theorem zrq{d:TypeDesc}{v:Value}{xs:Array Value}:∀ (es:List MapEntry) (i:Nat),es ≠ []→Instr.findNow d (.agg xs) es i=none
 | [],i,h=>absurd rfl h
 | e::es,i,_=>by
  have:Instr.sameNow d (.agg xs) e.key=none:=by unfold Instr.sameNow; cases d <;> cases e.key <;> rfl
  simp [Instr.findNow,this]
theorem key_ok{kt:Nat}{own:Own}{key:D}{k:Value}(h:zrg P kt key=true)(hk:RD w own k key):(∀ b,(Instr.checkKey b 10000 kt k).run P w=.ok () w)∧(Instr.keyThatStays k k).run P w=.ok k w ∧
  ∀ (es:List MapEntry) (ks:List D) (o:Option Nat),RDs w own (es.map (·.key)) ks→zah key ks 0=some o →
   (o=none→(Instr.findKey kt k es).run P w=.ok none w)∧(∀ j,o=some j→∃ e,es[j]?=some e∧e.key=k∧(Instr.findKey kt k es).run P w=.ok (some (j,e.val)) w):=by
 rcases zxx h hk with ⟨d,hd,hkey⟩ | ⟨ht,j,l,a,b,rfl,rfl⟩
 ·refine ⟨λ b=>MapKept.run_checkKey hd hkey _ 9999,zht hkey,λ es ks o hr hm=>?_⟩;obtain ⟨h1,h2⟩:=zn3 hk hkey es ks 0 o hr hm;refine ⟨λ ho=>MapKept.run_findKey hd (h1 ho),λ j hj=>?_⟩;obtain ⟨_,e,h3,h4,h5⟩:=h2 j hj;exact ⟨e,by simpa using h3,h4,MapKept.run_findKey hd h5⟩
 ·refine ⟨λ b=>zp5 ht b 9998,zu1,λ es ks o hr hm=>?_⟩;obtain ⟨h1,h2⟩:=zmo ht es ks 0 o hr hm;obtain ⟨f,g,k',l',hu,_⟩:=zfa ht;have hfk:(Instr.findKey kt (.agg #[.int j a,.int l b]) es).run P w=(Instr.findAsking kt (.agg #[.int j a,.int l b]) es 0).run P w:=by
   cases es with
   | nil=>simp [Instr.findKey,run_underlying hu,Instr.findNow,Instr.findAsking]
   | cons e es=>simp [Instr.findKey,run_underlying hu,zrq (v:=.nilIface) (e::es) 0 (by simp)]
  refine ⟨λ ho=>by rw [hfk]; exact h1 ho,λ q hq=>?_⟩
  obtain ⟨_,e,h3,h4,h5⟩:=h2 q hq;exact ⟨e,by simpa using h3,h4,by rw [hfk]; exact h5⟩
theorem zga{α:Type}{o:Option α}{K:α→Option R}{E:Option R}{r:R}(h:zk3 o K E=some r):(∃ x,o=some x∧K x=some r)∨(o=none∧E=some r):=by
 cases o with
 | none=>exact .inr ⟨rfl,h⟩
 | some x=>exact .inl ⟨x,rfl,h⟩
theorem zs4{t:Nat}{x k:V}{x' k':Value}{ok:Bool}{K:V→List Nat→Option R}{r:R}(hi:Inv cx w σ μ)(hx:RV w σ μ x' x)(hk:RV w σ μ k' k)(h:zb8 cx σ t x k ok K=some r) :
  ∃ v fp,K v fp=some r∧∃ v',(Instr.lookup t x' k' ok).run cx.P w=.ok v' w∧RV w σ μ v' v:=by
 unfold zb8 at h;split at h
 ·rename_i kt e hu;obtain ⟨z,hz,q1⟩:=zb h;clear h;obtain ⟨key,rfl,q2⟩:=za9 q1;clear q1;obtain ⟨hty,h⟩:=zd q2;clear q2;cases hk with | d _ _ hk=>?_
  obtain ⟨hck,_,hfind⟩:=key_ok hty hk;obtain ⟨zv,hzv,hzr⟩:=zvj (w:=w) hz
  have go:∀ {es:Array MapEntry} {ks vs:List D} {fp:List Nat},RDs w (zp σ μ) (es.toList.map (·.key)) ks→RDs w (zp σ μ) (es.toList.map (·.val)) vs →
    (∀ (q:Option (Nat×Value)) (p:Value×Bool),(Instr.findKey kt k' es.toList).run cx.P w=.ok q w→p=(match q with | some (_,v)=>(v,true) | none=>(zv,false)) →
     (Instr.lookup t x' k' ok).run cx.P w=.ok (if ok then .tuple #[p.1,.bool p.2] else p.1) w) →
    (za (zah key ks 0) λ o=>zk3 o (λ i=>vh vs i λ y=>zby cx.P e y λ v=>K (bif ok then .tup [v,.d (.bool true)] else v) fp)
     (K (bif ok then .tup [.d (wn cx.P e z),.d (.bool false)] else .d (wn cx.P e z)) fp))=some r →
    ∃ v fp,K v fp=some r∧∃ v',(Instr.lookup t x' k' ok).run cx.P w=.ok v' w∧RV w σ μ v' v:=by
   intro es ks vs fp hks hvs hrun h;obtain ⟨o,ho,h⟩:=zb h;obtain ⟨h1,h2⟩:=hfind _ _ _ hks ho;rcases zga h with ⟨i,rfl,h⟩ | ⟨rfl,h⟩
   ·obtain ⟨en,h3,h4,h5⟩:=h2 i rfl;obtain ⟨y,hy,h⟩:=qa h;have hval:RD w (zp σ μ) en.val y:=hvs.2 i en.val y (by rw [List.getElem?_map]; simp at h3; simp [h3]) hy
    obtain ⟨u,hK,hu'⟩:=zft (P:=cx.P) (σ:=σ) (μ:=μ) h hval;refine ⟨_,_,hK,_,hrun _ _ h5 rfl,?_⟩;cases ok
    ·exact hu'
    ·exact .tup _ _ rfl λ i a b ha hb=>by
      match i with
      | 0=>simp at ha hb; subst ha; subst hb; exact hu'
      | 1=>simp at ha hb; subst ha; subst hb; exact .d _ _ (.bool true)
      | i+2=>simp at ha
   ·refine ⟨_,_,h,_,hrun _ _ (h1 rfl) rfl,?_⟩;cases ok
    ·exact .d _ _ (hzr _)
    ·exact .tup _ _ rfl λ i a b ha hb=>by
      match i with
      | 0=>simp at ha hb; subst ha; subst hb; exact .d _ _ (hzr _)
      | 1=>simp at ha hb; subst ha; subst hb; exact .d _ _ (.bool false)
      | i+2=>simp at ha
  simp only at h;split at h
  ·rename_i ks vs;cases hx with | d _ _ hd'=>?_
   cases hd' with | map q es clock _ _ hm ho hk1 hv1 h1 h2=>?_
   refine go (es:=es) ⟨by simpa using hk1,λ i a b ha hb=>?_⟩ ⟨by simpa using hv1,λ i a b ha hb=>?_⟩ (λ q p hq hp=>?_) h
   ·simp only [List.getElem?_map,Option.map_eq_some_iff] at ha;obtain ⟨en,he,rfl⟩:=ha;exact h1 i en b (by simpa using he) hb
   ·simp only [List.getElem?_map,Option.map_eq_some_iff] at ha;obtain ⟨en,he,rfl⟩:=ha;exact h2 i en b (by simpa using he) hb
   ·subst hp;unfold Instr.lookup;cases q <;> simp [run_underlying hu,MapKept.run_getObj_map hm,hck,hq,hzv]
  ·cases hx with | d _ _ hd'=>?_
   cases hd';refine go (es:=#[]) ⟨rfl,by simp⟩ ⟨rfl,by simp⟩ (λ q p hq hp=>?_) h
   subst hp;unfold Instr.lookup;have hq:(Instr.findKey kt k' []).run cx.P w=.ok q w:=hq;cases q <;> simp [run_underlying hu,hck,hq,hzv]
  ·rename_i id;split at h
   ·rename_i ks vs ho;cases hx with | map _ b ks' vs' hi' hb=>?_
    rw [ho] at hi'; cases hi';obtain ⟨b',es,clock,hb',hm,hk1,hv1⟩:=hi.ob id _ ho;obtain rfl:b=b':=by rw [hb] at hb'; exact Option.some.inj hb'
    refine go (es:=es) hk1 hv1 (λ q p hq hp=>?_) h;subst hp;unfold Instr.lookup;cases q <;> simp [run_underlying hu,MapKept.run_getObj_map hm,hck,hq,hzv]
   ·cases h
  ·cases h
 ·cases h
theorem zku{id b:Nat}{o o':Ob}{q:Obj}{w':World}(ho:zf σ id=some o)(hb:(μ id).blk=some b)(hown:∀ b' i,owns μ id o b' i↔b'=b)(hown':∀ b' i,owns μ id o' b' i↔b'=b)
  (hw:w' = { w with heap:=w.heap.setIfInBounds b q }) (hst:yx μ id o μ (some o')):Upd cx w σ μ w' (ze σ [(id,o')]) μ [id]:=by
 subst hw;exact zg1 ho hb hown hown' rfl rfl (by simp) (λ b' hb'=>by simp [Ne.symm hb']) hst
theorem zsz{t:Nat}{x k v:V}{x' k' v':Value}{K:De→List Nat→Option R}{r:R}(hi:Inv cx w σ μ)(hx:RV w σ μ x' x)(hk:RV w σ μ k' k)(hv:RV w σ μ v' v)(h:zb7 cx σ t x k v K=some r) :
  ∃ δ fp,K δ fp=some r∧∃ w' id,(Instr.mapUpdate t x' k' v').run cx.P w=.ok () w'∧Upd cx w σ μ w' (ze σ δ) μ [id] ∧
   ∀ j∈[id],∀ o',zf (ze σ δ) j=some o'→zay w' (ze σ δ) μ j o':=by
 unfold zb7 at h;split at h
 ·rename_i kt e hu;split at h
  ·rename_i id;split at h
   ·rename_i ks vs ho;obtain ⟨key,rfl,h⟩:=za9 h;obtain ⟨y,hy,h⟩:=zb h;obtain ⟨hty,h⟩:=zd h;cases hk with | d _ _ hk=>?_
    obtain ⟨hckb,hstay,hfind⟩:=key_ok hty hk;have hyr:=zdw hv hy;cases hx with | map _ b ks' vs' hi' hb=>?_
    rw [ho] at hi'; cases hi';obtain ⟨b',es,clock,hb',hm,hk1,hv1⟩:=hi.ob id _ ho;obtain rfl:b=b':=by rw [hb] at hb'; exact Option.some.inj hb'
    obtain ⟨o,ho',h⟩:=zb h;obtain ⟨h1,h2⟩:=hfind _ _ _ hk1 ho';have hck:=hckb false;have hset:∀ q:Obj,({ w with heap:=w.heap.setIfInBounds b q }:World).heap[b]?=some q:=λ q=>by
     have hlt:b<w.heap.size:=(Array.getElem?_eq_some_iff.1 hm).1;simp [hlt]
    rcases zga h with ⟨i,rfl,h⟩ | ⟨rfl,h⟩
    ·obtain ⟨en,h3,h4,h5⟩:=h2 i rfl;have h3:es[i]?=some en:=by simpa using h3
     have hrun:(Instr.mapUpdate t (.map (some b)) k' v').run cx.P w=.ok () { w with heap:=w.heap.setIfInBounds b (.map (es.modify i λ e=>{ e with key:=k',val:=v' }) clock) }:=by
      unfold Instr.mapUpdate;simp [run_underlying hu,MapKept.run_getObj_map hm,hck,h5,h3,h4,hstay,MapKept.run_setObj_map _ hm]
     have hup:=zku (cx:=cx) (w:=w) (o':=.map ks (vs.set i y)) ho hb (zhz hb ks vs) (zhz hb ks _) (q:=.map (es.modify i λ e=>{ e with key:=k',val:=v' }) clock) rfl rfl
     have hs:=hup.goes.stays' hi;refine ⟨_,_,h,_,id,hrun,hup,λ j hj o' ho'=>?_⟩;simp at hj; subst hj;simp only [ze,zk,if_pos] at ho';cases ho';have hlen:i<es.size:=(Array.getElem?_eq_some_iff.1 h3).1;refine ⟨b,_,clock,hb,hset _,?_,?_⟩
     ·have e1:(es.modify i λ e=>{ e with key:=k',val:=v' }).toList.map (·.key)=es.toList.map (·.key):=MapKept.modify_keys i _ λ e he=>by
       rw [h3] at he; cases he; exact h4.symm
      rw [e1];exact hk1.stays hs
     ·refine ⟨by have:=hv1.1; simp at this ⊢; exact this,λ p a c ha hc=>?_⟩
      rw [List.getElem?_map,Option.map_eq_some_iff] at ha;obtain ⟨en',he',rfl⟩:=ha;simp only [Array.getElem?_toList,Array.getElem?_modify] at he';by_cases hip:i=p
      ·subst hip;simp only [if_true,h3,Option.map_some,Option.some.injEq] at he';subst he';rw [List.getElem?_set_self (by have:=hv1.1; simp at this; omega)] at hc
       cases hc;exact hyr.stays hs
      ·simp only [if_neg hip] at he';rw [List.getElem?_set_ne hip] at hc;exact (hv1.2 p en'.val c (by simp [he']) hc).stays hs
    ·have hrun:(Instr.mapUpdate t (.map (some b)) k' v').run cx.P w=.ok () { w with heap:=w.heap.setIfInBounds b (.map (es.push { key:=k',val:=v',born:=clock }) (clock+1)) }:=by
      unfold Instr.mapUpdate;simp [run_underlying hu,MapKept.run_getObj_map hm,hck,h1 rfl,MapKept.run_setObj_map _ hm]
     have hup:=zku (cx:=cx) (w:=w) (o':=.map (ks++[key]) (vs++[y])) ho hb (zhz hb ks vs) (zhz hb _ _) (q:=.map (es.push { key:=k',val:=v',born:=clock }) (clock+1)) rfl rfl;have hs:=hup.goes.stays' hi;refine ⟨_,_,h,_,id,hrun,hup,λ j hj o' ho'=>?_⟩;simp at hj; subst hj;simp only [ze,zk,if_pos] at ho';cases ho';have one:∀ {a:Value} {c:D} {vs:List Value} {l:List D},RDs w (zp σ μ) vs l→RD w (zp σ μ) a c→RDs w (zp σ μ) (vs++[a]) (l++[c]):=by
      intro a c vs l h1 h2;have:=h1.rv.append (show RVs w σ μ [a] [V.d c] from ⟨rfl,λ i p q hp hq=>by cases i <;> simp at hp hq; subst hp; subst hq; exact .d _ _ h2⟩)
      rw [show l.map V.d++[V.d c]=(l++[c]).map V.d by simp] at this
      exact this.rd
     refine ⟨b,_,_,hb,hset _,?_,?_⟩
     ·have:=(one hk1 hk).stays hs;simpa using this
     ·have:=(one hv1 hyr).stays hs;simpa using this
   ·cases h
  ·cases h
 ·cases h
end
theorem xp:∀ {ren:List Nat} {i:Nat},i∈ren→za8 ren (xe ren i)=i∧xe ren i<ren.length
 | j::r,i,h=>by
  by_cases e:j=i
  ·subst e; simp [xe,za8]
  ·have:i∈r:=by cases h with | head=>exact absurd rfl e | tail _ h=>exact h
   obtain ⟨h1,h2⟩:=xp this;simp only [xe,zif e,p6,za8,p7];exact ⟨h1,by omega⟩
theorem zc7:∀ {l:List Nat},nodupB l=true→l.Nodup
 | [],_=>by simp
 | i::r,h=>by
  simp only [nodupB,pq] at h;have h1 : ¬ i∈r:=by simpa using h.1
  exact List.nodup_cons.2 ⟨h1,zc7 h.2⟩
theorem za7:∀ {ren:List Nat} {k:Nat},k<ren.length→ren[k]?=some (za8 ren k)
 | j::r,0,_=>rfl
 | j::r,k+1,h=>by simpa [za8] using za7 (ren:=r) (k:=k) (by simpa using h)
theorem qp:∀ {ren:List Nat} {k i:Nat},ren.Nodup→ren[k]?=some i→xe ren i=k
 | j::r,0,i,hn,h=>by simp at h; subst h; simp [xe]
 | j::r,k+1,i,hn,h=>by
  have hn':=List.nodup_cons.1 hn;have hr:r[k]?=some i:=by simpa using h
  have hne : ¬ j=i:=λ e=>hn'.1 (e ▸ pz hr);simp [xe,zif hne,qp hn'.2 hr]
mutual
theorem V.ren_ids(f:Nat→Nat):∀ (v:V),(v.ren f).ids=v.ids.map f
 | .d x=>rfl
 | .eptr x o=>rfl
 | .gptr g o=>rfl
 | .ptr id o=>rfl
 | .sl s l id=>rfl
 | .slo id o n=>rfl
 | .wptr id sz k i off=>rfl
 | .mfunc g l=>rfl
 | .map id=>rfl
 | .agg l=>by simp only [V.ren,V.ids]; exact V.renL_ids f l
 | .func g l=>by simp only [V.ren,V.ids]; exact V.renL_ids f l
 | .tup l=>by simp only [V.ren,V.ids]; exact V.renL_ids f l
 | .iface t v=>by simp only [V.ren,V.ids]; exact V.ren_ids f v
theorem V.renL_ids(f:Nat→Nat):∀ (l:List V),V.idsL (V.renL f l)=(V.idsL l).map f
 | []=>rfl
 | v::r=>by simp only [V.renL,V.idsL,List.map_append,V.ren_ids f v,V.renL_ids f r]
end
theorem V.renL_map(f:Nat→Nat):∀ (l:List V),V.renL f l=l.map (V.ren f)
 | []=>rfl
 | v::r=>by simp [V.renL,V.renL_map f r]
theorem V.ren_cells(f:Nat→Nat)(v:V):(v.ren f).cells=v.cells.map (V.ren f):=by
 cases v with
 | d x=>cases x <;> simp [V.ren,V.cells]
 | agg l=>simp [V.ren,V.cells,V.renL_map]
 | _=>simp [V.ren,V.cells]
theorem V.cells_ids{v c:V}(h:c∈v.cells){i:Nat}(hi:i∈c.ids):i∈v.ids:=by
 cases v with
 | d x=>cases x <;> simp [V.cells] at h <;> first | (subst h; exact hi) | (obtain ⟨y,_,rfl⟩:=h; exact hi)
 | agg l=>exact V.idsL_mem h hi
 | _=>simp [V.cells] at h; subst h; exact hi
theorem V.ren_tup(f:Nat→Nat)(v:V):(v.ren f).tupV=v.tupV:=by cases v <;> rfl
section
variable {cx:Cx} {w w':World} {σ τ:St} {μ ν:Mu}
def qn:Option Ob→Option Ob→Prop
 | some (.val ..),some (.val ..)=>True
 | some (.row l),some (.row l')=>l'.length=l.length
 | some (.tok n),some (.tok n')=>n'=n
 | some (.map ..),some (.map ..)=>True
 | none,_=>True
 | _,_=>False
theorem qn.ren(f:Nat→Nat)(o:Option Ob):qn o (o.map (Ob.ren f)):=by
 cases o with
 | none=>trivial
 | some o=>cases o <;> simp [qn,Ob.ren]
theorem RV.rename(f:Nat→Nat)(hs:Stays w (zp σ μ) w (zp τ ν)){v:Value}{x:V}(h:RV w σ μ v x)(hg:∀ id∈x.ids,qn (zf σ id) (zf τ (f id))∧ν (f id)=μ id) :
  RV w τ ν v (x.ren f):=by
 induction h with
 | d v x h=>exact .d v x (h.stays hs)
 | ptr id off b hc hb=>
  obtain ⟨h1,h2⟩:=hg id (by simp [V.ids])
  refine .ptr _ off b ?_ (by rw [h2]; exact hb)
  cases ho:zf σ id with
  | none=>rw [ho] at hc; exact hc.elim
  | some o=>
   rw [ho] at hc h1
   cases o <;> first
    | exact hc.elim
    | (cases ho':zf τ (f id) with
      | none=>rw [ho'] at h1; exact h1.elim
      | some o'=>rw [ho'] at h1; cases o' <;> first | exact h1.elim | trivial)
 | eptr x b o off xs hc h=>exact .eptr x b o off xs (λ j hj=>⟨(hs.cell _ _ _ (hc j hj).2.1 (hc j hj).1).1,(hs.cell _ _ _ (hc j hj).2.1 (hc j hj).1).2,(hc j hj).2.2⟩) (λ j c hj=>(h j c hj).stays hs)
 | gptr g off=>exact .gptr g off
 | agg cs l hl ho _ ih=>
  simp only [V.ren,V.renL_map];refine .agg cs _ (by simpa using hl) ho λ i x y hx hy=>?_
  rw [List.getElem?_map,Option.map_eq_some_iff] at hy;obtain ⟨z,hz,rfl⟩:=hy;exact ih i x z hx hz λ id hid=>hg id (V.idsL_mem (pz hz) hid)
 | sl v sz l id n h ht hn he=>
  obtain ⟨h1,h2⟩:=hg id (by simp [V.ids])
  rw [ht] at h1;have h1':zf τ (f id)=some (.tok n):=by
   cases ho':zf τ (f id) with
   | none=>rw [ho'] at h1; exact h1.elim
   | some o'=>rw [ho'] at h1; cases o' <;> first | exact h1.elim | (have h1:_=n:=h1; rw [h1])
  refine .sl v sz l _ n (h.stays hs) h1' hn λ e=>?_;have:=he e;unfold tail at this ⊢;rw [h2];exact this
 | slo id sz k cap base l hi hk hcap hn he=>
  obtain ⟨h1,h2⟩:=hg id (by simp [V.ids])
  rw [hi] at h1;cases ho':zf τ (f id) with
  | none=>rw [ho'] at h1; exact h1.elim
  | some o'=>
   rw [ho'] at h1;cases o' <;> first | exact h1.elim | skip
   rename_i l';have h1:l'.length=l.length:=h1;refine .slo _ sz k cap base l' ho' (by omega) hcap hn λ e=>?_
   have:=he (by omega)
   unfold rowAt at this ⊢;rw [h2]; exact this
 | wptr id sz k i off a l hi hk he=>
  obtain ⟨h1,h2⟩:=hg id (by simp [V.ids])
  rw [hi] at h1;cases ho':zf τ (f id) with
  | none=>rw [ho'] at h1; exact h1.elim
  | some o'=>
   rw [ho'] at h1;cases o' <;> first | exact h1.elim | skip
   rename_i l';have h1:l'.length=l.length:=h1;refine .wptr _ sz k i off a l' ho' (by omega) λ e=>?_
   have:=he (by omega)
   unfold zug at this ⊢;rw [h2]; exact this
 | func g cs l hl _ ih=>
  simp only [V.ren,V.renL_map];refine .func g cs _ (by simpa using hl) λ i x y hx hy=>?_
  rw [List.getElem?_map,Option.map_eq_some_iff] at hy;obtain ⟨z,hz,rfl⟩:=hy;exact ih i x z hx hz λ id hid=>hg id (V.idsL_mem (pz hz) hid)
 | mfunc g cs l h=>exact .mfunc g cs l ⟨h.1,λ i x y hx hy=>(h.2 i x y hx hy).stays hs⟩
 | map id b ks vs hi hb=>
  obtain ⟨h1,h2⟩:=hg id (by simp [V.ids])
  rw [hi] at h1;cases ho':zf τ (f id) with
  | none=>rw [ho'] at h1; exact h1.elim
  | some o'=>
   rw [ho'] at h1;cases o' <;> first | exact h1.elim | exact .map _ b _ _ ho' (by rw [h2]; exact hb)
 | iface t v u _ ih=>exact .iface t v _ (ih hg)
 | tup cs l hl _ ih=>
  simp only [V.ren,V.renL_map];refine .tup cs _ (by simpa using hl) λ i x y hx hy=>?_
  rw [List.getElem?_map,Option.map_eq_some_iff] at hy;obtain ⟨z,hz,rfl⟩:=hy;exact ih i x z hx hz λ id hid=>hg id (V.idsL_mem (pz hz) hid)
theorem RVs.rename(f:Nat→Nat)(hs:Stays w (zp σ μ) w (zp τ ν)){vs:List Value}{l:List V}(h:RVs w σ μ vs l)
  (hg:∀ id∈V.idsL l,qn (zf σ id) (zf τ (f id))∧ν (f id)=μ id):RVs w τ ν vs (V.renL f l):=by
 rw [V.renL_map];refine ⟨by simpa using h.1,λ i x y hx hy=>?_⟩
 rw [List.getElem?_map,Option.map_eq_some_iff] at hy;obtain ⟨z,hz,rfl⟩:=hy;exact (h.2 i x z hx hz).rename f hs λ id hid=>hg id (V.idsL_mem (pz hz) hid)
theorem za2(f:Nat→Nat)(id:Nat)(o:Ob)(b i:Nat):owns μ id (o.ren f) b i↔owns μ id o b i:=by cases o <;> exact Iff.rfl
theorem zay.rename(f:Nat→Nat)(hs:Stays w (zp σ μ) w (zp τ ν)){id:Nat}{o:Ob}(h:zay w σ μ id o)(hid:ν (f id)=μ id)
  (hg:∀ j∈o.ids,qn (zf σ j) (zf τ (f j))∧ν (f j)=μ j):zay w τ ν (f id) (o.ren f):=by
 cases o with
 | val n v=>
  obtain ⟨b,cs,el,hb,hh,hn,ht,h1,hr,htag⟩:=h;refine ⟨b,cs,el,by rw [hid]; exact hb,hh,hn,by rw [V.ren_tup]; exact ht,h1,?_,htag⟩
  rw [V.ren_cells];refine ⟨by simpa using hr.1,λ i x y hx hy=>?_⟩
  rw [List.getElem?_map,Option.map_eq_some_iff] at hy;obtain ⟨z,hz,rfl⟩:=hy;exact (hr.2 i x z hx hz).rename f hs λ j hj=>hg j (V.cells_ids (pz hz) hj)
 | row l=>
  show w7 w (zp τ ν) (ν (f id)) l;rw [hid];exact w7.stays hs h λ _ _ _=>rfl
 | tok n=>
  intro b hb;rw [hid] at hb ⊢;exact h b hb
 | map ks vs=>
  obtain ⟨b,es,clock,hb,hh,hk,hv⟩:=h;exact ⟨b,es,clock,by rw [hid]; exact hb,hh,hk.stays hs,hv.stays hs⟩
theorem zg8(σ:St)(full:List Nat):∀ (ren:List Nat) (k j:Nat),(∀ i∈ren,∃ o,zf σ i=some o) →
  zf (xd σ full k ren) j=if k≤j then (ren[j - k]?).bind λ i=>(zf σ i).map (Ob.ren (xe full)) else none
 | [],k,j,_=>by simp [xd,zf]
 | i::r,k,j,h=>by
  obtain ⟨o,ho⟩:=h i py;have ih:=zg8 σ full r (k+1) j λ i hi=>h i (p0 _ hi);simp only [xd,ho,zf];by_cases e:k=j
  ·subst e; simp [ho]
  ·simp only [zif e,p6,ih];by_cases hlt:k+1≤j
   ·have h2:k≤j:=by omega
    have h3:j - k=(j - (k+1))+1:=by omega
    simp [hlt,h2,h3]
   ·have h2 : ¬ k≤j:=by omega
    simp [hlt,h2]
theorem zhv(σ:St)(full:List Nat):∀ (ren:List Nat) (k:Nat),(∀ i∈ren,∃ o,zf σ i=some o)→(xd σ full k ren).length=ren.length
 | [],k,_=>rfl
 | i::r,k,h=>by
  obtain ⟨o,ho⟩:=h i py;simp [xd,ho,zhv σ full r (k+1) λ i hi=>h i (p0 _ hi)]
def Canon(σ:St):Prop:=∀ k o,zf σ k=some o→k<σ.length∧∀ i∈o.ids,i<σ.length
def zyz(cx:Cx):Prop:=∀ g e,cx.grow g=some e→∀ (n:Int) (w:World),0≤n→n≤4294967296→(∃ fn,cx.P.funcs[g]?=some fn∧fn.body.isNone=false) ∧
 Calls cx.P g #[.slice none 0 0,.int .i64 n] w λ x w'=>∃ base cap,x=.returned (.slice base 0 cap) ∧
  ((w'=w∧base=none∧cap=0)∨∃ (cs:Array Value) (el:TypeId),base=some ⟨w.heap.size,0,none⟩∧w'=w.drew.alloc (.cells cs el)∧cs.size=cap * cx.P.cellsOf e)
def vu(cx:Cx)(call:Nat→List V→St→Option (Out×St)):Prop:=zyz cx ∧
 ∀ f args σ out σ',call f args σ=some (out,σ')→∀ w μ vs,Inv cx w σ μ→Canon σ→(∀ i∈V.idsL args,i<σ.length)→(∀ k,k<σ.length→∃ o,zf σ k=some o)→RVs w σ μ vs args →
  (∃ fn,cx.P.funcs[f]?=some fn∧fn.body.isNone=false)∧(∀ k o,zf σ' k=some o→k<σ.length∧∀ i∈o.ids,i<σ.length)∧(∀ i∈(match out with | .ret v=>v.ids | .pan v=>v.ids),i<σ.length) ∧
  Calls cx.P f vs.toArray w λ e w'=>∃ μ',After cx w σ μ w' σ' μ' ∧
   match out,e with
   | .ret v,.returned x=>RV w' σ' μ' x v
   | .pan v,.panicked chain=>∃ x,chain=[{ v:=x,recovered:=false }]∧RV w' σ' μ' x v
   | _,_=>False
end
section
variable {R:Type} {cx:Cx} {w w':World} {σ τ:St} {μ ν:Mu}
theorem Inv.blockApart(hi:Inv cx w σ μ){id id':Nat}{o o':Ob}{b i i':Nat}(ho:zf σ id=some o)(ho':zf σ id'=some o')(h:owns μ id o b i)(h':owns μ id' o' b i'):id=id':=by
 have key:∃ k,owns μ id o b k∧owns μ id' o' b k:=by
  refine ⟨max (max i i') (max (μ id).f (μ id').f),?_,?_⟩
  ·cases o <;> simp only [owns] at h ⊢ <;> first | exact h | exact ⟨h.1,by omega⟩
  ·cases o' <;> simp only [owns] at h' ⊢ <;> first | exact h' | exact ⟨h'.1,by omega⟩
 obtain ⟨k,h1,h2⟩:=key;exact hi.apart id id' o o' b k ho ho' h1 h2
def zdg(new u:V):Prop:=u=new∨∃ s sz l,new=.d (.sl s l)∧u=.d (.sl sz l)∧(s=sz∨l=[])
theorem zdg.rv{new u:V}(h:zdg new u){v:Value}(hv:RV w σ μ v new):RV w σ μ v u:=by
 rcases h with rfl | ⟨s,sz,l,rfl,rfl,he⟩
 ·exact hv
 ·cases hv with | d _ _ hd=>exact .d _ _ (hd.sl_sz he)
theorem zdg.ids{new u:V}(h:zdg new u):u.ids=new.ids:=by
 rcases h with rfl | ⟨s,sz,l,rfl,rfl,he⟩ <;> rfl
theorem zrc{old new:V}{K:V→Option R}{r:R}(h:zlh old new K=some r):∃ u,K u=some r∧zdg new u:=by
 unfold zlh at h;split at h
 ·obtain ⟨x,rfl,h⟩:=za9 h; obtain ⟨n,rfl,h2⟩:=zhg h; exact ⟨_,h2,.inl rfl⟩
 ·obtain ⟨x,rfl,h⟩:=za9 h; obtain ⟨n,rfl,h2⟩:=zfx h; exact ⟨_,h2,.inl rfl⟩
 ·obtain ⟨x,rfl,h⟩:=za9 h; obtain ⟨n,rfl,h2⟩:=zhf h; exact ⟨_,h2,.inl rfl⟩
 ·obtain ⟨x,rfl,h⟩:=za9 h; obtain ⟨s,l,rfl,he,h2⟩:=zjh h; exact ⟨_,h2,.inr ⟨_,_,_,rfl,rfl,he⟩⟩
 ·exact ⟨_,h,.inl rfl⟩
 ·obtain ⟨x,rfl,h⟩:=za9 h; exact ⟨_,h,.inl rfl⟩
 ·rename_i sz l id;split at h
  ·rename_i sz' l' id';cases hc:(Nat.beq sz sz'&&Nat.beq id id')
   ·rw [hc] at h; cases h
   ·rw [hc,p5] at h;rw [pq] at hc;obtain rfl:=po hc.1;obtain rfl:=po hc.2;exact ⟨_,h,.inl rfl⟩
  ·cases h
 ·exact ⟨_,h,.inl rfl⟩
theorem zrd:∀ {olds news:List V} {K:List V→Option R} {r:R},zlj olds news K=some r→∃ us,K us=some r∧us.length=news.length∧∀ (i:Nat) x u,news[i]?=some x→us[i]?=some u→zdg x u
 | [],news,K,r,h=>by
  obtain ⟨rfl,h⟩:=zqf h;exact ⟨[],h,rfl,by simp⟩
 | o::os,news,K,r,h=>by
  obtain ⟨v,q,rfl,h1⟩:=zqi h;obtain ⟨u,h2,hu⟩:=zrc h1;obtain ⟨us,h3,hl,hus⟩:=zrd h2;refine ⟨u::us,h3,by simp [hl],λ i x y hx hy=>?_⟩
  cases i with
  | zero=>simp at hx hy; subst hx; subst hy; exact hu
  | succ i=>exact hus i x y (by simpa using hx) (by simpa using hy)
structure LikeO (new o:Ob):Prop where
 ok:∀ (w:World) (σ:St) (μ:Mu) (id:Nat),zay w σ μ id new→zay w σ μ id o
 ids:o.ids=new.ids
 owns:∀ (μ:Mu) (id b i:Nat),owns μ id o b i↔owns μ id new b i
 still:∀ (μ μ':Mu) (id:Nat) (p:Ob),yx μ id p μ' (some new)→yx μ id p μ' (some o)
 compat:qn (some new) (some o)
theorem LikeO.refl(o:Ob):LikeO o o:=⟨λ _ _ _ _ h=>h,rfl,λ _ _ _ _=>Iff.rfl,λ _ _ _ _ h=>h,by cases o <;> simp [qn]⟩
theorem zlq:∀ {l l':List V},l.length=l'.length→(∀ (i:Nat) x y,l[i]?=some x→l'[i]?=some y→x.ids=y.ids)→V.idsL l=V.idsL l'
 | [],[],_,_=>rfl
 | x::l,y::l',h,hi=>by
  simp only [V.idsL];rw [hi 0 x y rfl rfl,zlq (by simpa using h) λ i a b ha hb=>hi (i+1) a b (by simpa using ha) (by simpa using hb)]
theorem zdg.cells{new u:V}(h:zdg new u){vs:List Value}(hv:RVs w σ μ vs new.cells):RVs w σ μ vs u.cells:=by
 rcases h with rfl | ⟨s,sz,l,rfl,rfl,he⟩
 ·exact hv
 ·refine ⟨hv.1,λ i x y hx hy=>?_⟩;cases i with
  | zero=>
   simp [V.cells] at hy; subst hy;have:=hv.2 0 x _ hx rfl;cases this with | d _ _ hd=>exact .d _ _ (hd.sl_sz he)
  | succ i=>simp [V.cells] at hy
theorem zdg.tup{new u:V}(h:zdg new u)(ht:new.tupV=false):u.tupV=false:=by
 rcases h with rfl | ⟨s,sz,l,rfl,rfl,he⟩
 ·exact ht
 ·rfl
theorem zn5{n:Nat}{v u:V}(hr:∀ (w:World) (σ:St) (μ:Mu) (vs:List Value),RVs w σ μ vs v.cells→RVs w σ μ vs u.cells)(ht:v.tupV=false→u.tupV=false)(hi:u.ids=v.ids):LikeO (.val n v) (.val n u) where
 ok:=λ w σ μ id h=>by
  obtain ⟨b,cs,el,hb,hh,hn,htp,h1,hrr,htag⟩:=h;exact ⟨b,cs,el,hb,hh,hn,ht htp,h1,hr w σ μ _ hrr,htag⟩
 ids:=hi
 owns:=λ _ _ _ _=>Iff.rfl
 still:=λ μ μ' id p h=>by cases p <;> exact h
 compat:=trivial
theorem zxw{old new:Ob}{K:Ob→Option R}{r:R}(h:zn6 old new K=some r):∃ o,K o=some r∧LikeO new o:=by
 unfold zn6 at h;split at h
 ·rename_i n l n' v;obtain ⟨hn,h1⟩:=zd h;clear h;obtain rfl:=po hn;split at h1
  ·rename_i l';obtain ⟨us,hK,hl,hus⟩:=zrd h1;refine ⟨_,hK,zn5 (λ w σ μ vs hv=>?_) (λ _=>rfl) ?_⟩
   ·simp only [V.cells] at hv ⊢;refine ⟨by rw [hl]; exact hv.1,λ i x y hx hy=>?_⟩
    obtain ⟨z,hz⟩:=yo (l:=l') (i:=i) (by rw [←hl]; exact (pr.1 hy).1)
    exact (hus i z y hz hy).rv (hv.2 i x z hx hz)
   ·simp only [V.ids];exact zlq hl λ i x y hx hy=>(hus i y x hy hx).ids
  ·exact ⟨_,h1,LikeO.refl _⟩
 ·rename_i n v n' v' hne;obtain ⟨hn,h1⟩:=zd h;clear h;obtain rfl:=po hn;obtain ⟨u,hK,hu⟩:=zrc h1;exact ⟨_,hK,zn5 (λ w σ μ vs hv=>hu.cells hv) hu.tup hu.ids⟩
 ·exact ⟨_,h,LikeO.refl _⟩
theorem zcj{full:List Nat}{σ':St}:∀ (ren:List Nat) (k:Nat) {K:De→Option R} {r:R},qu full σ σ' k ren K=some r →
  ∃ δ,K δ=some r∧δ.map (·.1)=ren∧∀ (j i:Nat),ren[j]?=some i→∃ old new o,zf σ i=some old∧zf σ' (k+j)=some new∧δ[j]?=some (i,o)∧LikeO (new.ren (za8 full)) o
 | [],k,K,r,h=>⟨[],h,rfl,by simp⟩
 | i::ren,k,K,r,h=>by
  simp only [qu] at h;obtain ⟨old,ho,h⟩:=zb h;obtain ⟨new,hn,h⟩:=zb h;obtain ⟨o,h,hlike⟩:=zxw h;obtain ⟨δ,hK,hm,hδ⟩:=zcj ren (k+1) h;refine ⟨(i,o)::δ,hK,by simp [hm],λ j a hj=>?_⟩
  cases j with
  | zero=>simp at hj; subst hj; exact ⟨old,new,o,ho,hn,rfl,hlike⟩
  | succ j=>
   obtain ⟨old',new',o',h1,h2,h3,h4⟩:=hδ j a (by simpa using hj)
   exact ⟨old',new',o',h1,by rw [show k+(j+1)=k+1+j by omega]; exact h2,by simpa using h3,h4⟩
theorem zci{P:Program}{t:Nat}{v:V}{K:V→Option R}{r:R}(h:zb2 P t v K=some r):∃ u,K u=some r∧∀ (w:World) (σ:St) (μ:Mu) (v':Value),RV w σ μ v' v→RV w σ μ v' u:=by
 cases v with
 | d x=>
  simp only [zb2] at h;unfold zby at h;split at h
  ·obtain ⟨n,rfl,h2⟩:=zhg h; exact ⟨_,h2,λ _ _ _ _ h=>h⟩
  ·obtain ⟨n,rfl,h2⟩:=zfx h; exact ⟨_,h2,λ _ _ _ _ h=>h⟩
  ·obtain ⟨n,rfl,h2⟩:=zhf h; exact ⟨_,h2,λ _ _ _ _ h=>h⟩
  ·obtain ⟨s,l,rfl,he,h2⟩:=zjh h; exact ⟨_,h2,λ _ _ _ _ h=>by cases h with | d _ _ hd=>exact .d _ _ (hd.sl_sz he)⟩
  ·obtain ⟨l,_,_,h2⟩:=zcy h; exact ⟨_,h2,λ _ _ _ _ h=>h⟩
  ·obtain ⟨l,_,_,h2⟩:=zcy h; exact ⟨_,h2,λ _ _ _ _ h=>h⟩
  ·split at h
   ·cases h
   ·exact ⟨_,h,λ _ _ _ _ h=>h⟩
  ·cases h
 | _=>exact ⟨_,(zd h).2,λ _ _ _ _ h=>h⟩
theorem zmc{P:Program}:∀ {ts:List Nat} {vs:List V} {K:List V→Option R} {r:R},zer P ts vs K=some r→∃ us,K us=some r∧us.length=vs.length∧∀ (i:Nat) x u,vs[i]?=some x→us[i]?=some u→∀ (w:World) (σ:St) (μ:Mu) v,RV w σ μ v x→RV w σ μ v u
 | [],vs,K,r,h=>by
  obtain ⟨rfl,h⟩:=zqf h;exact ⟨[],h,rfl,by simp⟩
 | t::ts,vs,K,r,h=>by
  obtain ⟨v,q,rfl,h1⟩:=zqi h;obtain ⟨u,h2,hu⟩:=zci h1;obtain ⟨us,hK,hl,hus⟩:=zmc h2;refine ⟨u::us,hK,by simp [hl],λ i x y hx hy=>?_⟩
  cases i with
  | zero=>simp at hx hy; subst hx; subst hy; exact hu
  | succ i=>exact hus i x y (by simpa using hx) (by simpa using hy)
theorem zmd{P:Program}{t:Nat}{v:V}{K:V→Option R}{r:R}(h:zes P t v K=some r):∃ u,K u=some r∧∀ (w:World) (σ:St) (μ:Mu) (v':Value),RV w σ μ v' v→RV w σ μ v' u:=by
 unfold zes at h;split at h
 ·split at h
  ·exact ⟨_,h,λ _ _ _ _ h=>h⟩
  ·obtain ⟨l,rfl,h1⟩:=zmp h;obtain ⟨us,hK,hl,hus⟩:=zmc h1;refine ⟨_,hK,λ w σ μ v' hv=>?_⟩;cases hv with | tup cs _ hcl hr=>?_
   refine .tup cs us (by rw [hl]; exact hcl) λ i x y hx hy=>?_
   obtain ⟨z,hz⟩:=yo (l:=l) (i:=i) (by rw [←hl]; exact (pr.1 hy).1)
   exact hus i z y hz hy w σ μ x (hr i x z hx hz)
 ·exact zci h
end
end Go.Vai
end

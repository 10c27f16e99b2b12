/-
  Each operation of the interpreter is the machine's: whole numbers, texts, comparisons. To: Each operation of the interpreter is the machine's: stores, maps.
-/
import Derived.Test.YtmolcgfhgdhgoaaGreatDoorVaiPart1
import Derived.LaidEqlPtr
import Derived.Laws.BytesString
import Derived.Laws.CopyRow
import Derived.Laws.Tables
import Derived.DataBytes
set_option linter.all false
noncomputable section
namespace Go.Vai
section
variable {R:Type} {P:Program} {w:World} {σ:St} {μ:Mu}
theorem RV.int_inv{v:Value}{k:IntKind}{n:Int}(h:RV w σ μ v (.d (.int k n))):v=.int k n:=by
 cases h with | d _ _ h=>cases h; rfl
theorem RV.bool_inv{v:Value}{b:Bool}(h:RV w σ μ v (.d (.bool b))):v=.bool b:=by
 cases h with | d _ _ h=>cases h; rfl
theorem RV.str_inv{v:Value}{s:List UInt8}(h:RV w σ μ v (.d (.str s))):v=.string (y8 s):=by
 cases h with | d _ _ h=>cases h; rfl
theorem RV.iface_inv{v:Value}{t:Nat}{x:D}(h:RV w σ μ v (.d (.iface t x))):∃ u,v=.iface t u∧RD w (zp σ μ) u x:=by
 cases h with | d _ _ h=>cases h with | iface _ u _ h=>exact ⟨u,rfl,h⟩
theorem RV.nilI_inv{v:Value}(h:RV w σ μ v (.d .nilIface)):v=.nilIface:=by
 cases h with | d _ _ h=>cases h; rfl
theorem RV.nilp_inv{v:Value}(h:RV w σ μ v (.d .nilptr)):v=.pointer none:=by
 cases h with | d _ _ h=>cases h; rfl
theorem RV.int'(k:IntKind)(n:Int):RV w σ μ (.int k n) (.d (.int k n)):=.d _ _ (.int k n)
theorem RV.bool'(b:Bool):RV w σ μ (.bool b) (.d (.bool b)):=.d _ _ (.bool b)
theorem RV.str'(s:List UInt8):RV w σ μ (.string (y8 s)) (.d (.str s)):=.d _ _ (.str s)
theorem zao(s:List UInt8):(y8 s).toList=s:=by
 simp [y8]
theorem zce(s:List UInt8):(y8 s).size=s.length:=by simp [y8,ByteArray.size]
theorem zqo(s t:List UInt8):y8 s++y8 t=y8 (s++t):=by
 apply ByteArray.ext;simp [y8]
theorem zx1{op:BinOp}{k:IntKind}{a b:Int}{t:Nat}{K:V→Option R}{r:R}(h:zob op k a b K=some r) :
  ∃ v,K v=some r∧∃ v',(binOp op t (.int k a) (.int k b)).run P w=.ok v' w∧RV w σ μ v' v:=by
 cases op <;> simp only [zob] at h
 case add=>exact ⟨_,h,_,by simp [binOp,Op.intArith],.int' _ _⟩
 case sub=>exact ⟨_,h,_,by simp [binOp,Op.intArith],.int' _ _⟩
 case mul=>exact ⟨_,h,_,by simp [binOp,Op.intArith],.int' _ _⟩
 case quo=>
  obtain ⟨hb,h⟩:=zd h;have hb : ¬ b=0:=by simpa using hb
  exact ⟨_,h,_,by simp [binOp,Op.intDiv,hb],.int' _ _⟩
 case rem=>
  obtain ⟨hb,h⟩:=zd h;have hb : ¬ b=0:=by simpa using hb
  exact ⟨_,h,_,by simp [binOp,Op.intDiv,hb],.int' _ _⟩
 case and=>exact ⟨_,h,_,by simp only [binOp,ne_eq,not_true,if_false,Op.intBits]; rfl,.int' _ _⟩
 case or=>exact ⟨_,h,_,by simp only [binOp,ne_eq,not_true,if_false,Op.intBits]; rfl,.int' _ _⟩
 case xor=>exact ⟨_,h,_,by simp only [binOp,ne_eq,not_true,if_false,Op.intBits]; rfl,.int' _ _⟩
 case andNot=>exact ⟨_,h,_,by simp only [binOp,ne_eq,not_true,if_false,Op.intBits]; rfl,.int' _ _⟩
 case eql=>exact ⟨_,h,.bool (a == b),by simp [binOp,Op.intCmp],by rw [show (a == b)=decide (a=b) from rfl]; exact .bool' _⟩
 case neq=>exact ⟨_,h,.bool (a != b),by simp [binOp,Op.intCmp],by rw [show (a != b) = !decide (a=b) from rfl]; exact .bool' _⟩
 case lss=>exact ⟨_,h,_,by simp [binOp,Op.intCmp],.bool' _⟩
 case leq=>exact ⟨_,h,_,by simp [binOp,Op.intCmp],.bool' _⟩
 case gtr=>exact ⟨_,h,_,by simp [binOp,Op.intCmp],.bool' _⟩
 case geq=>exact ⟨_,h,_,by simp [binOp,Op.intCmp],.bool' _⟩
 all_goals cases h
theorem zw5{op:BinOp}{a b:List UInt8}{t:Nat}{K:V→Option R}{r:R}(h:znn op a b K=some r) :
  ∃ v,K v=some r∧∃ v',(binOp op t (.string (y8 a)) (.string (y8 b))).run P w=.ok v' w∧RV w σ μ v' v:=by
 have he:((y8 a).toList == (y8 b).toList)=decide (a=b):=by
  rw [zao,zao];by_cases e:a=b
  ·subst e; simp
  ·simp [e]
 have hl:Op.bytesLess (y8 a).toList (y8 b).toList=Op.bytesLess a b:=by rw [zao,zao]
 cases op <;> simp only [znn] at h
 case add=>
  obtain ⟨hb,h⟩:=zd h;have hb:a.length+b.length≤4611686018427387904:=by simpa using hb
  refine ⟨_,h,.string (y8 a++y8 b),?_,by rw [zqo]; exact .str' _⟩
  have : ¬ ((((y8 a).size+(y8 b).size:Nat):Int) > IntKind.i64.max):=by
   rw [zce,zce];have:IntKind.i64.max=9223372036854775807:=by decide
   rw [this]; omega
  simp only [binOp,Op.stringOp,this,if_false];rfl
 case eql=>exact ⟨_,h,_,by simp only [binOp,Op.stringOp,he]; rfl,.bool' _⟩
 case neq=>exact ⟨_,h,_,by simp only [binOp,Op.stringOp,he]; rfl,.bool' _⟩
 case lss=>exact ⟨_,h,_,by simp only [binOp,Op.stringOp,hl]; rfl,.bool' _⟩
 case leq=>exact ⟨_,h,_,by simp only [binOp,Op.stringOp,he,hl]; rfl,.bool' _⟩
 case gtr=>exact ⟨_,h,_,by simp only [binOp,Op.stringOp,he,hl]; rfl,.bool' _⟩
 case geq=>exact ⟨_,h,_,by simp only [binOp,Op.stringOp,hl]; rfl,.bool' _⟩
 all_goals cases h
theorem zkt{op:BinOp}{k k':IntKind}{a b:Int}{t:Nat}{K:V→Option R}{r:R}(h:zd7 op k a b K=some r) :
  ∃ v,K v=some r∧∃ v',(binOp op t (.int k a) (.int k' b)).run P w=.ok v' w∧RV w σ μ v' v:=by
 cases op <;> simp only [zd7] at h
 case shl=>
  obtain ⟨hb,h⟩:=zd h;have hb : ¬ b<0:=by simpa using hb
  exact ⟨_,h,_,by simp only [binOp,Op.shift,hb,if_false]; rfl,.int' _ _⟩
 case shr=>
  obtain ⟨hb,h⟩:=zd h;have hb : ¬ b<0:=by simpa using hb
  exact ⟨_,h,_,by simp only [binOp,Op.shift,hb,if_false]; rfl,.int' _ _⟩
 all_goals cases h
theorem zeg{t:Nat}(h:isIface P t=true):∃ ms,P.underlying t=some (.interface ms):=by
 unfold isIface at h; split at h
 ·exact ⟨_,‹_›⟩
 ·cases h
theorem zlp{t:Nat}(h:isPtr P t=true):∃ e,P.underlying t=some (.pointer e):=by
 unfold isPtr at h; split at h
 ·exact ⟨_,‹_›⟩
 ·cases h
theorem zri{t:Nat}(h:isBool P t=true):P.underlying t=some .bool:=by
 unfold isBool at h; split at h
 ·assumption
 ·cases h
theorem run_underlying{t:Nat}{d:TypeDesc}(h:P.underlying t=some d):(underlying t).run P w=.ok d w:=by
 unfold underlying;simp [h]
theorem wx{op:BinOp}{t:Nat}{ox oy:Operand}{a b:Value}(h:match a,b with | .nilIface,.nilIface=>(match ox,oy with | .const _,_=>true | _,.const _=>true | _,_=>false)=true | .agg _,.agg _=>False | _,_=>True) :
  (eqGuard op t ox oy a b).run P w=.ok () w:=by
 unfold eqGuard
 cases op <;> first
  | rfl
  | (cases a <;> cases b <;> first
    | rfl
    | exact h.elim
    | (cases ox <;> cases oy <;> first | rfl | (simp at h)))
theorem zm8{x:Sem Unit}{y:Sem Value}{v:Value}(hx:x.run P w=.ok () w)(hy:y.run P w=.ok v w):(do x; y:Sem Value).run P w=.ok v w:=by
 simp [hx,hy]
theorem zpz(d:Nat){t:Nat}{a b:Bool}(ht:P.underlying t=some .bool):(Op.equalIn (d+1) t (.bool a) (.bool b)).run P w=.ok (a == b) w:=by
 simp [Op.equalIn,run_underlying ht]
theorem zti{t:Nat}{a b:Bool}(ht:P.underlying t=some .bool):(Op.equal t (.bool a) (.bool b)).run P w=.ok (a == b) w:=zpz 9999 ht
theorem zh9(d:Nat){t:Nat}{u:Nat}{v:Value}{ms:Array (String×TypeId)}(ht:P.underlying t=some (.interface ms)):(Op.equalIn (d+1) t (.iface u v) .nilIface).run P w=.ok false w:=by
 simp [Op.equalIn,run_underlying ht]
theorem ze4{t:Nat}{u:Nat}{v:Value}{ms:Array (String×TypeId)}(ht:P.underlying t=some (.interface ms)):(Op.equal t (.iface u v) .nilIface).run P w=.ok false w:=zh9 9999 ht
theorem zkd(d:Nat){t:Nat}{ms:Array (String×TypeId)}(ht:P.underlying t=some (.interface ms)):(Op.equalIn (d+1) t .nilIface .nilIface).run P w=.ok true w:=by
 simp [Op.equalIn,run_underlying ht]
theorem zni{t:Nat}{ms:Array (String×TypeId)}(ht:P.underlying t=some (.interface ms)):(Op.equal t .nilIface .nilIface).run P w=.ok true w:=zkd 9999 ht
theorem zkc(d:Nat){t:Nat}{e:Nat}{a:Addr}(ht:P.underlying t=some (.pointer e)):(Op.equalIn (d+1) t (.pointer (some a)) (.pointer none)).run P w=.ok false w:=by
 simp [Op.equalIn,run_underlying ht]
theorem znh{t:Nat}{e:Nat}{a:Addr}(ht:P.underlying t=some (.pointer e)):(Op.equal t (.pointer (some a)) (.pointer none)).run P w=.ok false w:=zkc 9999 ht
theorem zh8(d:Nat){t:Nat}{e:Nat}(ht:P.underlying t=some (.pointer e)):(Op.equalIn (d+1) t (.pointer none) (.pointer none)).run P w=.ok true w:=by
 simp [Op.equalIn,run_underlying ht]
theorem zkb{t:Nat}{e:Nat}(ht:P.underlying t=some (.pointer e)):(Op.equal t (.pointer none) (.pointer none)).run P w=.ok true w:=zh8 9999 ht
theorem zrh{t:Nat}(h:zs7 P t=true):∃ e j,P.underlying t=some (.pointer e)∧P.info? e=some j:=by
 unfold zs7 at h; split at h
 ·rename_i e he;obtain ⟨j,hj⟩:=Option.isSome_iff_exists.1 h;exact ⟨e,j,he,hj⟩
 ·cases h
theorem zjd(d:Nat){t e:Nat}{j:TypeInfo}{a:Addr}(ht:P.underlying t=some (.pointer e))(hj:P.info? e=some j):(Op.equalIn (d+1) t (.pointer (some a)) (.pointer (some a))).run P w=.ok true w:=by
 simp [Op.equalIn,run_underlying ht,sizeOf,typeInfo,hj,run_sameAddr_same]
theorem zly{t e:Nat}{j:TypeInfo}{a:Addr}(ht:P.underlying t=some (.pointer e))(hj:P.info? e=some j):(Op.equal t (.pointer (some a)) (.pointer (some a))).run P w=.ok true w:=zjd 9999 ht hj
theorem zfs{op:BinOp}{t:Nat}{x y:Value}{b:Bool}{K:V→Option R}{r:R}(he:(Op.equal t x y).run P w=.ok b w)
  (hb:binOp .eql t x y=(do pure (.bool (←Op.equal t x y)))) (hb':binOp .neq t x y=(do pure (.bool (!(←Op.equal t x y)))))
  (h:eqV op b K=some r):∃ v,K v=some r∧∃ v',(binOp op t x y).run P w=.ok v' w∧RV w σ μ v' v:=by
 cases op <;> simp only [eqV] at h
 case eql=>exact ⟨_,h,.bool b,by rw [hb]; simp [he],.bool' _⟩
 case neq=>exact ⟨_,h,.bool (!b),by rw [hb']; simp [he],.bool' _⟩
 all_goals cases h
theorem zfa{t : Nat}(h : zfb P t = true) : ∃ f g k l, P.underlying t = some (.struct #[f, g]) ∧ P.underlying f.type = some (.int k) ∧ P.underlying g.type = some (.int l) ∧ f.offset = 0 ∧ g.offset = 1 ∧ f.name ≠ "_" ∧ g.name ≠ "_" ∧ P.stoodInHeld t = false := by
 unfold zfb at h;split at h
 ·rename_i fs hu;split at h
  ·rename_i f g hfs;split at h
   ·rename_i k l h1 h2;simp only [pq,Bool.not_eq_true'] at h;obtain ⟨⟨⟨⟨h3,h4⟩,h5⟩,h6⟩,h7⟩:=h;refine ⟨f,g,k,l,?_,h1,h2,po h3,po h4,by simpa using h5,by simpa using h6,h7⟩
    rw [hu];obtain ⟨fs⟩:=fs;simp only at hfs;rw [hfs]
   ·cases h
  ·cases h
 ·cases h
theorem zry{x y:List D}{r:Bool}(h:eq2 x y=some r):∃ k l a b c d,x=[.int k a,.int l b]∧y=[.int k c,.int l d]∧r=(decide (a=c)&&decide (b=d)):=by
 unfold eq2 at h;split at h
 ·rename_i k a l b k' c l' d;cases hk:(decide (k=k')&&decide (l=l')) <;> rw [hk] at h
  ·cases h
  ·rw [pq] at hk;obtain rfl:=ph hk.1;obtain rfl:=ph hk.2;cases h;exact ⟨_,_,_,_,_,_,rfl,rfl,rfl⟩
 ·cases h
theorem RD.two_inv{own:Own}{v:Value}{k l:IntKind}{a b:Int}(h:RD w own v (.agg [.int k a,.int l b])):v=.agg #[.int k a,.int l b]:=by
 cases h with | agg cs _ hl ho h=>?_
 obtain ⟨cs⟩:=cs
 match cs,hl with
 | [x,y],_=>
  have h0:=h 0 x _ rfl rfl;have h1:=h 1 y _ rfl rfl;cases h0; cases h1;rfl
theorem zop{t:Nat}(ht:zfb P t=true)(d:Nat){k l:IntKind}{a b c e:Int}:(Op.equalIn (d+2) t (.agg #[.int k a,.int l b]) (.agg #[.int k c,.int l e])).run P w=.ok (decide (a=c)&&decide (b=e)) w:=by
 obtain ⟨f,g,k',l',hu,hf,hg,h0,h1,n0,n1,hs⟩:=zfa ht;have hfs:P.fieldsOf t = #[f,g]:=by unfold Program.fieldsOf; rw [hu]
 rw [run_equalIn_struct w (d+1) t _ _ (by rw [hfs,hu]) hs,hfs]
 have pf:P.plainKey f.type=true:=by simp [Program.plainKey,hf]
 have pg:P.plainKey g.type=true:=by simp [Program.plainKey,hg]
 have e1:∀ x y:Value,(part f.type #[x,y] f.offset).run P w=.ok x w:=λ x y=>run_part_plain w pf (by rw [h0]; rfl)
 have e2:∀ x y:Value,(part g.type #[x,y] g.offset).run P w=.ok y w:=λ x y=>run_part_plain w pg (by rw [h1]; rfl)
 have q1:(a == c)=decide (a=c):=by by_cases h:a=c <;> simp [h]
 have q2:(b == e)=decide (b=e):=by by_cases h:b=e <;> simp [h]
 have e3:=run_equalIn_int (P:=P) w d f.type k k' a c hf;have e4:=run_equalIn_int (P:=P) w d g.type l l' b e hg;rw [q1] at e3;rw [q2] at e4;cases hac:decide (a=c) <;> cases hbe:decide (b=e) <;> rw [hac] at e3 <;> rw [hbe] at e4 <;> simp [Op.eqFields,n0,n1,e1,e2,e3,e4]
theorem z0c{op:BinOp}{x y:V}{x' y':Value}{t:Nat}{ox oy:Operand}{K:V→Option R}{r:R}(hx:RV w σ μ x' x)(hy:RV w σ μ y' y)
  (h:zwi P (match ox,oy with | .const _,_=>true | _,.const _=>true | _,_=>false) op t x y K=some r) :
  ∃ v,K v=some r∧∃ v',(do eqGuard op t ox oy x' y'; binOp op t x' y':Sem Value).run P w=.ok v' w∧RV w σ μ v' v:=by
 have fin:∀ {v:V},(∃ v',(binOp op t x' y').run P w=.ok v' w∧RV w σ μ v' v)→(eqGuard op t ox oy x' y').run P w=.ok () w →
   ∃ v',(do eqGuard op t ox oy x' y'; binOp op t x' y':Sem Value).run P w=.ok v' w∧RV w σ μ v' v:=
  λ ⟨v',h1,h2⟩ hg=>⟨v',zm8 hg h1,h2⟩
 unfold zwi at h;split at h
 ·rename_i k a k' b;obtain rfl:=hx.int_inv; obtain rfl:=hy.int_inv;have hg:(eqGuard op t ox oy (.int k a) (.int k' b)).run P w=.ok () w:=wx trivial;split at h
  ·obtain ⟨v,hK,hv⟩:=zkt (P:=P) (w:=w) (σ:=σ) (μ:=μ) (t:=t) (k':=k') h; exact ⟨v,hK,fin hv hg⟩
  ·obtain ⟨v,hK,hv⟩:=zkt (P:=P) (w:=w) (σ:=σ) (μ:=μ) (t:=t) (k':=k') h; exact ⟨v,hK,fin hv hg⟩
  ·by_cases e:k=k'
   ·subst e;simp at h;obtain ⟨v,hK,hv⟩:=zx1 (P:=P) (w:=w) (σ:=σ) (μ:=μ) (t:=t) h; exact ⟨v,hK,fin hv hg⟩
   ·simp [e] at h
 ·obtain rfl:=hx.str_inv; obtain rfl:=hy.str_inv;obtain ⟨v,hK,hv⟩:=zw5 (P:=P) (w:=w) (σ:=σ) (μ:=μ) (t:=t) h;exact ⟨v,hK,fin hv (wx trivial)⟩
 ·obtain rfl:=hx.bool_inv; obtain rfl:=hy.bool_inv;obtain ⟨ht,h⟩:=zd h;have ht:=zri ht;obtain ⟨v,hK,hv⟩:=zfs (w:=w) (σ:=σ) (μ:=μ) (t:=t) (P:=P) (zti ht) rfl rfl h;exact ⟨v,hK,fin hv (wx trivial)⟩
 ·obtain ⟨u,rfl,_⟩:=hx.iface_inv;obtain ⟨ht,h⟩:=zd h;obtain ⟨ms,ht⟩:=zeg ht;obtain rfl:=hy.nilI_inv;obtain ⟨v,hK,hv⟩:=zfs (w:=w) (σ:=σ) (μ:=μ) (t:=t) (P:=P) (ze4 ht) rfl rfl h;exact ⟨v,hK,fin hv (wx trivial)⟩
 ·obtain ⟨ht,h⟩:=zd h;obtain ⟨ms,ht⟩:=zeg ht;cases hx with | iface _ _ _ hx=>?_
  obtain rfl:=hy.nilI_inv;obtain ⟨v,hK,hv⟩:=zfs (w:=w) (σ:=σ) (μ:=μ) (t:=t) (P:=P) (ze4 ht) rfl rfl h;exact ⟨v,hK,fin hv (wx trivial)⟩
 ·obtain ⟨ht,h⟩:=zd h;rw [pq] at ht;obtain ⟨ht,hcst⟩:=ht;obtain ⟨ms,ht⟩:=zeg ht;obtain rfl:=hx.nilI_inv;obtain rfl:=hy.nilI_inv;obtain ⟨v,hK,hv⟩:=zfs (w:=w) (σ:=σ) (μ:=μ) (t:=t) (P:=P) (zni ht) rfl rfl h;exact ⟨v,hK,fin hv (wx hcst)⟩
 ·obtain ⟨ht,h⟩:=zd h;obtain ⟨e,ht⟩:=zlp ht;cases hx with | ptr _ _ b hc hb=>?_
  obtain rfl:=hy.nilp_inv;obtain ⟨v,hK,hv⟩:=zfs (w:=w) (σ:=σ) (μ:=μ) (t:=t) (P:=P) (znh ht) rfl rfl h;exact ⟨v,hK,fin hv (wx trivial)⟩
 ·obtain ⟨ht,h⟩:=zd h;obtain ⟨e,ht⟩:=zlp ht;obtain rfl:=hx.nilp_inv;obtain rfl:=hy.nilp_inv;obtain ⟨v,hK,hv⟩:=zfs (w:=w) (σ:=σ) (μ:=μ) (t:=t) (P:=P) (zkb ht) rfl rfl h;exact ⟨v,hK,fin hv (wx trivial)⟩
 ·obtain ⟨ht,hh⟩:=zd h;clear h;simp only [pq] at ht;obtain ⟨⟨ht,hi⟩,ha⟩:=ht;obtain ⟨e,j,ht,hj⟩:=zrh ht;cases hx with | ptr _ _ b hc hb=>?_
  cases hy with | ptr _ _ b' hc' hb'=>?_
  obtain rfl:=po hi;obtain rfl:=po ha;obtain rfl:b=b':=by rw [hb] at hb'; exact Option.some.inj hb'
  obtain ⟨v,hK,hv⟩:=zfs (w:=w) (σ:=σ) (μ:=μ) (t:=t) (P:=P) (zly ht hj) rfl rfl hh;exact ⟨v,hK,fin hv (wx trivial)⟩
 ·obtain ⟨ht,hh⟩:=zd h;clear h;rw [pq,Bool.not_eq_true'] at ht;obtain ⟨ht,hgd⟩:=ht;split at hh
  ·rename_i r0 he2;obtain ⟨k1,l1,a1,b1,a2,b2,rfl,rfl,rfl⟩:=zry he2;cases hx with | d _ _ hx=>?_
   cases hy with | d _ _ hy=>?_
   obtain rfl:=RD.two_inv hx;obtain rfl:=RD.two_inv hy;obtain ⟨v,hK,hv⟩:=zfs (w:=w) (σ:=σ) (μ:=μ) (t:=t) (P:=P) (zop ht 9998) rfl rfl hh;exact ⟨v,hK,fin hv (run_eqGuard_agg w op t _ _ _ _ hgd)⟩
  ·cases hh
 ·cases h
theorem z0u{op:UnOp}{x:V}{x':Value}{K:V→Option R}{r:R}(hx:RV w σ μ x' x)(h:unV op x K=some r) :
  ∃ v,K v=some r∧∃ v',(Op.unary op x').run P w=.ok v' w∧RV w σ μ v' v:=by
 unfold unV at h;split at h
 ·obtain rfl:=hx.bool_inv; exact ⟨_,h,_,rfl,.bool' _⟩
 ·obtain rfl:=hx.int_inv; exact ⟨_,h,_,rfl,.int' _ _⟩
 ·cases h
end
section
variable {R:Type} {P:Program} {w:World} {σ:St} {μ:Mu}
theorem qk{t:Nat}(h:qg P t=true):∃ d,P.underlying t=some d:=by
 unfold qg at h; split at h
 ·exact ⟨_,‹_›⟩
 ·cases h
theorem zdh{t:Nat}{d:TypeDesc}(h:P.underlying t=some d):∃ i,P.info? t=some i:=by
 unfold Program.underlying at h;cases hi:P.info? t with
 | none=>rw [hi] at h; cases h
 | some i=>exact ⟨i,rfl⟩
theorem run_sizeOf{t:Nat}{d:TypeDesc}(h:P.underlying t=some d):(sizeOf t).run P w=.ok (P.cellsOf t) w:=by
 obtain ⟨i,hi⟩:=zdh h;simp [sizeOf,typeInfo,hi,Program.cellsOf]
theorem zf7{t:Nat}{d:TypeDesc}(h:P.underlying t=some d):(isAgg t).run P w=.ok (xv P t) w:=by
 unfold isAgg;simp only [Sem.run_bind,run_underlying h,Result.andThen_ok];unfold xv;rw [h];cases d <;> rfl
theorem addr_add(b o j:Nat):(⟨b,o,none⟩:Addr).add j=⟨b,o+j,none⟩:=by unfold Addr.add; split <;> simp_all
theorem cell_of_heap{b i:Nat}{cs:Array Value}{el:TypeId}{fr:Nat×Nat}(h:w.heap[b]?=some (.cells cs el fr)):w.cell? ⟨b,i,none⟩=cs[i]?:=by
 simp [World.cell?,h]
theorem zm7{b o:Nat}{x:Value}(h:w.cell? ⟨b,o,none⟩=some x):(load ⟨b,o,none⟩).run P w=.ok x w:=by
 rw [run_load,h]
theorem vw{t b o:Nat}{d:TypeDesc}(h:P.underlying t=some d)(ha:xv P t=true){cs:List Value}(hn:cs.length=P.cellsOf t)
  (hc:∀ (j:Nat) v,cs[j]?=some v→w.cell? ⟨b,o+j,none⟩=some v):(loadVar t ⟨b,o,none⟩).run P w=.ok (.agg cs.toArray) w:=by
 unfold loadVar;simp only [Sem.run_bind,zf7 h,Result.andThen_ok,ha,if_true,run_sizeOf h,←hn];rw [run_loadCells_list w ⟨b,o,none⟩ cs (λ j v hv=>by rw [addr_add]; exact hc j v hv)]
 simp
theorem vv{t b o:Nat}{d:TypeDesc}(h:P.underlying t=some d)(ha:xv P t=false){x:Value}(hc:w.cell? ⟨b,o,none⟩=some x) :
  (loadVar t ⟨b,o,none⟩).run P w=.ok x w:=by
 unfold loadVar;simp only [Sem.run_bind,zf7 h,Result.andThen_ok,ha,Bool.false_eq_true,if_false];exact zm7 hc
theorem w4{t b o:Nat}{v:Value}(h:(loadVar t ⟨b,o,none⟩).run P w=.ok v w):(Instr.loadAt t (.pointer (some ⟨b,o,none⟩))).run P w=.ok v w:=by
 unfold Instr.loadAt Instr.sureAddr;simp [h]
theorem zwc{t:Nat}{x:D}{K:V→Option R}{r:R}(h:zby P t x K=some r)(ha:xv P t=true):∃ l,x=.agg l∧l.length=P.cellsOf t∧K (.d x)=some r:=by
 unfold zby at h;unfold xv at ha;cases hu:P.underlying t with
 | none=>rw [hu] at ha; cases ha
 | some d=>
  rw [hu] at h ha;cases d <;> simp only at h ha <;> first | (cases ha; done) | exact zcy h
theorem zwb{t:Nat}{x:D}{K:V→Option R}{r:R}(h:zby P t x K=some r)(ha:xv P t=false):∀ l,x ≠ .agg l:=by
 unfold zby at h;unfold xv at ha;intro l hx;subst hx;cases hu:P.underlying t with
 | none=>rw [hu] at h; cases h
 | some d=>
  rw [hu] at h ha;cases d <;> simp only [asInt,asBool,zj2,zr8] at h ha <;> first | (cases ha; done) | (cases h; done)
theorem yo{α:Type}{l:List α}{i:Nat}(h:i<l.length):∃ x,l[i]?=some x:=⟨_,p9 h⟩
theorem RVs.drop{vs:List Value}{l:List V}(h:RVs w σ μ vs l)(k:Nat):RVs w σ μ (vs.drop k) (l.drop k):=
 ⟨by simp [h.1],λ i x y hx hy=>h.2 (k+i) x y (by simpa using hx) (by simpa using hy)⟩
theorem RVs.take{vs:List Value}{l:List V}(h:RVs w σ μ vs l)(k:Nat):RVs w σ μ (vs.take k) (l.take k):=
 ⟨by simp [h.1],λ i x y hx hy=>by
  by_cases hi:i<k
  ·exact h.2 i x y (by simpa [hi,List.getElem?_take] using hx) (by simpa [hi,List.getElem?_take] using hy)
  ·simp [hi,List.getElem?_take] at hx⟩
theorem RVs.append{vs vs':List Value}{l l':List V}(h:RVs w σ μ vs l)(h':RVs w σ μ vs' l'):RVs w σ μ (vs++vs') (l++l'):=
 ⟨by simp [h.1,h'.1],λ i x y hx hy=>by
  rw [List.getElem?_append] at hx hy;rw [←h.1] at hy;split at hx
  ·rename_i hlt; simp only [hlt,if_true] at hy; exact h.2 i x y hx hy
  ·rename_i hlt; simp only [hlt,if_false] at hy; exact h'.2 _ x y hx hy⟩
theorem RVs.one{v:V}{vs:List Value}(h:RVs w σ μ vs v.cells)(hv:v.aggish=false):∃ c,vs=[c]∧RV w σ μ c v:=by
 have hc:v.cells=[v]:=by
  cases v with
  | d x=>cases x <;> first | rfl | (simp [V.aggish] at hv)
  | agg l=>simp [V.aggish] at hv
  | _=>rfl
 rw [hc] at h;obtain ⟨hl,hr⟩:=h
 match vs,hl with
 | [c],_=>exact ⟨c,rfl,hr 0 c v rfl rfl⟩
theorem RVs.aggOf{v:V}{cs:Array Value}(h:RVs w σ μ cs.toList v.cells)(ho:∀ x∈cs.toList,x.oneCell'=true)(hv:v.aggish=true):RV w σ μ (.agg cs) v:=by
 cases v with
 | d x=>
  cases x with
  | agg l=>
   refine .d _ _ (.agg cs l (by simpa [RVs,V.cells] using h.1) ho λ i x y hx hy=>?_)
   have:=h.2 i x (.d y) (by simpa using hx) (by simp [V.cells,hy])
   cases this with | d _ _ h=>exact h
  | _=>simp [V.aggish] at hv
 | agg l=>exact .agg cs l (by simpa [V.cells] using h.1) ho λ i x y hx hy=>h.2 i x y (by simpa using hx) hy
 | _=>simp [V.aggish] at hv
theorem zwa{t:Nat}{v:V}{K:V→Option R}{r:R}(h:zb2 P t v K=some r)(ha:xv P t=true):v.aggish=true∧K v=some r:=by
 cases v with
 | d x=>obtain ⟨l,rfl,_,hK⟩:=zwc h ha; exact ⟨rfl,hK⟩
 | agg l=>exact ⟨rfl,(zd h).2⟩
 | _=>have hc:=(zd h).1; rw [ha] at hc; cases hc
theorem zv9{t:Nat}{v:V}{K:V→Option R}{r:R}(h:zb2 P t v K=some r)(ha:xv P t=false):v.aggish=false∧v.tupV=false:=by
 cases v with
 | d x=>
  have:=zwb h ha;cases x <;> first | exact ⟨rfl,rfl⟩ | exact absurd rfl (this _)
 | agg l=>have hc:=(zd h).1; rw [ha] at hc; cases hc
 | tup l=>have hc:=(zd h).1; rw [ha] at hc; cases hc
 | _=>exact ⟨rfl,rfl⟩
theorem zra{cx:Cx}{t:Nat}{p:V}{p':Value}{K:V→List Nat→Option R}{r:R}(hi:Inv cx w σ μ)(hp:RV w σ μ p' p)(h:zcv cx σ t p K=some r) :
  ∃ v fp,K v fp=some r∧∃ v',(Instr.loadAt t p').run cx.P w=.ok v' w∧RV w σ μ v' v:=by
 unfold zcv at h;have hty:=(zd h).1;replace h:=(zd h).2;obtain ⟨d,hd⟩:=qk hty;cases p with
 | ptr id off=>
  -- a variable's address
  cases hp with | ptr _ _ b hc hb=>?_
  simp only at h;split at h
  ·rename_i n v ho;obtain ⟨b',cs,el,hb',hh,hn,htup,h1,hr,_⟩:=hi.ob id _ ho;obtain rfl:b=b':=by rw [hb] at hb'; exact Option.some.inj hb'
   have hcell:∀ i,w.cell? ⟨b,i,none⟩=cs[i]?:=λ i=>cell_of_heap hh;cases hw:Nat.beq off 0&&Nat.beq (szN n) (cx.P.cellsOf t)
   ·rw [hw,p6] at h;cases ha:xv cx.P t
    ·rw [ha,p6] at h;obtain ⟨c,hcg,h⟩:=zgb h;have hlt:off<v.cells.length:=(pr.1 hcg).1;obtain ⟨y,hx⟩:=yo (l:=cs.toList) (by rw [hr.1]; exact hlt)
     obtain ⟨u,hK,hu⟩:=zmb h (hr.2 off _ c hx hcg);exact ⟨u,_,hK,_,w4 (vv hd ha (by rw [hcell]; simpa using hx)),hu⟩
    ·rw [ha,p5] at h;obtain ⟨hle,hK⟩:=zd h;have hle:off+cx.P.cellsOf t≤szN n:=p4 hle;have hlen:((cs.toList.drop off).take (cx.P.cellsOf t)).length=cx.P.cellsOf t:=by simp [hn]; omega
     refine ⟨_,_,hK,_,w4 (vw hd ha hlen λ j x hx=>?_),?_⟩
     ·rw [hcell];have:j<cx.P.cellsOf t:=by
       have:=(pr.1 hx).1; rw [hlen] at this; exact this
      simpa [List.getElem?_take,this] using hx
     ·refine zdr (λ x hx=>h1 x (List.mem_of_mem_drop (List.mem_of_mem_take (by simpa using hx)))) ?_
      simpa using (hr.drop off).take (cx.P.cellsOf t)
   ·rw [hw,p5] at h;rw [pq] at hw;obtain rfl:off=0:=po hw.1;have hn':szN n=cx.P.cellsOf t:=po hw.2;cases ha:xv cx.P t
    ·obtain ⟨g1,g2⟩:=zv9 h ha;obtain ⟨c,hcs,hcv⟩:=hr.one g1;obtain ⟨u,hK,hu⟩:=zmb h hcv;refine ⟨u,_,hK,c,w4 (vv hd ha ?_),hu⟩;rw [hcell];have:cs.toList[0]?=some c:=by rw [hcs]; rfl
     simpa using this
    ·obtain ⟨g1,hK⟩:=zwa h ha;refine ⟨v,_,hK,.agg cs,w4 ?_,hr.aggOf h1 g1⟩;have:=vw (w:=w) (b:=b) (o:=0) hd ha (cs:=cs.toList) (by simpa [hn] using hn') (λ j x hx=>by rw [hcell]; simpa using hx)
     simpa using this
  ·cases h
 | eptr x off=>
  -- an element's address
  simp only at h;cases hp with | eptr _ b o _ xs hc hr=>?_
  have hcell:∀ (j:Nat) c,x.cells[j]?=some c→w.cell? ⟨b,o+j,none⟩=some (xs j):=λ j c hj=>(hc j (pr.1 hj).1).1;cases ha:xv cx.P t
  ·rw [ha,p6] at h;obtain ⟨c,hcg,h⟩:=qa h;obtain ⟨u,hK,hu⟩:=zft (P:=cx.P) h (hr off c hcg);exact ⟨u,_,hK,_,w4 (vv hd ha (hcell off c hcg)),hu⟩
  ·rw [ha,p5] at h
   have big:∀ (k:Nat) (ys:List D),ys=(x.cells.drop off).take (cx.P.cellsOf t)→cx.P.cellsOf t≤x.cells.length - off →
     ∃ v',(Instr.loadAt t (.pointer (some ⟨b,o+off,none⟩))).run cx.P w=.ok v' w∧RV w σ μ v' (.d (.agg ys)):=by
    intro k ys hys hle;have hlen:((List.range (cx.P.cellsOf t)).map λ j=>xs (off+j)).length=cx.P.cellsOf t:=by simp
    refine ⟨_,w4 (vw hd ha hlen λ j v hv=>?_),.d _ _ (.agg _ _ ?_ ?_ λ i v y hv hy=>?_)⟩
    ·have hj:j<cx.P.cellsOf t:=by have:=(pr.1 hv).1; simpa using this
     have:xs (off+j)=v:=by simpa [hj] using hv
     rw [←this,Nat.add_assoc];exact (hc (off+j) (by omega)).1
    ·subst hys; simp; omega
    ·intro v hv;simp only [List.mem_map,List.mem_range] at hv;obtain ⟨j,hj,rfl⟩:=hv;exact (hc (off+j) (by omega)).2.2
    ·subst hys;have hj:i<cx.P.cellsOf t:=by have:=(Array.getElem?_eq_some_iff.1 hv).1; simpa using this
     have:xs (off+i)=v:=by simpa [hj] using hv
     rw [←this];exact hr (off+i) y (by simpa [List.getElem?_take,hj] using hy)
   obtain ⟨hle,hK⟩:=zb4 _ _ h;have hle':cx.P.cellsOf t≤x.cells.length - off:=by
    simp only [List.length_take,List.length_drop] at hle;omega
   obtain ⟨v',h1,h2⟩:=big 0 _ rfl hle';exact ⟨_,_,hK,v',h1,h2⟩
 | wptr id sz k i off=>
  -- an address into a slice of one's own
  cases hp with | wptr _ _ _ _ _ a l' hl' hk he=>?_
  simp only at h;split at h
  ·rename_i l ho;rw [ho] at hl'; cases hl';obtain ⟨hkl,h⟩:=zd h;obtain ⟨hik,b,rfl,hb,hf⟩:=he (po hkl);obtain ⟨cs,el,hh,h1,h2,h3,h4,h5⟩:=hi.ob id _ ho b hb;rw [hf] at h2 h4 h5;obtain ⟨x,hx,h⟩:=qa h;have hcell:∀ j,w.cell? ⟨b,j,none⟩=cs[j]?:=λ j=>cell_of_heap hh;have hcells:∀ (j:Nat) c,x.cells[j]?=some c→∃ v,cs[i * sz+j]?=some v∧RD w (zp σ μ) v c:=λ j c hj=>h5 i j x c hx hj;cases ha:xv cx.P t
   ·rw [ha,p6] at h;obtain ⟨c,hcg,h⟩:=qa h;obtain ⟨v,hv,hvc⟩:=hcells off c hcg;obtain ⟨u,hK,hu⟩:=zft (P:=cx.P) h hvc;exact ⟨u,_,hK,_,w4 (vv hd ha (by rw [hcell]; exact hv)),hu⟩
   ·rw [ha,p5] at h
    have big:∀ (ys:List D),ys=(x.cells.drop off).take (cx.P.cellsOf t)→cx.P.cellsOf t≤x.cells.length - off →
      ∃ v',(Instr.loadAt t (.pointer (some ⟨b,i * sz+off,none⟩))).run cx.P w=.ok v' w∧RV w σ μ v' (.d (.agg ys)):=by
     intro ys hys hle;have hget:∀ j,j<cx.P.cellsOf t→∃ c v,x.cells[off+j]?=some c∧cs[i * sz+(off+j)]?=some v∧RD w (zp σ μ) v c:=λ j hj=>by
      obtain ⟨c,hc⟩:=yo (l:=x.cells) (i:=off+j) (by omega)
      obtain ⟨v,hv,hvc⟩:=hcells _ c hc;exact ⟨c,v,hc,hv,hvc⟩
     have hgd:∀ (j:Nat) v,cs[i * sz+(off+j)]?=some v→cs.getD (i * sz+(off+j)) undef=v:=λ j v hv=>by simp [Array.getD_eq_getD_getElem?,hv]
     have hlen:((List.range (cx.P.cellsOf t)).map λ j=>cs.getD (i * sz+(off+j)) undef).length=cx.P.cellsOf t:=by simp
     refine ⟨_,w4 (vw hd ha hlen λ j v hv=>?_),.d _ _ (.agg _ _ ?_ ?_ λ j v y hv hy=>?_)⟩
     ·have hj:j<cx.P.cellsOf t:=by have:=(pr.1 hv).1; simpa using this
      have:cs.getD (i * sz+(off+j)) undef=v:=by simpa [hj] using hv
      obtain ⟨c,u,_,hu,_⟩:=hget j hj;rw [hgd j u hu] at this;rw [←this,Nat.add_assoc,hcell];exact hu
     ·subst hys; simp; omega
     ·intro v hv;simp only [List.mem_map,List.mem_range] at hv;obtain ⟨j,hj,rfl⟩:=hv;obtain ⟨c,u,_,hu,_⟩:=hget j hj;rw [hgd j u hu];exact h3 u (pz (i:=i * sz+(off+j)) (by simpa using hu))
     ·subst hys;have hj:j<cx.P.cellsOf t:=by have:=(Array.getElem?_eq_some_iff.1 hv).1; simpa using this
      have:cs.getD (i * sz+(off+j)) undef=v:=by simpa [hj] using hv
      obtain ⟨c,u,hc,hu,huc⟩:=hget j hj;rw [hgd j u hu] at this;have hy':x.cells[off+j]?=some y:=by simpa [List.getElem?_take,hj] using hy
      rw [hc] at hy'; cases hy';rw [←this];exact huc
    obtain ⟨hle,hK⟩:=zb4 _ _ h;have hle':cx.P.cellsOf t≤x.cells.length - off:=by
     simp only [List.length_take,List.length_drop] at hle;omega
    obtain ⟨v',g1,g2⟩:=big _ rfl hle';exact ⟨_,_,hK,v',g1,g2⟩
  ·cases h
 | gptr g off=>
  -- a package-level variable
  simp only at h;obtain ⟨x,hg,h⟩:=zb h;obtain ⟨xs,hc,hr⟩:=hi.glob g x hg;cases hp with | gptr=>?_
  cases ha:xv cx.P t
  ·rw [ha,p6] at h;obtain ⟨c,hcg,h⟩:=qa h;obtain ⟨u,hK,hu⟩:=zft (P:=cx.P) h (hr off c hcg);exact ⟨u,_,hK,_,w4 (vv hd ha (hc off (pr.1 hcg).1).1),hu⟩
  ·rw [ha,p5] at h;obtain ⟨hle,hK⟩:=zd h;have hle:=p4 hle;have hlen:((List.range (cx.P.cellsOf t)).map λ j=>xs (off+j)).length=cx.P.cellsOf t:=by simp
   refine ⟨_,_,hK,_,w4 (vw hd ha hlen λ j v hv=>?_),.d _ _ (.agg _ _ ?_ ?_ λ i v y hv hy=>?_)⟩
   ·have hj:j<cx.P.cellsOf t:=by have:=(pr.1 hv).1; simpa using this
    have:xs (off+j)=v:=by simpa [hj] using hv
    rw [←this];exact (hc (off+j) (by omega)).1
   ·simp; omega
   ·intro v hv;simp only [List.mem_map,List.mem_range] at hv;obtain ⟨j,hj,rfl⟩:=hv;exact (hc (off+j) (by omega)).2.2
   ·have hj:i<cx.P.cellsOf t:=by have:=(Array.getElem?_eq_some_iff.1 hv).1; simpa using this
    have:xs (off+i)=v:=by simpa [hj] using hv
    rw [←this];exact hr (off+i) y (by simpa [List.getElem?_take,hj] using hy)
 | _=>cases h
end
section
variable {R:Type} {P:Program} {w:World} {σ:St} {μ:Mu}
theorem zjo{t:Nat}(h:P.cellsOf t ≠ 0):(sizeOf t).run P w=.ok (P.cellsOf t) w:=by
 unfold Program.cellsOf at h;cases hi:P.info? t with
 | none=>simp [hi] at h
 | some i=>simp [sizeOf,typeInfo,hi,Program.cellsOf]
theorem zh3{t f:Nat}{p:Nat×Nat}(h:fieldAt P t f=some p):∃ fs fd,P.underlying t=some (.struct fs)∧fs[f]?=some fd∧p=(fd.offset,fd.type):=by
 unfold fieldAt at h;split at h
 ·rename_i fs hu;split at h
  ·rename_i x hx; cases h; exact ⟨fs,x,hu,hx,rfl⟩
  ·cases h
 ·cases h
theorem zng{cx:Cx}{s f:Nat}{p:V}{p':Value}{K:V→Option R}{r:R}(hp:RV w σ μ p' p)(h:zbl cx s p f K=some r) :
  ∃ v,K v=some r∧∃ v',(Instr.fieldAt s p' f).run cx.P w=.ok v' w∧RV w σ μ v' v:=by
 unfold zbl at h;obtain ⟨q,hq,h1⟩:=zb h;obtain ⟨hz,h2⟩:=zd h1;obtain ⟨fs,fd,hu,hfd,rfl⟩:=zh3 hq;have hz:cx.P.cellsOf fd.type ≠ 0:=by
  intro e;simp [e] at hz
 have runA:∀ a:Addr,(Instr.fieldAt s (.pointer (some a)) f).run cx.P w=.ok (.pointer (some (a.add fd.offset))) w:=by
  intro a;unfold Instr.fieldAt;simp only [Sem.run_bind,run_underlying hu,Result.andThen_ok,hfd];simp [Instr.sureAddr,fieldPlace,zjo hz,hz]
 have run:∀ b o,(Instr.fieldAt s (.pointer (some ⟨b,o,none⟩)) f).run cx.P w=.ok (.pointer (some ⟨b,o+fd.offset,none⟩)) w:=by
  intro b o;unfold Instr.fieldAt;simp only [Sem.run_bind,run_underlying hu,Result.andThen_ok,hfd];simp [Instr.sureAddr,fieldPlace,zjo hz,hz,addr_add]
 cases p with
 | ptr id off=>cases hp with | ptr _ _ b hc hb=>exact ⟨_,h2,_,run _ _,.ptr id _ b hc hb⟩
 | eptr x off=>cases hp with | eptr _ b o _ xs hc hr=>exact ⟨_,h2,_,run _ _,by rw [Nat.add_assoc]; exact .eptr x b o _ xs hc hr⟩
 | gptr g off=>cases hp with | gptr=>exact ⟨_,h2,_,run _ _,.gptr g _⟩
 | wptr id sz k i off=>
  cases hp with | wptr _ _ _ _ _ a l hl hk he=>?_
  refine ⟨_,h2,_,runA a,.wptr id sz k i _ _ l hl hk λ e=>?_⟩;obtain ⟨h3,b,rfl,hb,hf⟩:=he e;exact ⟨h3,b,by rw [addr_add,Nat.add_assoc],hb,hf⟩
 | _=>cases h2
theorem zaj{v:V}{n:Nat}{K:Nat→Option R}{r:R}(h:index v n K=some r):∃ k i,v=.d (.int k i)∧0≤i∧i<(n:Int)∧K i.toNat=some r:=by
 unfold index at h;split at h
 ·rename_i k i;obtain ⟨hb,hK⟩:=zd h;simp at hb;exact ⟨k,i,rfl,hb.1,hb.2,hK⟩
 ·cases h
theorem ztx{v:Option V}{y d:Nat}{K:Nat→Option R}{r:R}(h:bound v y d K=some r) :
  (v=none∧K d=some r)∨∃ k i,v=some (.d (.int k i))∧0≤i∧i≤(y:Int)∧K i.toNat=some r:=by
 unfold bound at h;split at h
 ·exact .inl ⟨rfl,h⟩
 ·rename_i k i;obtain ⟨hb,hK⟩:=zd h;simp at hb;exact .inr ⟨k,i,rfl,hb.1,hb.2,hK⟩
 ·cases h
theorem RD.slot{v:Value}{sz:Nat}{l:List D}{own:Own}(h:RD w own v (.sl sz l)){j:Nat}{y:D}(hy:l[j]?=some y) :
  ∃ b o n cap,∃ xs:Nat→Value,v=.slice (some ⟨b,o,none⟩) n cap∧n=l.length∧y.cells.length=sz ∧
   (∀ k,k<sz→w.cell? ⟨b,o+j * sz+k,none⟩=some (xs k)∧¬ own b (o+j * sz+k)∧(xs k).oneCell'=true)∧∀ (k:Nat) c,y.cells[k]?=some c→RD w own (xs k) c:=by
 cases h with
 | sl0=>simp at hy
 | sl b o n cap _ _ xs hn hcap hsz hc h=>
  have hlt:j<l.length:=(pr.1 hy).1;refine ⟨b,o,n,cap,λ k=>xs (j * sz+k),rfl,hn,hsz y (pz hy),λ k hk=>?_,λ k c hkc=>h j k y c hy hkc⟩;have:j * sz+k<n * sz:=by
   have:(j+1) * sz≤n * sz:=Nat.mul_le_mul_right _ (by omega)
   rw [Nat.add_mul] at this; omega
  have:=hc _ this;rw [Nat.add_assoc];exact this
theorem RD.slice_inv{v:Value}{sz:Nat}{l:List D}{own:Own}(h:RD w own v (.sl sz l)):∃ base cap,v=.slice base l.length cap:=by
 cases h with
 | sl0 base cap _=>exact ⟨base,cap,rfl⟩
 | sl b o n cap _ _ xs hn _ _ _ _=>subst hn; exact ⟨_,_,rfl⟩
theorem wz{t:Nat}(h:qg P t=true):(sizeOf t).run P w=.ok (P.cellsOf t) w:=by
 obtain ⟨d,hd⟩:=qk h;exact run_sizeOf hd
theorem run_indexAt_slice{t e:Nat}{k:IntKind}{i:Int}{b o n cap:Nat}(hu:P.underlying t=some (.slice e))(h0:0≤i)(h1:i<(n:Int))
  (hz:(sizeOf e).run P w=.ok (P.cellsOf e) w) :
  (Instr.indexAt t (.slice (some ⟨b,o,none⟩) n cap) (.int k i)).run P w=.ok (.pointer (some ⟨b,o+i.toNat * P.cellsOf e,none⟩)) w:=by
 unfold Instr.indexAt;simp [asIntOf,run_underlying hu,h0,h1,hz,addr_add]
theorem ziw{t e:Nat}{k:IntKind}{i:Int}{a:Addr}{n cap:Nat}(hu:P.underlying t=some (.slice e))(h0:0≤i)(h1:i<(n:Int))
  (hz:(sizeOf e).run P w=.ok (P.cellsOf e) w) :
  (Instr.indexAt t (.slice (some a) n cap) (.int k i)).run P w=.ok (.pointer (some (a.add (i.toNat * P.cellsOf e)))) w:=by
 unfold Instr.indexAt;simp [asIntOf,run_underlying hu,h0,h1,hz]
theorem run_indexAt_array{t e n:Nat}{k:IntKind}{i:Int}{b o:Nat}(hu:P.underlying t=some (.array n e))(h0:0≤i)(h1:i<(n:Int))
  (hz:(sizeOf e).run P w=.ok (P.cellsOf e) w) :
  (Instr.indexAt t (.pointer (some ⟨b,o,none⟩)) (.int k i)).run P w=.ok (.pointer (some ⟨b,o+i.toNat * P.cellsOf e,none⟩)) w:=by
 unfold Instr.indexAt;simp [asIntOf,run_underlying hu,Instr.sureAddr,h0,h1,hz,addr_add]
theorem zne{cx:Cx}{t:Nat}{x y:V}{x' y':Value}{K:V→Option R}{r:R}(hx:RV w σ μ x' x)(hy:RV w σ μ y' y)(h:zbk cx t x y K=some r) :
  ∃ v,K v=some r∧∃ v',(Instr.indexAt t x' y').run cx.P w=.ok v' w∧RV w σ μ v' v:=by
 unfold zbk at h;split at h
 ·rename_i e hu;have hz:=wz (w:=w) (zd h).1;replace h:=(zd h).2
  have slc:∀ {sz:Nat} {l:List D},RD w (zp σ μ) x' (.sl sz l)→(index y l.length λ j=>vh l j λ y=>zh (Nat.beq sz (cx.P.cellsOf e)) (K (.eptr y 0)))=some r →
    ∃ v,K v=some r∧∃ v',(Instr.indexAt t x' y').run cx.P w=.ok v' w∧RV w σ μ v' v:=by
   intro sz l hd h;obtain ⟨k,i,rfl,h0,h1,h2⟩:=zaj h;obtain ⟨q,hq,h3⟩:=qa h2;obtain ⟨hsz,hK⟩:=zd h3;have hsz:sz=cx.P.cellsOf e:=po hsz;obtain ⟨b,o,n,cap,xs,rfl,hn,hl,hc,hr⟩:=hd.slot hq;obtain rfl:=hy.int_inv;refine ⟨_,hK,_,run_indexAt_slice hu h0 (by rw [hn]; exact h1) hz,?_⟩
   rw [←hsz];exact .eptr q b _ 0 xs (λ k hk=>hc k (by omega)) hr
  cases x with
  | d x=>
   cases x with
   | sl sz l=>cases hx with | d _ _ hd=>exact slc hd h
   | _=>cases h
  | sl sz l id=>cases hx with | sl _ _ _ _ n hd _ _ _=>exact slc hd h
  | slo id sz k=>
   obtain ⟨kd,i,rfl,h0,h1,h2⟩:=zaj h;obtain ⟨he,hK⟩:=zd h2;have he:=po he;obtain rfl:=hy.int_inv;cases hx with | slo _ _ _ cap base l hi hk hcap hn hat=>?_
   cases base with
   | none=>have:=hn rfl; omega
   | some a=>
    refine ⟨_,hK,_,ziw hu h0 h1 hz,.wptr id sz k i.toNat 0 _ l hi hk λ hkl=>?_⟩;rcases hat hkl with ⟨_,hc0,_⟩ | ⟨b,hbase,hb,hf,_⟩
    ·cases hc0
    ·cases hbase;exact ⟨by omega,b,by rw [addr_add,←he]; simp,hb,hf⟩
  | _=>cases h
 ·rename_i n e hu;have hz:=wz (w:=w) (zd h).1;replace h:=(zd h).2;cases x with
  | ptr id off=>
   obtain ⟨k,i,rfl,h0,h1,hK⟩:=zaj h;obtain rfl:=hy.int_inv;cases hx with | ptr _ _ b hc hb=>exact ⟨_,hK,_,run_indexAt_array hu h0 h1 hz,.ptr id _ b hc hb⟩
  | eptr q off=>
   obtain ⟨k,i,rfl,h0,h1,hK⟩:=zaj h;obtain rfl:=hy.int_inv;cases hx with | eptr _ b o _ xs hc hr=>exact ⟨_,hK,_,run_indexAt_array hu h0 h1 hz,by rw [Nat.add_assoc]; exact .eptr q b o _ xs hc hr⟩
  | gptr g off=>
   obtain ⟨k,i,rfl,h0,h1,hK⟩:=zaj h;obtain rfl:=hy.int_inv;cases hx with | gptr=>exact ⟨_,hK,_,run_indexAt_array hu h0 h1 hz,.gptr g _⟩
  | _=>cases h
 ·cases h
theorem zq1{cx:Cx}{t off:Nat}{v:V}{v':Value}{K:V→Option R}{r:R}(hv:RV w σ μ v' v)(h:zhx cx t v off K=some r) :
  ∃ u,K u=some r∧∃ cs,v'=.agg cs∧∃ u',(part t cs off).run cx.P w=.ok u' w∧RV w σ μ u' u:=by
 unfold zhx at h;have hg:=(zd h).1;replace h:=(zd h).2;rw [pq] at hg;obtain ⟨d,hd⟩:=qk hg.1;have hrv:=V.cells_ok hv;obtain ⟨cs,rfl,h1⟩:∃ cs,v'=.agg cs∧∀ x∈cs.toList,x.oneCell'=true:=by
  cases hv with
  | d _ x hx=>cases hx <;> first | exact ⟨_,rfl,‹_›⟩ | (simp [V.aggish] at hg)
  | agg cs l hl ho h=>exact ⟨cs,rfl,ho⟩
  | _=>simp [V.aggish] at hg
 simp only [Value.cells] at hrv;cases ha:xv cx.P t
 ·rw [ha,p6] at h;obtain ⟨c,hc,h⟩:=zgb h;obtain ⟨x,hx⟩:=yo (l:=cs.toList) (i:=off) (by rw [hrv.1]; exact (pr.1 hc).1)
  obtain ⟨u,hK,hu⟩:=zmb h (hrv.2 off x c hx hc);refine ⟨u,hK,cs,rfl,x,?_,hu⟩;unfold part;simp only [Sem.run_bind,zf7 hd,Result.andThen_ok,ha,Bool.false_eq_true,if_false];have:cs[off]?=some x:=by simpa using hx
  rw [this];rfl
 ·rw [ha,p5] at h;obtain ⟨hle,hK⟩:=zd h;have hle:=p4 hle;refine ⟨_,hK,cs,rfl,.agg (cs.extract off (off+cx.P.cellsOf t)),?_,?_⟩
  ·unfold part;simp only [Sem.run_bind,zf7 hd,Result.andThen_ok,ha,if_true,run_sizeOf hd];rfl
  ·have e:(cs.extract off (off+cx.P.cellsOf t)).toList=(cs.toList.drop off).take (cx.P.cellsOf t):=by
    rw [Array.toList_extract,List.extract_eq_take_drop];congr 1;omega
   refine zdr (λ x hx=>h1 x (List.mem_of_mem_drop (List.mem_of_mem_take (by rw [e] at hx; exact hx)))) ?_
   rw [e];exact (hrv.drop off).take _
theorem zx5{cx:Cx}{t f:Nat}{v:V}{v':Value}{p:Nat×Nat}{K:V→Option R}{r:R}(hv:RV w σ μ v' v)(hp:fieldAt cx.P t f=some p)(h:zhx cx p.2 v p.1 K=some r) :
  ∃ u,K u=some r∧∃ u',(Instr.field t v' f).run cx.P w=.ok u' w∧RV w σ μ u' u:=by
 obtain ⟨fs,fd,hu,hfd,rfl⟩:=zh3 hp;obtain ⟨u,hK,cs,rfl,u',hr,hrv⟩:=zq1 hv h;refine ⟨u,hK,u',?_,hrv⟩;unfold Instr.field;have hr:Sem.run cx.P (part fd.type cs fd.offset) w=.ok u' w:=hr;simp [run_underlying hu,hfd,Go.asAgg,hr]
theorem zvp{cx:Cx}{t:Nat}{x y:V}{x' y':Value}{K:V→Option R}{r:R}(hx:RV w σ μ x' x)(hy:RV w σ μ y' y)(h:zi9 cx t x y K=some r) :
  ∃ v,K v=some r∧∃ v',(Instr.index t x' y').run cx.P w=.ok v' w∧RV w σ μ v' v:=by
 unfold zi9 at h;split at h
 ·rename_i hu;split at h
  ·rename_i s;obtain ⟨k,i,rfl,h0,h1,h2⟩:=zaj h;obtain ⟨b,hb,hK⟩:=zb h2;obtain rfl:=hy.int_inv;obtain rfl:=hx.str_inv;refine ⟨_,hK,.int .u8 b.toNat,?_,.int' _ _⟩;unfold Instr.index;have:(y8 s)[i.toNat]?=some b:=by
    have hlt:i.toNat<s.length:=(pr.1 hb).1;have:s[i.toNat]=b:=(pr.1 hb).2;rw [getElem?_pos (y8 s) i.toNat (by rw [zce]; exact hlt)]
    exact congrArg some this
   simp [asIntOf,run_underlying hu,h0,this]
  ·cases h
 ·rename_i n e hu;obtain ⟨k,i,rfl,h0,h1,h2⟩:=zaj h;obtain rfl:=hy.int_inv;have hz:(sizeOf e).run cx.P w=.ok (cx.P.cellsOf e) w:=by
   unfold zhx at h2;have hg:=(zd h2).1;rw [pq] at hg;exact wz hg.1
  obtain ⟨u,hK,cs,rfl,u',hr,hrv⟩:=zq1 hx h2;refine ⟨u,hK,u',?_,hrv⟩;unfold Instr.index;simp [asIntOf,run_underlying hu,h0,h1,hz,hr]
 ·cases h
end
section
variable {R:Type} {P:Program} {w:World} {σ:St} {μ:Mu}
theorem RV.slD{v:Value}{sz id:Nat}{l:List D}(h:RV w σ μ v (.sl sz l id)):RD w (zp σ μ) v (.sl (szN sz) l):=by
 cases h with | sl _ _ _ _ n hd _ _ _=>exact hd
theorem zl7{v:V}{v':Value}{K:Nat→List D→Option R}{r:R}(hv:RV w σ μ v' v)(h:zjz v K=some r) :
  ∃ sz l,RD w (zp σ μ) v' (.sl sz l)∧K sz l=some r:=by
 unfold zjz at h;split at h
 ·cases hv with | d _ _ hd=>exact ⟨_,_,hd,h⟩
 ·exact ⟨_,_,hv.slD,h⟩
 ·cases h
theorem zzl{cx:Cx}{t ty:Nat}{x:V}{x':Value}{K:V→List Nat→Option R}{r:R}(hi:Inv cx w σ μ)(hx:RV w σ μ x' x)(h:lenV cx σ t x K=some r) :
  ∃ v fp,K v fp=some r∧∃ v',(Builtin.len_ #[t] ty #[x']).run cx.P w=.ok v' w∧RV w σ μ v' v:=by
 unfold lenV at h;split at h
 ·rename_i s hu;obtain rfl:=hx.str_inv;refine ⟨_,_,h,.int .i64 s.length,?_,.int' _ _⟩;simp [Builtin.len_,run_underlying hu,goInt,zce]
 ·rename_i e sz l hu;cases hx with | d _ _ hd=>?_
  obtain ⟨base,cap,rfl⟩:=hd.slice_inv;refine ⟨_,_,h,.int .i64 l.length,?_,.int' _ _⟩;simp [Builtin.len_,run_underlying hu,goInt]
 ·rename_i e sz l id hu;obtain ⟨base,cap,rfl⟩:=hx.slD.slice_inv;refine ⟨_,_,h,.int .i64 l.length,?_,.int' _ _⟩;simp [Builtin.len_,run_underlying hu,goInt]
 ·rename_i e id off n hu;cases hx with | slo _ _ _ cap b l _ _ _ _ _=>?_
  refine ⟨_,_,h,.int .i64 n,?_,.int' _ _⟩;simp [Builtin.len_,run_underlying hu,goInt]
 ·rename_i n e hu;refine ⟨_,_,h,.int .i64 n,?_,.int' _ _⟩;simp [Builtin.len_,run_underlying hu,goInt]
 ·rename_i ke ve ks vs hu;cases hx with | d _ _ hd=>?_
  cases hd with | map q es clock _ _ hm ho hk hv h1 h2=>?_
  refine ⟨_,_,h,.int .i64 ks.length,?_,.int' _ _⟩;simp [Builtin.len_,run_underlying hu,goInt,getObj,Sem.run,hm,hk]
 ·rename_i ke ve id hu;split at h
  ·rename_i ks vs ho;cases hx with | map _ b ks' vs' hi' hb=>?_
   rw [ho] at hi'; cases hi';obtain ⟨b',es,clock,hb',hm,hk,hv⟩:=hi.ob id _ ho;obtain rfl:b=b':=by rw [hb] at hb'; exact Option.some.inj hb'
   have hk:es.size=ks.length:=by simpa using hk.1
   refine ⟨_,_,h,.int .i64 ks.length,?_,.int' _ _⟩;simp [Builtin.len_,run_underlying hu,goInt,getObj,Sem.run,hm,hk]
  ·cases h
 ·rename_i ke ve hu;cases hx with | d _ _ hd=>?_
  cases hd;refine ⟨_,_,h,.int .i64 0,?_,.int' _ _⟩;simp [Builtin.len_,run_underlying hu,goInt]
 ·cases h
theorem run_sliceBound{k:IntKind}{i:Int}{y:Nat}{code:BoundsCode}(h0:0≤i)(h1:i≤(y:Int)):(Instr.sliceBound (.int k i) y code).run P w=.ok i.toNat w:=by
 unfold Instr.sliceBound;simp [asIntOf,h0,h1]
theorem zhq(s:List UInt8)(l h:Nat):(y8 s).extract l h=y8 ((s.take h).drop l):=by
 apply ByteArray.ext;simp only [y8,ByteArray.data_extract];apply Array.ext';simp [List.extract_eq_take_drop,List.drop_take]
theorem RD.piece{v:Value}{sz:Nat}{l:List D}{own:Own}(h:RD w own v (.sl sz l)){lo hi:Nat}(h1:lo≤hi)(h2:hi≤l.length) :
  ∃ base n cap,v=.slice base n cap∧n=l.length∧hi≤cap∧∀ m,hi≤m→RD w own (.slice (if m=lo then base else base.map (·.add (lo * sz))) (hi - lo) (m - lo)) (.sl sz ((l.take hi).drop lo)):=by
 cases h with
 | sl0 base cap _=>
  have:hi=0:=by simpa using h2
  subst this;obtain rfl:lo=0:=by omega
  refine ⟨base,0,cap,rfl,rfl,by omega,λ m hm=>?_⟩
  simp only [Nat.sub_zero,List.take_nil,List.drop_nil];exact .sl0 _ _ _
 | sl b o n cap _ _ xs hn hcap hsz hc h=>
  refine ⟨_,n,cap,rfl,hn,by omega,λ m hm=>?_⟩
  by_cases e:lo=hi
  ·subst e;rw [Nat.sub_self,show (l.take lo).drop lo=[] by simp]
   exact .sl0 _ _ _
  ·have hne : ¬ m=lo:=by omega
   simp only [hne,if_false,Option.map_some,addr_add];refine .sl b _ _ _ sz _ (λ k=>xs (lo * sz+k)) (by simp; omega) (by omega) (λ y hy=>hsz y (List.mem_of_mem_take (List.mem_of_mem_drop hy))) (λ k hk=>?_) (λ i j y c hy hcj=>?_)
   ·have:lo * sz+k<n * sz:=by
     have:lo * sz+(hi - lo) * sz≤n * sz:=by rw [←Nat.add_mul]; exact Nat.mul_le_mul_right _ (by omega)
     omega
    have:=hc _ this;rw [Nat.add_assoc];exact this
   ·have hy':l[lo+i]?=some y:=by
     rw [List.getElem?_drop,List.getElem?_take] at hy;split at hy
     ·exact hy
     ·cases hy
    have:=h (lo+i) j y c hy' hcj;rw [Nat.add_mul,Nat.add_assoc] at this;exact this
theorem zcf{v:Option V}{v':Option Value}{y d:Nat}{K:Nat→Option R}{r:R}(hv:match v,v' with | none,none=>True | some a,some b=>RV w σ μ b a | _,_=>False)
  (h:bound v y d K=some r):(v'=none∧v=none∧K d=some r)∨∃ k i,v'=some (.int k i)∧0≤i∧i≤(y:Int)∧K i.toNat=some r:=by
 rcases ztx h with ⟨rfl,hK⟩ | ⟨k,i,rfl,h0,h1,hK⟩
 ·cases v' with
  | none=>exact .inl ⟨rfl,rfl,hK⟩
  | some a=>exact hv.elim
 ·cases v' with
  | none=>exact hv.elim
  | some a=>obtain rfl:=RV.int_inv hv; exact .inr ⟨k,i,rfl,h0,h1,hK⟩
abbrev znu(w:World)(σ:St)(μ:Mu)(v:Option V)(v':Option Value):Prop:=match v,v' with | none,none=>True | some a,some b=>RV w σ μ b a | _,_=>False
theorem zmk{lo hi:Option V}{lo' hi':Option Value}{b:Bool}{len cap:Nat}{K:Nat→Nat→Option R}{r:R}(hlo:znu w σ μ lo lo')(hhi:znu w σ μ hi hi')(hc:len≤cap)
  (h:(bound hi len len λ h=>bound lo h 0 λ l=>K h l)=some r) :
  ∃ h l,l≤h∧h≤len∧K h l=some r∧(Instr.sliceBounds b len cap lo' hi' none).run P w=.ok (l,h,cap) w:=by
 rcases zcf hhi h with ⟨rfl,_,h1⟩ | ⟨k,i,rfl,h0,hle,h1⟩
 ·rcases zcf hlo h1 with ⟨rfl,_,h2⟩ | ⟨k,i,rfl,h0,hle,h2⟩
  ·exact ⟨len,0,by omega,by omega,h2,by simp [Instr.sliceBounds]⟩
  ·refine ⟨len,i.toNat,by omega,by omega,h2,?_⟩
   simp [Instr.sliceBounds,run_sliceBound h0 hle]
 ·have hcap:i≤(cap:Int):=by omega
  rcases zcf hlo h1 with ⟨rfl,_,h2⟩ | ⟨k',i',rfl,h0',hle',h2⟩
  ·refine ⟨i.toNat,0,by omega,by omega,h2,?_⟩
   simp [Instr.sliceBounds,run_sliceBound h0 hcap]
  ·refine ⟨i.toNat,i'.toNat,by omega,by omega,h2,?_⟩
   simp [Instr.sliceBounds,run_sliceBound h0 hcap,run_sliceBound h0' hle']
theorem zp7:∀ (l:List D) (s:List UInt8),bytesOf l=some s→∃ ns:List Int,l=ns.map (D.int .u8)∧s=ns.map λ n=>UInt8.ofNat n.toNat:=by
 intro l
 induction l with
 | nil=>intro s hb; simp [bytesOf] at hb; subst hb; exact ⟨[],rfl,rfl⟩
 | cons y l ih=>
  intro s hb;cases y with
  | int k n=>
   cases k with
   | u8=>
    simp only [bytesOf] at hb;split at hb
    ·rename_i s' hs';cases hb;obtain ⟨ns,rfl,rfl⟩:=ih s' hs';exact ⟨n::ns,rfl,rfl⟩
    ·cases hb
   | _=>simp [bytesOf] at hb
  | _=>simp [bytesOf] at hb
theorem ztb(ns:List Int):∀ (s:List UInt8),ns.foldl (λ r n=>r.push (UInt8.ofNat n.toNat)) (y8 s)=y8 (s++ns.map λ n=>UInt8.ofNat n.toNat):=by
 induction ns with
 | nil=>intro s; simp
 | cons n ns ih=>
  intro s;have:(y8 s).push (UInt8.ofNat n.toNat)=y8 (s++[UInt8.ofNat n.toNat]):=by
   apply ByteArray.ext;simp [y8]
  simp only [List.foldl_cons,this,ih];simp
theorem zu7{v:Value}{sz:Nat}{l:List D}{own:Own}{s:List UInt8}(h:RD w own v (.sl sz l))(hsz:sz=1∨l=[])(hb:bytesOf l=some s) :
  (Conv.bytesToString v).run P w=.ok (.string (y8 s)) w:=by
 obtain ⟨ns,rfl,rfl⟩:=zp7 l s hb;have fin:∀ (a:Addr) (cap:Nat),(loadCells a ns.length).run P w=.ok (ns.map (Value.int .u8)).toArray w→(Conv.bytesToString (.slice (some a) ns.length cap)).run P w=.ok (.string (y8 (ns.map λ n=>UInt8.ofNat n.toNat))) w:=by
  intro a cap hl;rw [run_bytesToString w a ns.length cap ns hl];have:=ztb ns [];simp only [List.nil_append] at this;rw [←this];rfl
 generalize hq:ns.map (D.int .u8)=q at *;cases h with
 | sl0 base cap _=>
  have:ns=[]:=by simpa using hq
  subst this;cases base with
  | none=>rfl
  | some a=>exact fin a cap rfl
 | sl b o n cap _ _ xs hn hcap hsz' hc h=>
  subst hq;have hn:n=ns.length:=by simpa using hn
  subst hn;refine fin ⟨b,o,none⟩ cap ?_;rcases hsz with rfl | he
  ·have:=run_loadCells_list (P:=P) w ⟨b,o,none⟩ (ns.map (Value.int .u8)) (λ j v hv=>by
    rw [addr_add];have hlt:j<ns.length:=by have:=(pr.1 hv).1; simpa using this
    have hx:=h j 0 (.int .u8 ns[j]) (.int .u8 ns[j]) (by simp [hlt]) rfl
    simp only [Nat.mul_one,Nat.add_zero] at hx;have hv':v=.int .u8 ns[j]:=by simp [hlt] at hv; exact hv.symm
    cases hx':xs j with
    | int k m=>rw [hx'] at hx; cases hx; rw [hv',←hx']; exact (hc j (by omega)).1
    | _=>rw [hx'] at hx; cases hx)
   simpa using this
  ·have:ns=[]:=by simpa using he
   subst this;rfl
theorem zyk{src dst:Nat}{x:V}{x':Value}{K:V→Option R}{r:R}(hx:RV w σ μ x' x)(h:zox P src dst x K=some r) :
  ∃ v,K v=some r∧∃ v',(convert src dst x').run P w=.ok v' w∧RV w σ μ v' v:=by
 unfold zox at h;split at h
 ·rename_i k' k kk n hs hd;obtain rfl:=hx.int_inv;refine ⟨_,h,.int k (k.wrap n),?_,.int' _ _⟩;unfold convert;simp only [Sem.run_bind,run_underlying hs,run_underlying hd,Result.andThen_ok];rfl
 ·rename_i s hs hd;obtain rfl:=hx.str_inv;refine ⟨_,h,.string (y8 s),?_,.str' _⟩;unfold convert;simp only [Sem.run_bind,run_underlying hs,run_underlying hd,Result.andThen_ok];rfl
 ·rename_i v e hs hd;split at h
  ·rename_i he;obtain ⟨sz,l,hrd,h⟩:=zl7 hx h;obtain ⟨hsz,h⟩:=zd h;split at h
   ·rename_i s hb;refine ⟨_,h,.string (y8 s),?_,.str' _⟩;have hsz:sz=1∨l=[]:=by
     rw [Bool.or_eq_true] at hsz;rcases hsz with h1 | h1
     ·exact .inl (po h1)
     ·exact .inr (by simpa using h1)
    obtain ⟨base,cap,rfl⟩:=hrd.slice_inv;rw [run_convert_bytes_string w src dst e base l.length cap hs he hd];exact zu7 hrd hsz hb
   ·cases h
  ·cases h
 ·cases h
theorem zpu(off:Nat):∀ (vs:List Value) (k:Nat) (cs:Array Value),off+k+vs.length≤cs.size →
  ((vs.zipIdx k).foldl (λ cs (c,j)=>cs.setIfInBounds (off+j) c) cs).toList=cs.toList.take (off+k)++vs++cs.toList.drop (off+k+vs.length)
 | [],k,cs,_=>by simp
 | v::vs,k,cs,h=>by
  simp only [List.zipIdx_cons,List.foldl_cons];rw [zpu off vs (k+1) (cs.setIfInBounds (off+k) v) (by simp at h ⊢; omega)]
  have e:=list_seg_step cs.toList (off+k) v vs (by simp at h ⊢; omega)
  simpa [Array.toList_setIfInBounds,Nat.add_assoc] using e
theorem V.cells_one{v:Value}{x:V}(h:RV w σ μ v x)(ht:x.tupV=false):∀ c∈v.cells.toList,c.oneCell'=true:=by
 cases h with
 | d v x hd=>
  cases hd with
  | agg cs l hl ho h=>exact ho
  | _=>intro c hc; simp [Value.cells] at hc; subst hc; rfl
 | agg cs l hl ho h=>exact ho
 | tup=>simp [V.tupV] at ht
 | sl v sz l id n h ht hn he=>
  obtain ⟨base,cap,rfl⟩:=h.slice_inv;intro c hc; simp [Value.cells] at hc; subst hc; rfl
 | _=>intro c hc; simp [Value.cells] at hc; subst hc; rfl
theorem zlt{places:Nat→Option (Nat×Nat)}:∀ (ps:List (Nat×V)) (ps':List (Nat×Value)) (cs:Array Value) (l out:List V),
  ps.length=ps'.length→(∀ (k i:Nat) v i' v',ps[k]?=some (i,v)→ps'[k]?=some (i',v')→i=i'∧RV w σ μ v' v)→RVs w σ μ cs.toList l→(∀ x∈cs.toList,x.oneCell'=true) →
  zok places l ps=some out→∃ cs',Instr.fill places cs ps'=some cs'∧RVs w σ μ cs'.toList out∧(∀ x∈cs'.toList,x.oneCell'=true)
 | [],ps',cs,l,out,hl,_,hr,h1,h=>by
  simp only [zok,Option.some.injEq] at h;subst h;cases ps' with
  | nil=>exact ⟨cs,rfl,hr,h1⟩
  | cons a b=>simp at hl
 | (i,v)::ps,[],cs,l,out,hl,_,hr,h1,h=>by simp at hl
 | (i,v)::ps,(i',v')::ps',cs,l,out,hl,hp,hr,h1,h=>by
  obtain ⟨rfl,hv⟩:=hp 0 i v i' v' rfl rfl;simp only [zok] at h;cases hpl:places i with
  | none=>rw [hpl] at h; cases h
  | some q=>
   obtain ⟨off,size⟩:=q;rw [hpl] at h;simp only at h;cases hc:(!v.tupV&&Nat.beq v.cells.length size&&Nat.ble (off+size) l.length)
   ·rw [hc] at h; cases h
   ·rw [hc,p5] at h;simp only [pq] at hc;obtain ⟨⟨ht,hsz⟩,hle⟩:=hc;have hsz:v.cells.length=size:=po hsz;have hle:off+size≤l.length:=p4 hle;have hvc:=V.cells_ok hv;have hz':v'.cells.size=size:=by have:=hvc.1; simp at this; omega
    have hcl:cs.size=l.length:=by simpa using hr.1
    have hone:∀ x∈v'.cells.toList,x.oneCell'=true:=V.cells_one hv (by simpa using ht)
    have hfold:(v'.cells.zipIdx.foldl (λ cs (c,j)=>cs.setIfInBounds (off+j) c) cs).toList=cs.toList.take off++v'.cells.toList++cs.toList.drop (off+size):=by
     have:=zpu off v'.cells.toList 0 cs (by simp [hz',hcl]; exact hle)
     simp only [Nat.add_zero,Array.length_toList,hz'] at this;rw [←this,←Array.toList_zipIdx,Array.foldl_toList]
    obtain ⟨cs',h2,h3,h4⟩:=zlt ps ps' (v'.cells.zipIdx.foldl (λ cs (c,j)=>cs.setIfInBounds (off+j) c) cs) _ out (by simpa using hl)
     (λ k i v i' v' ha hb=>hp (k+1) i v i' v' (by simpa using ha) (by simpa using hb))
     (by rw [hfold]; exact ((hr.take off).append hvc).append (hr.drop (off+size)))
     (by
      rw [hfold];intro x hx;simp only [List.mem_append] at hx;rcases hx with (hx | hx) | hx
      ·exact h1 x (List.mem_of_mem_take hx)
      ·exact hone x hx
      ·exact h1 x (List.mem_of_mem_drop hx)) h
    refine ⟨cs',?_,h3,h4⟩;simp only [Instr.fill,hpl];rw [if_neg (by simp [hz',hcl]; omega)]
    exact h2
end
section
variable {R:Type} {P:Program} {w:World} {σ:St} {μ:Mu}
theorem zc2{own:Own}:∀ (vs:List Value) (l:List D),yd vs l=true→RDs w own vs l∧∀ x∈vs,x.oneCell'=true
 | [],[],_=>⟨⟨rfl,by simp⟩,by simp⟩
 | [],_::_,h=>by simp [yd] at h
 | v::vs,[],h=>by cases v <;> simp [yd] at h
 | v::vs,x::l,h=>by
  have key:RD w own v x∧v.oneCell'=true∧yd vs l=true:=by
   cases v <;> cases x <;> (try simp only [yd,pq,decide_eq_true_eq,Bool.false_eq_true] at h) <;> try exact h.elim
   case int.int k n k' n'=>obtain ⟨⟨rfl,rfl⟩,h⟩:=h; exact ⟨.int _ _,rfl,h⟩
   case bool.bool b b'=>obtain ⟨rfl,h⟩:=h; exact ⟨.bool _,rfl,h⟩
   case string.str s t=>
    cases t with
    | nil=>
     simp only [yd,pq] at h;have:s.size=0:=po h.1;have:s=y8 []:=by
      apply ByteArray.ext;apply Array.ext';have:s.data.toList.length=0:=by simpa using this
      simpa [y8] using List.eq_nil_of_length_eq_zero this
     exact ⟨by rw [this]; exact .str _,rfl,h.2⟩
    | cons a t=>simp [yd] at h
   case pointer.nilptr a=>cases a <;> simp [yd] at h; exact ⟨.nilptr,rfl,h⟩
   case slice.sl a n c sz t=>
    cases a with
    | some a=>simp [yd] at h
    | none=>
     cases n with
     | succ n=>simp [yd] at h
     | zero=>
      cases c with
      | succ c=>simp [yd] at h
      | zero=>
       cases t with
       | nil=>exact ⟨.sl0 _ _ _,rfl,by simpa [yd] using h⟩
       | cons a t=>simp [yd] at h
   case map.nilmap r=>cases r <;> simp [yd] at h; exact ⟨.nilmap,rfl,h⟩
   case nilFunc.nilfunc=>exact ⟨.nilfunc,rfl,h⟩
   case nilIface.nilIface=>exact ⟨.nilIface,rfl,h⟩
  obtain ⟨h1,h2⟩:=zc2 (own:=own) vs l key.2.2;refine ⟨⟨by simp [h1.1],λ i a b ha hb=>?_⟩,λ a ha=>?_⟩
  ·cases i with
   | zero=>simp at ha hb; subst ha; subst hb; exact key.1
   | succ i=>exact h1.2 i a b (by simpa using ha) (by simpa using hb)
  ·cases ha with
   | head=>exact key.2.1
   | tail _ ha=>exact h2 a ha
theorem x8{t:Nat}{l:List D}(h:zeroOf P t=some l):∃ i z,P.info? t=some i∧i.zero=some z∧qg P t=true∧zsb z=xv P t∧(∀ own,RDs w own z.cells.toList l)∧(∀ x∈z.cells.toList,x.oneCell'=true)∧l.length=P.cellsOf t∧yd z.cells.toList l=true:=by
 unfold zeroOf at h;split at h
 ·rename_i i l' hi hz;split at h
  ·rename_i z hzz;cases hc:(qg P t&&zsb z == xv P t&&yd z.cells.toList l'&&Nat.beq l'.length i.size)
   ·rw [hc] at h; cases h
   ·rw [hc,p5,Option.some.injEq] at h;subst h;simp only [pq] at hc;obtain ⟨⟨⟨h1,h2⟩,h3⟩,h4⟩:=hc;exact ⟨i,z,hi,hzz,h1,by simpa using h2,λ own=>(zc2 (own:=own) _ _ h3).1,(zc2 (w:=w) (own:=λ _ _=>True) _ _ h3).2,by simp [Program.cellsOf,hi,po h4],h3⟩
  ·cases h
 ·cases h
theorem zhs{t:Nat}{i:TypeInfo}{z:Value}(hi:P.info? t=some i)(hz:i.zero=some z):(zeroValue t).run P w=.ok z w:=by
 simp [zeroValue,typeInfo,hi,hz]
theorem RDs.rv{vs:List Value}{l:List D}(h:RDs w (zp σ μ) vs l):RVs w σ μ vs (l.map .d):=
 ⟨by simpa using h.1,λ i x y hx hy=>by
  rw [List.getElem?_map,Option.map_eq_some_iff] at hy;obtain ⟨z,hz,rfl⟩:=hy;exact .d _ _ (h.2 i x z hx hz)⟩
theorem RVs.rd{vs:List Value}{l:List D}(h:RVs w σ μ vs (l.map .d)):RDs w (zp σ μ) vs l:=
 ⟨by simpa using h.1,λ i x y hx hy=>by
  have:=h.2 i x (.d y) hx (by simp [hy])
  cases this with | d _ _ h=>exact h⟩
theorem zvj{t:Nat}{l:List D}(h:zeroOf P t=some l):∃ z,(zeroValue t).run P w=.ok z w∧∀ own,RD w own z (wn P t l):=by
 obtain ⟨i,z,hi,hz,hty,ha,hr,h1,hl,_⟩:=x8 (w:=w) h;refine ⟨z,zhs hi hz,λ own=>?_⟩;have hr:=hr own;unfold wn;rw [←ha];cases z with
 | agg cs=>
  simp only [zsb,p5];exact .agg cs l (by simpa [Value.cells] using hr.1) h1 λ i x y hx hy=>hr.2 i x y (by simpa [Value.cells] using hx) hy
 | _=>
  simp only [zsb,p6];simp only [Value.cells] at hr;obtain ⟨hlen,hrr⟩:=hr
  match l,hlen with
  | [x],_=>exact hrr 0 _ x rfl rfl
theorem zpd{t:Nat}{a:Act}{fr:Fr}(hf:FR w σ μ a.tmps fr):∀ (ps:List (Nat×Operand)) (l:List (Nat×V)),zh0 P fr t ps=some l →
  l.length=ps.length∧∀ (k i:Nat) v i' v',l[k]?=some (i,v)→(ps.map λ (i,x)=>(i,a.eval x))[k]?=some (i',v')→i=i'∧RV w σ μ v' v
 | [],l,h=>by simp [zh0] at h; subst h; simp
 | (i,x)::ps,l,h=>by
  simp only [zh0] at h;split at h
  ·rename_i v l' hv hl;cases h;obtain ⟨h1,h2⟩:=zpd hf ps l' hl;refine ⟨by simp [h1],λ k i v i' v' ha hb=>?_⟩
   cases k with
   | zero=>simp at ha hb; obtain ⟨rfl,rfl⟩:=ha; obtain ⟨rfl,rfl⟩:=hb; exact ⟨rfl,x5 hf hv⟩
   | succ k=>exact h2 k i v i' v' (by simpa using ha) (by simpa using hb)
  ·cases h
theorem zbp{a:Act}{fr:Fr}(hf:FR w σ μ a.tmps fr):∀ (xs:List Operand) (ts:List Nat) (l:List V),vq P fr xs ts=some l→RVs w σ μ (xs.map a.eval) l
 | [],ts,l,h=>by simp [vq] at h; subst h; exact ⟨rfl,by simp⟩
 | x::xs,ts,l,h=>by
  simp only [vq] at h;split at h
  ·rename_i v l' hv hl;cases h;have ih:=zbp hf xs _ l' hl;refine ⟨by simp [ih.1],λ i p q hp hq=>?_⟩
   cases i with
   | zero=>simp at hp hq; subst hp; subst hq; exact x5 hf hv
   | succ i=>exact ih.2 i p q (by simpa using hp) (by simpa using hq)
  ·cases h
theorem ze1{t:Nat}(h:zdu P t=true){ps:List (Nat×Value)}{z:Value}{i:TypeInfo}(hi:P.info? t=some i)(hz:i.zero=some z){cs:Array Value}
  (hf:Instr.fill (placeOf P t) z.cells ps=some cs):P.built t ps=some cs:=by
 unfold zdu at h;unfold Program.built;cases hu:P.underlying t with
 | none=>rw [hu] at h; cases h
 | some d=>
  rw [hu] at h;cases d with
  | struct fs=>
   simp only at h;have hm:fs.toList.mapM (λ f=>(P.info? f.type).map λ i=>(f.offset,i.size))=some (fs.toList.map λ f=>(f.offset,P.cellsOf f.type)):=by
    refine mapM_some_of_forall _ λ f hf=>?_;obtain ⟨d,hd⟩:=qk (List.all_eq_true.1 h f hf);obtain ⟨i,hi⟩:=zdh hd;simp [hi,Program.cellsOf]
   simp only [hi,hz,hm];have:placeOf P t=λ x=>(fs.toList.map λ f=>(f.offset,P.cellsOf f.type)).toArray[x]?:=by
    funext x;unfold placeOf;rw [hu];cases hx:fs[x]? <;> simp [hx]
   rw [←this];exact hf
  | array n e=>
   simp only at h;obtain ⟨d,hd⟩:=qk h;obtain ⟨ie,hie⟩:=zdh hd;simp only [hi,hz,hie];have:placeOf P t=λ x=>some (x * ie.size,ie.size):=by
    funext x;unfold placeOf;rw [hu];simp [Program.cellsOf,hie]
   rw [←this];exact hf
  | _=>cases h
theorem zyo{t:Nat}{a:Act}{fr:Fr}{ps:Array (Nat×Operand)}{z:List D}{l:List (Nat×V)}{cs:List V}(hf:FR w σ μ a.tmps fr)(hz:zeroOf P t=some z)
  (hl:zh0 P fr t ps.toList=some l) (hc:zok (placeOf P t) (z.map .d) l=some cs) (hk:zdu P t=true) :
  ∃ v',(Instr.build t (ps.map λ (i,x)=>(i,a.eval x))).run P w=.ok v' w∧RV w σ μ v' (za4 cs):=by
 obtain ⟨i,zv,hi,hzv,hty,ha,hr,h1,hlen,_⟩:=x8 (w:=w) hz;obtain ⟨g1,g2⟩:=zpd hf ps.toList l hl;obtain ⟨cs',k1,k2,k3⟩:=zlt l ((ps.toList).map λ (i,x)=>(i,a.eval x)) zv.cells (z.map .d) cs (by simp [g1]) g2 (hr _).rv h1 hc
 have:=ze1 hk hi hzv k1;refine ⟨.agg cs',run_build w t _ cs' (by simpa using this),zdr k3 k2⟩
theorem zdw{v:V}{v':Value}{x:D}(hv:RV w σ μ v' v)(h:ze5 v=some x):RD w (zp σ μ) v' x:=by
 cases v with
 | d y=>simp [ze5] at h; subst h; cases hv with | d _ _ h=>exact h
 | sl sz l id=>simp [ze5] at h; subst h; exact hv.slD
 | agg l=>
  simp only [ze5] at h;split at h
  ·rename_i ds hds;cases h;cases hv with | agg cs _ hl ho hr=>?_
   have key:∀ (l:List V) (ds:List D),zcm (l.map V.handed)=some ds→∀ vs,RVs w σ μ vs l→RDs w (zp σ μ) vs ds:=by
    intro l
    induction l with
    | nil=>intro ds h vs hv; simp [zcm] at h; subst h; exact ⟨hv.1,by simp⟩
    | cons y l ih=>
     intro ds h vs hv;cases vs with
     | nil=>simp [RVs] at hv
     | cons a vs=>
      have h0:RV w σ μ a y:=hv.2 0 a y rfl rfl;have hr:RVs w σ μ vs l:=⟨by simpa [RVs] using hv.1,λ i p q hp hq=>hv.2 (i+1) p q (by simpa using hp) (by simpa using hq)⟩
      have fin:∀ (q:D),zcm (V.d q::l.map V.handed)=some ds→RD w (zp σ μ) a q→RDs w (zp σ μ) (a::vs) ds:=by
       intro q hq hrd;simp only [zcm] at hq;split at hq
       ·rename_i ds' hds';cases hq;have:=ih ds' hds' vs hr;refine ⟨by simp [this.1],λ i p r hp hr=>?_⟩
        cases i with
        | zero=>simp at hp hr; subst hp; subst hr; exact hrd
        | succ i=>exact this.2 i p r (by simpa using hp) (by simpa using hr)
       ·cases hq
      cases y with
      | d q=>cases h0 with | d _ _ hd=>exact fin q h hd
      | sl sz q id=>exact fin (.sl (szN sz) q) h h0.slD
      | _=>simp [V.handed,zcm] at h
   have:=key l ds hds cs.toList ⟨by simpa using hl,λ i x y hx hy=>hr i x y (by simpa using hx) hy⟩
   exact .agg cs ds (by simpa using this.1) ho λ i x y hx hy=>this.2 i x y (by simpa using hx) hy
  ·cases h
 | _=>simp [ze5] at h
end
theorem qb{σ:St}:∀ {δ:De},z8 σ δ=true→(∀ id∈δ.map (·.1),zf σ id=none)∧(δ.map (·.1)).Nodup
 | [],_=>⟨by simp,by simp⟩
 | (i,o)::r,h=>by
  simp only [z8,pq] at h;obtain ⟨⟨h1,h2⟩,h3⟩:=h;obtain ⟨g1,g2⟩:=qb h3;refine ⟨λ id hid=>?_,?_⟩
  ·simp only [List.map_cons,List.mem_cons] at hid;rcases hid with rfl | hid
   ·cases hg:zf σ id with
    | none=>rfl
    | some x=>rw [hg] at h1; cases h1
   ·exact g1 id hid
  ·simp only [List.map_cons,List.nodup_cons];refine ⟨λ hm=>?_,g2⟩;obtain ⟨p,hp,rfl⟩:=List.mem_map.1 hm;have:=List.all_eq_true.1 h2 p hp;simp at this
theorem x3:∀ {δ:De} {σ:St} {id:Nat} {o:Ob},(δ.map (·.1)).Nodup→(id,o)∈δ→zf (ze σ δ) id=some o
 | (i,q)::r,σ,id,o,hn,hm=>by
  simp only [List.map_cons,List.nodup_cons] at hn;simp only [ze];cases hm with
  | head=>
   rw [qs hn.1,zk,if_pos rfl]
  | tail _ hm=>exact x3 hn.2 hm
theorem zq9{δ:De}{σ:St}{id:Nat}{o:Ob}(hn:(δ.map (·.1)).Nodup)(hid:id∈δ.map (·.1))(h:zf (ze σ δ) id=some o):(id,o)∈δ:=by
 obtain ⟨p,hp,rfl⟩:=List.mem_map.1 hid;have:=x3 (σ:=σ) hn (show (p.1,p.2)∈δ from hp);rw [this] at h;cases h;exact hp
section
variable {cx:Cx} {w w':World} {σ:St} {μ μ':Mu}
theorem zg3{δ:De}(hos:w'.os=w.os)(hout:w'.output=w.output)(hsize:w.heap.size≤w'.heap.size)(hold:∀ b,b<w.heap.size→w'.heap[b]?=w.heap[b]?)
  (hf:z8 σ δ=true) (hfr:μ'.fr=μ.fr) (hμ:∀ j,j ∉ δ.map (·.1)→μ' j=μ j) (hb:∀ id∈δ.map (·.1),∀ b,(μ' id).blk=some b→w.heap.size≤b)
  (ha:∀ id∈δ.map (·.1),∀ id'∈δ.map (·.1),∀ b,(μ' id).blk=some b→(μ' id').blk=some b→id=id') :
  Upd cx w σ μ w' (ze σ δ) μ' (δ.map (·.1)) where
 os:=hos
 output:=hout
 size:=hsize
 blk:=λ b hb _=>hold b hb
 cell:=λ b i x _ hc=>by
  have:=hold b (lt_of_cell hc);unfold World.cell? at hc ⊢;simp only at hc ⊢;rw [this];exact hc
 fr:=hfr
 same:=λ j hj=>⟨qs hj,hμ j hj⟩
 own:=λ id hid o' _ b i hown hlt=>by
  have:(μ' id).blk=some b:=by cases o' <;> first | exact hown | exact hown.1
  exact absurd hlt (Nat.not_lt.2 (hb id hid b this))
 still:=λ id hid o ho=>by
  have:=(qb hf).1 id hid;rw [this] at ho; cases ho
 apart:=λ id hid id' hid' o o' b i _ _ h1 h2 _=>by
  have e1:(μ' id).blk=some b:=by cases o <;> first | exact h1 | exact h1.1
  have e2:(μ' id').blk=some b:=by cases o' <;> first | exact h2 | exact h2.1
  exact ha id hid id' hid' b e1 e2
theorem zbd.of_upd{a:Act}{o:Oper}{v:V}{δ:De}{ids:List Nat}(hi:Inv cx w σ μ)(v':Value)(hr:(execOp a.eval o).run cx.P w=.ok (.value v') w')
  (hu:Upd cx w σ μ w' (ze σ δ) μ' ids) (hob:∀ id∈ids,∀ o',zf (ze σ δ) id=some o'→zay w' (ze σ δ) μ' id o') (hv:RV w' (ze σ δ) μ' v' v) :
  zbd cx w σ μ a o (.val v) δ:=by
 intro next Q h
 unfold Oper.wp;rw [hr];exact h v' w' μ' (hu.after hi hob) hv
theorem zbd.of_skip{a:Act}{o:Oper}{δ:De}{ids:List Nat}(hi:Inv cx w σ μ)(hr:(execOp a.eval o).run cx.P w=.ok .skip w')
  (hu:Upd cx w σ μ w' (ze σ δ) μ' ids) (hob:∀ id∈ids,∀ o',zf (ze σ δ) id=some o'→zay w' (ze σ δ) μ' id o') :
  zbd cx w σ μ a o (.val wa) δ:=by
 intro next Q h
 unfold Oper.wp;rw [hr];exact h undef w' μ' (hu.after hi hob) (.tup #[] [] rfl (by simp))
def setMu(μ:Mu)(id:Nat)(lo:Lo):Mu:=⟨λ j=>if j=id then lo else μ j,μ.fr⟩
theorem zd8(μ:Mu)(id:Nat):setMu μ id (μ id)=μ:=by
 obtain ⟨lo,fr⟩:=μ;simp only [setMu,Mu.mk.injEq,and_true];funext j;split
 ·rename_i h; rw [h]
 ·rfl
theorem alloc_old{o:Obj}(b:Nat)(hb:b<w.heap.size):(w.alloc o).heap[b]?=w.heap[b]?:=by
 show (w.heap.push o)[b]?=_;rw [Array.getElem?_push,if_neg (Nat.ne_of_lt hb)]
theorem wj{o:Obj}:(w.alloc o).heap[w.heap.size]?=some o:=by
 show (w.heap.push o)[w.heap.size]?=_;rw [Array.getElem?_push,if_pos rfl]
theorem zfy{id:Nat}{ob:Ob}{o:Obj}{f e el:Nat}(hf:zf σ id=none) :
  Upd cx w σ μ (w.alloc o) (ze σ [(id,ob)]) (setMu μ id ⟨some w.heap.size,f,e,el⟩) [id]:=
 zg3 (δ:=[(id,ob)]) rfl rfl (by simp) (λ b hb=>alloc_old b hb) (by simp [z8,hf]) rfl (λ j hj=>by simp at hj; simp [setMu,hj])
  (λ j hj b hb=>by simp at hj; subst hj; simp [setMu] at hb; omega) (λ j hj j' hj' b _ _=>by simp at hj hj'; rw [hj,hj'])
theorem zls{id:Nat}{o:Ob}(h:z8 σ [(id,o)]=true):zf σ id=none:=(qb h).1 id (by simp)
theorem zub{M c e:Nat}(h:c<M):(c+M * (e+1)) % M=c∧(c+M * (e+1)) / M=e+1:=
 ⟨by rw [Nat.add_mul_mod_self_left,Nat.mod_eq_of_lt h],by rw [Nat.add_mul_div_left _ _ (Nat.lt_of_le_of_lt (Nat.zero_le c) h),Nat.div_eq_of_lt h,Nat.zero_add]⟩
theorem zu0{M c e:Nat}(h:c<M):c % M=c∧(c<M∨c / M=e+1):=⟨Nat.mod_eq_of_lt h,.inl h⟩
theorem zw4{M c e:Nat}{b:Bool}{n:Nat}(hn:n=bif b then c+M * (e+1) else c)(h:c<M):n % M=c∧(n<M∨n / M=e+1):=by
 subst hn;cases b
 ·exact zu0 h
 ·exact ⟨(zub h).1,.inr (zub h).2⟩
theorem zo7{nt e:Nat}{dst:Option Nat}(h:Nat.blt (cx.P.cellsOf e) 1048576=true):szN (zy3 cx nt dst e)=cx.P.cellsOf e∧zhp (zy3 cx nt dst e) e:=
 zw4 rfl (p4 h)
theorem z17{e id n:Nat}{v:V}{v':Value}(hi:Inv cx w σ μ)(hv:RV w σ μ v' v)(ht:v.tupV=false)(hn:v.cells.length=szN n)(hT:zhp n e)(hf:zf σ id=none) :
  ∃ w',(Instr.box e v').run cx.P w=.ok (.pointer (some ⟨w.heap.size,0,none⟩)) w' ∧
   Upd cx w σ μ w' (ze σ [(id,.val n v)]) (setMu μ id ⟨some w.heap.size,0,0,0⟩) [id] ∧
   (∀ j∈[id],∀ o',zf (ze σ [(id,.val n v)]) j=some o'→zay w' (ze σ [(id,.val n v)]) (setMu μ id ⟨some w.heap.size,0,0,0⟩) j o') ∧
   RV w' (ze σ [(id,.val n v)]) (setMu μ id ⟨some w.heap.size,0,0,0⟩) (.pointer (some ⟨w.heap.size,0,none⟩)) (.ptr id 0):=by
 refine ⟨w.alloc (.cells v'.cells e),by simp [Instr.box,newVar,newRow],zfy hf,λ j hj o' ho'=>?_,?_⟩
 ·simp at hj; subst hj;simp only [ze,zk,if_pos] at ho';cases ho';have hvc:=V.cells_ok hv;have hs:=(zfy (cx:=cx) (w:=w) (μ:=μ) (ob:=.val n v) (o:=.cells v'.cells e) (f:=0) (e:=0) (el:=0) hf).goes.stays' hi;have hst:=(zfy (cx:=cx) (w:=w) (μ:=μ) (ob:=.val n v) (o:=.cells v'.cells e) (f:=0) (e:=0) (el:=0) hf).stillAll;refine ⟨w.heap.size,v'.cells,e,by simp [setMu],wj,?_,ht,V.cells_one hv ht,hvc.map λ x y _ hxy=>hxy.stays hs λ k _ o ho=>hst k o ho,hT⟩
  have:=hvc.1; simp at this; omega
 ·exact .ptr id 0 w.heap.size (by simp [ze,zk,zx0]) (by simp [setMu])
end
section
variable {cx:Cx} {w w':World} {σ:St} {μ μ':Mu}
theorem zc3{w':World}{σ':St}{μ':Mu}(tg nt:Nat):∀ (xs:List Value) (l:List D) (id:Nat),yd xs l=true →
  (∀ j o,(j,o)∈(zu tg l id nt).2→zf σ' j=some o∧μ' j=⟨none,0,0,0⟩)→RVs w' σ' μ' xs (zu tg l id nt).1
 | [],[],id,_,_=>⟨rfl,by simp [zu]⟩
 | [],_::_,id,h,_=>by simp [yd] at h
 | v::vs,[],id,h,_=>by cases v <;> simp [yd] at h
 | v::vs,x::l,id,h,hd=>by
  have h0:=(zc2 (w:=w') (own:=zp σ' μ') _ _ h).1;have hx:RD w' (zp σ' μ') v x:=h0.2 0 v x rfl rfl;have ht:yd vs l=true:=by
   cases v <;> cases x <;> (try simp only [yd,pq,Bool.false_eq_true] at h) <;> try exact h.elim
   case int.int=>exact h.2
   case bool.bool=>exact h.2
   case string.str s t=>cases t <;> simp [yd] at h; exact h.2
   case pointer.nilptr a=>cases a <;> simp [yd] at h; exact h
   case slice.sl a n c sz t=>
    cases a <;> cases n <;> cases c <;> cases t <;> simp [yd] at h; exact h
   case map.nilmap r=>cases r <;> simp [yd] at h; exact h
   case nilFunc.nilfunc=>exact h
   case nilIface.nilIface=>exact h
  have plain:(∀ j o,(j,o)∈(zu tg l (id+nt) nt).2→zf σ' j=some o∧μ' j=⟨none,0,0,0⟩)→RVs w' σ' μ' (v::vs) (.d x::(zu tg l (id+nt) nt).1):=by
   intro hd;have ih:=zc3 (w':=w') tg nt vs l (id+nt) ht hd;refine ⟨by simp [ih.1],λ i a b ha hb=>?_⟩
   cases i with
   | zero=>simp at ha hb; subst ha; subst hb; exact .d _ _ hx
   | succ i=>exact ih.2 i a b (by simpa using ha) (by simpa using hb)
  cases x with
  | sl sz t=>
   cases t with
   | nil=>
    simp only [zu] at hd ⊢;have ih:=zc3 (w':=w') tg nt vs l (id+nt) ht λ j o hj=>hd j o (p0 _ hj);refine ⟨by simp [ih.1],λ i a b ha hb=>?_⟩
    cases i with
    | zero=>
     simp at ha hb; subst ha; subst hb;obtain ⟨g1,g2⟩:=hd id _ py;have hv0:v=.slice none 0 0:=by
      cases v <;> (try simp [yd] at h)
      rename_i a n c;cases a <;> cases n <;> cases c <;> simp [yd] at h;rfl
     subst hv0;exact .sl _ _ [] id 0 (.sl0 none 0 _) g1 (Nat.le_refl _) λ _=>.inl ⟨rfl,rfl,by rw [g2],.inr rfl⟩
    | succ i=>exact ih.2 i a b (by simpa using ha) (by simpa using hb)
   | cons y t=>exact plain (by simpa [zu] using hd)
  | _=>exact plain (by simpa [zu] using hd)
theorem zaz(tg nt:Nat):∀ (l:List D) (id j:Nat) (o:Ob),(j,o)∈(zu tg l id nt).2→o=.tok 0
 | [],id,j,o,h=>by simp [zu] at h
 | x::l,id,j,o,h=>by
  cases x with
  | sl sz t=>
   cases t with
   | nil=>
    simp only [zu,List.mem_cons] at h;rcases h with h | h
    ·cases h; rfl
    ·exact zaz tg nt l _ j o h
   | cons y t=>exact zaz tg nt l _ j o (by simpa [zu] using h)
  | _=>exact zaz tg nt l _ j o (by simpa [zu] using h)
theorem zb3(tg nt:Nat):∀ (l:List D) (id:Nat),∀ v∈(zu tg l id nt).1,v.tupV=false
 | [],id,v,h=>by simp [zu] at h
 | x::l,id,v,h=>by
  cases x with
  | sl sz t=>
   cases t with
   | nil=>
    simp only [zu,List.mem_cons] at h;rcases h with rfl | h
    ·rfl
    ·exact zb3 tg nt l _ v h
   | cons y t=>
    simp only [zu,List.mem_cons] at h;rcases h with rfl | h
    ·rfl
    ·exact zb3 tg nt l _ v h
  | _=>
   simp only [zu,List.mem_cons] at h;rcases h with rfl | h
   ·rfl
   ·exact zb3 tg nt l _ v h
theorem zc8(l:List V):(za4 l).cells=l:=by
 unfold za4;split
 ·rename_i ds hds;simp only [V.cells];have key:∀ (l:List V) (ds:List D),zcm l=some ds→ds.map V.d=l:=by
   intro l
   induction l with
   | nil=>intro ds h; simp [zcm] at h; subst h; rfl
   | cons x r ih=>
    intro ds h;cases x <;> simp only [zcm] at h <;> try (cases h; done)
    split at h
    ·rename_i l' hl; cases h; simp [ih l' hl]
    ·cases h
  exact key l ds hds
 ·rfl
theorem zn0(l:List V):(za4 l).tupV=false:=by
 unfold za4;split <;> rfl
theorem zys{e site tg nt n:Nat}(hn:szN n=cx.P.cellsOf e)(hT:zhp n e){z:List D}(hz:zeroOf cx.P e=some z)(v:V)(hv:v=bif xv cx.P e then za4 (zu tg z (site+nt) nt).1 else (zu tg z (site+nt) nt).1.headD wa)
  (hc:z8 σ ((site,.val n v)::(zu tg z (site+nt) nt).2)=true) (h1:xv cx.P e=true∨(zu tg z (site+nt) nt).1.length=1) :
  ∃ w' μ',(Instr.alloc e true (.tuple #[])).run cx.P w=.ok (.pointer (some ⟨w.heap.size,0,none⟩)) w' ∧
   Upd cx w σ μ w' (ze σ ((site,.val n v)::(zu tg z (site+nt) nt).2)) μ' (((site,Ob.val n v)::(zu tg z (site+nt) nt).2).map (·.1)) ∧
   (∀ j∈((site,Ob.val n v)::(zu tg z (site+nt) nt).2).map (·.1),∀ o',zf (ze σ ((site,.val n v)::(zu tg z (site+nt) nt).2)) j=some o' →
    zay w' (ze σ ((site,.val n v)::(zu tg z (site+nt) nt).2)) μ' j o') ∧
   RV w' (ze σ ((site,.val n v)::(zu tg z (site+nt) nt).2)) μ' (.pointer (some ⟨w.heap.size,0,none⟩)) (.ptr site 0):=by
 obtain ⟨i,zv,hti,hzv,hty,ha,hr,hone,hlen,hfit⟩:=x8 (w:=w) hz;generalize hδ:(site,Ob.val n v)::(zu tg z (site+nt) nt).2=δ at *;obtain ⟨hfr,hnd⟩:=qb hc
 let μ':Mu:=⟨λ j=>if j=site then ⟨some w.heap.size,0,0,0⟩ else if j∈δ.map (·.1) then ⟨none,0,0,0⟩ else μ j,μ.fr⟩
 have hsite:(site,Ob.val n v)∈δ:=by rw [←hδ]; exact py
 have hs':site∈δ.map (·.1):=List.mem_map.2 ⟨_,hsite,rfl⟩;have hu:Upd cx w σ μ (w.alloc (.cells zv.cells e)) (ze σ δ) μ' (δ.map (·.1)):=by
  refine zg3 rfl rfl (by simp) (λ b hb=>alloc_old b hb) hc rfl (λ j hj=>?_) (λ j hj b hb=>?_) (λ j hj j' hj' b hb hb'=>?_)
  ·have:j ≠ site:=λ h=>hj (h ▸ hs');simp only [μ',this,if_false,hj]
  ·by_cases hjs:j=site
   ·subst hjs; simp [μ'] at hb; omega
   ·simp [μ',hjs,hj] at hb
  ·by_cases hjs:j=site
   ·by_cases hjs':j'=site
    ·rw [hjs,hjs']
    ·simp [μ',hjs',hj'] at hb'
   ·simp [μ',hjs,hj] at hb
 have htok:∀ j o,(j,o)∈(zu tg z (site+nt) nt).2→zf (ze σ δ) j=some o∧μ' j=⟨none,0,0,0⟩:=by
  intro j o hj;have hm:(j,o)∈δ:=by rw [←hδ]; exact p0 _ hj
  refine ⟨x3 hnd hm,?_⟩;have hne:j ≠ site:=by
   intro h;subst h;rw [←hδ] at hnd;simp only [List.map_cons,List.nodup_cons] at hnd;exact hnd.1 (List.mem_map.2 ⟨_,hj,rfl⟩)
  have:j∈δ.map (·.1):=List.mem_map.2 ⟨_,hm,rfl⟩;simp only [μ',hne,if_false,this,if_true]
 have hcells:=zc3 (w':=w.alloc (.cells zv.cells e)) tg nt zv.cells.toList z (site+nt) hfit htok;have hvc:v.cells=(zu tg z (site+nt) nt).1∧v.tupV=false:=by
  subst hv;cases hagg:xv cx.P e
  ·rcases h1 with h1 | h1
   ·rw [hagg] at h1; cases h1
   ·simp only [p6];obtain ⟨q,hq⟩:=List.length_eq_one_iff.1 h1;have ht:=zb3 tg nt z (site+nt) q (by rw [hq]; exact List.mem_singleton.2 rfl)
    rw [hq];refine ⟨?_,by simpa using ht⟩
    simp only [List.headD_cons]
    -- the one cell is no struct
    have h0:∃ c,zv.cells.toList=[c]:=by
     have:=hcells.1; rw [hq] at this;exact List.length_eq_one_iff.1 this
    obtain ⟨c,hc0⟩:=h0;have hrv:=hcells.2 0 c q (by rw [hc0]; rfl) (by rw [hq]; rfl)
    have hc1:=hone c (by rw [hc0]; exact List.mem_singleton.2 rfl)
    cases hrv with
    | d _ x hd=>cases hd <;> first | rfl | (simp [Value.oneCell'] at hc1)
    | agg=>simp [Value.oneCell'] at hc1
    | tup=>simp [Value.oneCell'] at hc1
    | _=>rfl
  ·exact ⟨zc8 _,zn0 _⟩
 refine ⟨w.alloc (.cells zv.cells e),μ',?_,hu,λ j hj o' ho'=>?_,?_⟩
 ·unfold Instr.alloc;simp [zhs hti hzv,newVar,newRow]
 ·have hm:=zq9 hnd hj ho';rw [←hδ] at hm;cases hm with
  | head=>
   refine ⟨w.heap.size,zv.cells,e,by simp [μ'],wj,?_,hvc.2,hone,by rw [hvc.1]; exact hcells,hT⟩
   have:=hr (λ _ _=>True);have:=this.1;simp at this;omega
  | tail _ hm=>
   have:=zaz tg nt z _ j o' hm;subst this;intro b hb;rw [(htok j _ hm).2] at hb;cases hb
 ·exact .ptr site 0 w.heap.size (by rw [x3 hnd hsite]; trivial) (by simp [μ'])
theorem zwf{t site tg nt:Nat}{z:List D}(hz:zeroOf cx.P t=some z)(hk:zdu cx.P t=true)(hc:z8 σ (zu tg z site nt).2=true) :
  ∃ v' μ',(Instr.build t #[]).run cx.P w=.ok v' w∧Upd cx w σ μ w (ze σ (zu tg z site nt).2) μ' ((zu tg z site nt).2.map (·.1)) ∧
   (∀ j∈(zu tg z site nt).2.map (·.1),∀ o',zf (ze σ (zu tg z site nt).2) j=some o'→zay w (ze σ (zu tg z site nt).2) μ' j o') ∧
   RV w (ze σ (zu tg z site nt).2) μ' v' (za4 (zu tg z site nt).1):=by
 obtain ⟨i,zv,hti,hzv,hty,ha,hr,hone,hlen,hfit⟩:=x8 (w:=w) hz;generalize hδ:(zu tg z site nt).2=δ at *;obtain ⟨hfr,hnd⟩:=qb hc
 let μ':Mu:=⟨λ j=>if j∈δ.map (·.1) then ⟨none,0,0,0⟩ else μ j,μ.fr⟩
 have hu:Upd cx w σ μ w (ze σ δ) μ' (δ.map (·.1)):=by
  refine zg3 rfl rfl (Nat.le_refl _) (λ b hb=>rfl) hc rfl (λ j hj=>?_) (λ j hj b hb=>?_) (λ j hj j' hj' b hb hb'=>?_)
  ·simp only [μ',hj,if_false]
  ·simp [μ',hj] at hb
  ·simp [μ',hj] at hb
 have htok:∀ j o,(j,o)∈(zu tg z site nt).2→zf (ze σ δ) j=some o∧μ' j=⟨none,0,0,0⟩:=by
  intro j o hj;rw [hδ] at hj;refine ⟨x3 hnd hj,?_⟩;have:j∈δ.map (·.1):=List.mem_map.2 ⟨_,hj,rfl⟩;simp only [μ',this,if_true]
 have hcells:=zc3 (w':=w) tg nt zv.cells.toList z site hfit htok;obtain ⟨cs',k1,k2,k3⟩:=zlt (places:=placeOf cx.P t) (w:=w) (σ:=ze σ δ) (μ:=μ') [] [] zv.cells (zu tg z site nt).1 (zu tg z site nt).1 rfl (λ k i v i' v' h=>by simp at h) hcells hone rfl
 have:=ze1 hk hti hzv k1;refine ⟨.agg cs',μ',run_build w t _ cs' (by simpa using this),hu,λ j hj o' ho'=>?_,zdr k3 k2⟩
 obtain ⟨⟨j',q⟩,hm,rfl⟩:=List.mem_map.1 hj;rw [x3 hnd hm] at ho';cases ho';rw [←hδ] at hm;have:=zaz tg nt z _ j' o' hm;subst this;intro b hb;rw [(htok j' _ hm).2] at hb;cases hb
end
def ye(l:List D):List D:=l.flatMap D.cells
theorem y5{sz:Nat}:∀ (l:List D),(∀ y∈l,y.cells.length=sz)→(ye l).length=l.length * sz
 | [],_=>by simp [ye]
 | x::l,h=>by
  have:=y5 l λ y hy=>h y (p0 _ hy);simp only [ye,List.flatMap_cons,pj] at this ⊢;rw [this,h x py,p7,Nat.add_mul,Nat.one_mul,Nat.add_comm]
theorem zgc{sz:Nat}:∀ (l:List D) (i j:Nat) (y:D) (c:D),(∀ y∈l,y.cells.length=sz)→l[i]?=some y→y.cells[j]?=some c→(ye l)[i * sz+j]?=some c
 | [],i,j,y,c,_,hy,_=>by simp at hy
 | x::l,i,j,y,c,h,hy,hc=>by
  have hx:=h x py;simp only [ye,List.flatMap_cons];have hjl:=(pr.1 hc).1;cases i with
  | zero=>
   simp at hy;subst hy;rw [Nat.zero_mul,Nat.zero_add,List.getElem?_append_left hjl];exact hc
  | succ i=>
   have ih:=zgc l i j y c (λ y hy=>h y (p0 _ hy)) (by simpa using hy) hc
   rw [List.getElem?_append_right (by rw [hx,Nat.add_mul]; omega),hx]
   have:(i+1) * sz+j - sz=i * sz+j:=by rw [Nat.add_mul]; omega
   rw [this];exact ih
section
variable {cx:Cx} {w w':World} {σ:St} {μ μ':Mu}
theorem RD.ofRow{own:Own}{b o n cap sz:Nat}{l:List D}{cs:Array Value}{el:TypeId}{fr:Nat×Nat}(hh:w.heap[b]?=some (.cells cs el fr))(hn:n=l.length)(hcap:n≤cap)
  (hsz:∀ y∈l,y.cells.length=sz) (hr:∀ k c,(ye l)[k]?=some c→∃ x,cs[o+k]?=some x∧RD w own x c∧x.oneCell'=true) (ho:∀ k,k<n * sz→¬ own b (o+k)) :
  RD w own (.slice (some ⟨b,o,none⟩) n cap) (.sl sz l):=by
 have hfl:=y5 l hsz;refine .sl b o n cap sz l (λ k=>(cs[o+k]?).getD undef) hn hcap hsz (λ k hk=>?_) λ i j y c hy hc=>?_
 ·have:k<(ye l).length:=by rw [hfl,←hn]; exact hk
  obtain ⟨c,hc⟩:=yo this;obtain ⟨x,hx,_,h1⟩:=hr k c hc;rw [cell_of_heap hh,hx];exact ⟨rfl,ho k hk,h1⟩
 ·have:=zgc l i j y c hsz hy hc;obtain ⟨x,hx,h1,_⟩:=hr _ c this;rw [hx];exact h1
theorem RD.toRow{own:Own}{v:Value}{sz:Nat}{l:List D}(h:RD w own v (.sl sz l)) :
  ∃ base cap,v=.slice base l.length cap∧(l ≠ []→l.length≤cap)∧(l ≠ []→∀ y∈l,y.cells.length=sz) ∧
   ∃ xs:List Value,xs.length=l.length * sz∧(∀ x∈xs,x.oneCell'=true)∧RDs w own xs (ye l)∧(l ≠ []→∃ b o,base=some ⟨b,o,none⟩∧∀ (k:Nat) x,xs[k]?=some x→w.cell? ⟨b,o+k,none⟩=some x∧¬ own b (o+k)):=by
 cases h with
 | sl0 base cap _=>exact ⟨base,cap,rfl,by simp,by simp,[],by simp,by simp,⟨rfl,by simp⟩,by simp⟩
 | sl b o n cap _ _ xs hn hcap hsz hc h=>
  subst hn;refine ⟨_,cap,rfl,λ _=>hcap,λ _=>hsz,(List.range (l.length * sz)).map xs,by simp,λ x hx=>?_,⟨?_,λ k x c hx hcc=>?_⟩,λ _=>⟨b,o,rfl,λ k x hx=>?_⟩⟩
  ·simp only [List.mem_map,List.mem_range] at hx;obtain ⟨k,hk,rfl⟩:=hx;exact (hc k hk).2.2
  ·rw [y5 l hsz]; simp
  ·have hk:k<l.length * sz:=by have:=(pr.1 hx).1; simpa using this
   have hx':xs k=x:=by simpa [hk] using hx
   subst hx'
   -- which element,which cell
   have hpos:0<sz:=by
    rcases Nat.eq_zero_or_pos sz with h0 | h0
    ·subst h0; simp at hk
    ·exact h0
   have hi:k / sz<l.length:=Nat.div_lt_of_lt_mul (by rw [Nat.mul_comm]; exact hk)
   obtain ⟨y,hy⟩:=yo hi;have hj:k % sz<y.cells.length:=by rw [hsz y (pz hy)]; exact Nat.mod_lt _ hpos
   obtain ⟨c',hc'⟩:=yo hj;have e:k / sz * sz+k % sz=k:=by rw [Nat.mul_comm]; exact Nat.div_add_mod k sz
   have h1:=zgc l _ _ y c' hsz hy hc';rw [e,hcc] at h1;cases h1;have:=h _ _ y c hy hc';rw [e] at this;exact this
  ·have hk:k<l.length * sz:=by have:=(pr.1 hx).1; simpa using this
   have hx':xs k=x:=by simpa [hk] using hx
   subst hx';exact ⟨(hc k hk).1,(hc k hk).2.1⟩
theorem zjn{P:Program}{e:Nat}:∀ (ps:List (Nat×V)) (l out:List D) (ps':List (Nat×Value)) (cs:Array Value),
  ps.length=ps'.length→(∀ (k i:Nat) v i' v',ps[k]?=some (i,v)→ps'[k]?=some (i',v')→i=i'∧RV w σ μ v' v) →
  (∀ y∈l,y.cells.length=P.cellsOf e)→RDs w (zp σ μ) cs.toList (ye l)→(∀ x∈cs.toList,x.oneCell'=true)→za0 P e l ps=some out →
  ∃ cs',Instr.fill (λ i=>some (i * P.cellsOf e,P.cellsOf e)) cs ps'=some cs'∧RDs w (zp σ μ) cs'.toList (ye out)∧(∀ x∈cs'.toList,x.oneCell'=true)∧(∀ y∈out,y.cells.length=P.cellsOf e)∧out.length=l.length
 | [],l,out,ps',cs,hl,_,hz,hr,h1,h=>by
  simp only [za0,Option.some.injEq] at h;subst h;cases ps' with
  | nil=>exact ⟨cs,rfl,hr,h1,hz,rfl⟩
  | cons a b=>simp at hl
 | (i,v)::ps,l,out,[],cs,hl,_,hz,hr,h1,h=>by simp at hl
 | (i,v)::ps,l,out,(i',v')::ps',cs,hl,hp,hz,hr,h1,h=>by
  obtain ⟨rfl,hv⟩:=hp 0 i v i' v' rfl rfl;simp only [za0] at h;split at h
  ·rename_i x hx;cases hc:(Nat.beq x.cells.length (P.cellsOf e)&&Nat.blt i l.length)
   ·rw [hc] at h; cases h
   ·rw [hc,p5] at h;rw [pq] at hc;have hsz:x.cells.length=P.cellsOf e:=po hc.1;have hlt:i<l.length:=by simpa using hc.2
    have hxr:=zdw hv hx;have hvc:=V.cells_ok (RV.d v' x hxr);have hvd:RDs w (zp σ μ) v'.cells.toList x.cells:=by
     have:(V.d x).cells=x.cells.map .d:=by cases x <;> rfl
     rw [this] at hvc;exact hvc.rd
    have hone:=V.cells_one (RV.d v' x hxr) rfl;have hfl:=y5 l hz;have hcl:cs.size=l.length * P.cellsOf e:=by have:=hr.1; simp [hfl] at this; exact this
    have hz':v'.cells.size=P.cellsOf e:=by have:=hvd.1; simp at this; omega
    have hle:i * P.cellsOf e+P.cellsOf e≤l.length * P.cellsOf e:=by
     have:(i+1) * P.cellsOf e≤l.length * P.cellsOf e:=Nat.mul_le_mul_right _ hlt;rw [Nat.add_mul] at this; omega
    have hsplit:ye (l.set i x)=(ye l).take (i * P.cellsOf e)++x.cells++(ye l).drop (i * P.cellsOf e+P.cellsOf e):=by
     have key:∀ (l:List D) (i:Nat),i<l.length→(∀ y∈l,y.cells.length=P.cellsOf e) →
       ye (l.set i x)=(ye l).take (i * P.cellsOf e)++x.cells++(ye l).drop (i * P.cellsOf e+P.cellsOf e):=by
      intro l
      induction l with
      | nil=>intro i hi _; simp at hi
      | cons y l ih=>
       intro i hi hz;have hy:=hz y py;cases i with
       | zero=>simp [ye,←hy]
       | succ i=>
        have:=ih i (by simpa using hi) λ y hy=>hz y (p0 _ hy)
        simp only [List.set_cons_succ,ye,List.flatMap_cons] at this ⊢;rw [this];have e1:(i+1) * P.cellsOf e=y.cells.length+i * P.cellsOf e:=by rw [Nat.add_mul,hy]; omega
        rw [e1,Nat.add_assoc,List.take_length_add_append,List.drop_length_add_append];simp
     exact key l i hlt hz
    have hfold:(v'.cells.zipIdx.foldl (λ cs (c,j)=>cs.setIfInBounds (i * P.cellsOf e+j) c) cs).toList=cs.toList.take (i * P.cellsOf e)++v'.cells.toList++cs.toList.drop (i * P.cellsOf e+P.cellsOf e):=by
     have:=zpu (i * P.cellsOf e) v'.cells.toList 0 cs (by simp [hz',hcl]; exact hle)
     simp only [Nat.add_zero,Array.length_toList,hz'] at this;rw [←this,←Array.toList_zipIdx,Array.foldl_toList]
    have hzset:∀ y∈l.set i x,y.cells.length=P.cellsOf e:=by
     intro y hy;rcases List.mem_or_eq_of_mem_set hy with hy | rfl
     ·exact hz y hy
     ·exact hsz
    obtain ⟨cs',h2,h3,h4,h5,h6⟩:=zjn ps (l.set i x) out ps' (v'.cells.zipIdx.foldl (λ cs (c,j)=>cs.setIfInBounds (i * P.cellsOf e+j) c) cs) (by simpa using hl)
     (λ k i v i' v' ha hb=>hp (k+1) i v i' v' (by simpa using ha) (by simpa using hb)) hzset
     (by
      rw [hfold,hsplit];have a1:=((hr.rv.take (i * P.cellsOf e)).append hvd.rv).append (hr.rv.drop (i * P.cellsOf e+P.cellsOf e));have a2:RVs w σ μ (cs.toList.take (i * P.cellsOf e)++v'.cells.toList++cs.toList.drop (i * P.cellsOf e+P.cellsOf e)) (((ye l).take (i * P.cellsOf e)++x.cells++(ye l).drop (i * P.cellsOf e+P.cellsOf e)).map .d):=by
       simpa [List.map_append,List.map_take,List.map_drop] using a1
      exact a2.rd)
     (by
      rw [hfold];intro y hy;simp only [List.mem_append] at hy;rcases hy with (hy | hy) | hy
      ·exact h1 y (List.mem_of_mem_take hy)
      ·exact hone y hy
      ·exact h1 y (List.mem_of_mem_drop hy)) h
    refine ⟨cs',?_,h3,h4,h5,by simpa using h6⟩
    simp only [Instr.fill];rw [if_neg (by simp [hz',hcl]; omega)]
    exact h2
  ·cases h
theorem zfv{t e n:Nat}{a:Act}{fr:Fr}{ps:Array (Nat×Operand)}{z xs:List D}{l:List (Nat×V)}(hf:FR w σ μ a.tmps fr)
  (hu:cx.P.underlying t=some (.slice e)) (hz:zeroOf cx.P e=some z) (hl:zh0 cx.P fr t ps.toList=some l) (hx:za0 cx.P e (List.replicate n (wn cx.P e z)) l=some xs)
  (hn:n≤4096) (hs:cx.P.cellsOf e≤4096) (hs0:cx.P.cellsOf e ≠ 0) :
  ∃ cs':Array Value,(Instr.buildSlice t n (ps.map λ (i,x)=>(i,a.eval x))).run cx.P w=.ok (.slice (some ⟨w.heap.size,0,none⟩) n n) (w.alloc (.cells cs' e)) ∧
   RDs w (zp σ μ) cs'.toList (ye xs)∧(∀ x∈cs'.toList,x.oneCell'=true)∧(∀ y∈xs,y.cells.length=cx.P.cellsOf e)∧xs.length=n∧cs'.size=n * cx.P.cellsOf e:=by
 obtain ⟨i,zv,hti,hzv,hty,ha,hr,hone,hlen,hfit⟩:=x8 (w:=w) hz;obtain ⟨g1,g2⟩:=zpd hf ps.toList l hl;have hzc:zv.cells.size=cx.P.cellsOf e:=by have:=(hr (zp σ μ)).1; simp at this; omega
 have hmz:(wn cx.P e z).cells=z:=by
  unfold wn;rw [←ha];cases zv with
  | agg cs=>rfl
  | _=>
   simp only [zsb,p6];have:=(hr (zp σ μ)).1;simp only [Value.cells] at this
   match z,this with
   | [x],_=>
    have h1:=hone _ py;have h2:=(hr (zp σ μ)).2 0 _ x rfl rfl;cases h2 <;> first | rfl | (simp [Value.oneCell',Value.cells] at h1)
 have hflat:ye (List.replicate n (wn cx.P e z))=(List.replicate n z).flatten:=by
  unfold ye;rw [List.flatMap_def,List.map_replicate,hmz]
 -- the zero cells
 let cs0:Array Value:=(Array.range (n * cx.P.cellsOf e)).map λ j=>zv.cells[j % zv.cells.size]!
 have hcs0:cs0.toList=(List.replicate n zv.cells.toList).flatten:=by
  apply List.ext_getElem?;intro k;have hl1:(List.replicate n zv.cells.toList).flatten.length=n * cx.P.cellsOf e:=by simp [hzc]
  by_cases hk:k<n * cx.P.cellsOf e
  ·have h1:cs0.toList[k]?=some zv.cells[k % zv.cells.size]!:=by simp [cs0,hk]
   have hmod:k % zv.cells.size<zv.cells.size:=Nat.mod_lt _ (by omega)
   rw [h1];have key:∀ (n k:Nat),k<n * zv.cells.size→(List.replicate n zv.cells.toList).flatten[k]?=some zv.cells[k % zv.cells.size]!:=by
    intro n
    induction n with
    | zero=>intro k hk; simp at hk
    | succ n ih=>
     intro k hk;rw [List.replicate_succ,List.flatten_cons];by_cases h:k<zv.cells.size
     ·rw [List.getElem?_append_left (by simpa using h),Nat.mod_eq_of_lt h]
      simp [h,getElem!_pos]
     ·have hk':k - zv.cells.size<n * zv.cells.size:=by rw [Nat.add_mul] at hk; omega
      rw [List.getElem?_append_right (by simp; omega)]
      have:=ih (k - zv.cells.size) hk';have e:(k - zv.cells.size) % zv.cells.size=k % zv.cells.size:=(Nat.mod_eq_sub_mod (by omega)).symm
      rw [e] at this;simpa using this
   exact (key n k (by rw [hzc]; exact hk)).symm
  ·rw [List.getElem?_eq_none (by simp [cs0]; omega),List.getElem?_eq_none (by omega)]
 have hrel:RDs w (zp σ μ) cs0.toList (ye (List.replicate n (wn cx.P e z))):=by
  rw [hcs0,hflat];have:∀ n,RVs w σ μ (List.replicate n zv.cells.toList).flatten ((List.replicate n z).flatten.map .d):=by
   intro n
   induction n with
   | zero=>exact ⟨rfl,by simp⟩
   | succ n ih=>simpa [List.replicate_succ] using ((hr (zp σ μ)).rv).append ih
  exact (this n).rd
 have hone0:∀ x∈cs0.toList,x.oneCell'=true:=by
  rw [hcs0];intro x hx;simp only [List.mem_flatten,List.mem_replicate] at hx;obtain ⟨q,⟨_,rfl⟩,hx⟩:=hx;exact hone x hx
 obtain ⟨cs',k1,k2,k3,k4,k5⟩:=zjn l (List.replicate n (wn cx.P e z)) xs ((ps.toList).map λ (i,x)=>(i,a.eval x)) cs0 (by simp [g1]) g2
  (λ y hy=>by rw [List.eq_of_mem_replicate hy,hmz,hlen]) hrel hone0 hx
 have hcl:cs'.size=n * cx.P.cellsOf e:=by
  have:=k2.1;rw [y5 xs k4,k5] at this;simpa using this
 refine ⟨cs',?_,k2,k3,k4,by simpa using k5,hcl⟩
 ·have hbig : ¬ n * cx.P.cellsOf e > 2 ^ 24:=by
   have:n * cx.P.cellsOf e≤4096 * 4096:=Nat.mul_le_mul hn hs;omega
  have k1':Instr.fill (λ i=>some (i * cx.P.cellsOf e,cx.P.cellsOf e)) cs0 (List.map (λ x=>(x.fst,a.eval x.snd)) ps.toList)=some cs':=k1;unfold Instr.buildSlice;by_cases h0:n * cx.P.cellsOf e=0
  ·have e0:cs0 = #[]:=by simp [cs0,h0]
   rw [e0] at k1';have e1:(Array.map (λ _:Nat=>(default:Value)) (Array.range 0)) = #[]:=Array.ext' (by simp)
   simp [run_underlying hu,wz hty,h0,newRow,e1,k1']
  ·have e0:(Array.map (λ x=>zv.cells[x % zv.cells.size]!) (Array.range (n * cx.P.cellsOf e)))=cs0:=rfl;simp only [Sem.run_bind,run_underlying hu,Result.andThen_ok,wz hty,Sem.run_ite,if_neg hbig,if_neg h0,zhs hti hzv,Sem.run_pure,e0];have k2':Instr.fill (λ i=>some (i * cx.P.cellsOf e,cx.P.cellsOf e)) cs0 (ps.map λ (i,x)=>(i,a.eval x)).toList=some cs':=by simpa using k1
   simp only [k2'];simp [newRow]
theorem zgu{t e n id:Nat}{a:Act}{fr:Fr}{ps:Array (Nat×Operand)}{z xs:List D}{l:List (Nat×V)}(hi:Inv cx w σ μ)(hf:FR w σ μ a.tmps fr)
  (hu:cx.P.underlying t=some (.slice e)) (hz:zeroOf cx.P e=some z) (hl:zh0 cx.P fr t ps.toList=some l) (hx:za0 cx.P e (List.replicate n (wn cx.P e z)) l=some xs)
  (hc:zf σ id=none) (hn:n≤4096) (hs:cx.P.cellsOf e≤4096) (hs0:cx.P.cellsOf e ≠ 0) :
  ∃ w' lo,(Instr.buildSlice t n (ps.map λ (i,x)=>(i,a.eval x))).run cx.P w=.ok (.slice (some ⟨w.heap.size,0,none⟩) n n) w' ∧
   Upd cx w σ μ w' (ze σ [(id,.tok n)]) (setMu μ id lo) [id] ∧
   (∀ j∈[id],∀ o',zf (ze σ [(id,.tok n)]) j=some o'→zay w' (ze σ [(id,.tok n)]) (setMu μ id lo) j o') ∧
   RV w' (ze σ [(id,.tok n)]) (setMu μ id lo) (.slice (some ⟨w.heap.size,0,none⟩) n n) (.sl (cx.P.cellsOf e) xs id):=by
 obtain ⟨cs',k0,k2,k3,k4,k5,hcl⟩:=zfv hf hu hz hl hx hn hs hs0;have hup:=zfy (cx:=cx) (w:=w) (μ:=μ) (ob:=.tok n) (o:=.cells cs' e) (f:=n * cx.P.cellsOf e) (e:=n * cx.P.cellsOf e) (el:=e) hc;refine ⟨w.alloc (.cells cs' e),⟨some w.heap.size,n * cx.P.cellsOf e,n * cx.P.cellsOf e,e⟩,k0,hup,λ j hj o' ho'=>?_,?_⟩
 ·simp at hj; subst hj;simp only [ze,zk,if_pos] at ho';cases ho';intro b hb;simp [setMu] at hb;subst hb;exact ⟨cs',e,(0,0),wj,by simp [setMu],by simp [setMu,hcl],.inl rfl⟩
 ·have hsm:szN (cx.P.cellsOf e)=cx.P.cellsOf e:=zit (by omega)
  refine RV.slm (n:=n) hsm ?_ (by simp [ze,zk]) (by simp [k5]) λ _=>zd3 hsm (by simp [setMu]) (by simp [setMu]) (by simp [setMu]) (Nat.le_refl _) (.inl (by omega))
  have hst:=hup.goes.stays' hi;refine RD.ofRow wj (by simp [k5]) (Nat.le_refl _) k4 (λ k c hk=>?_) λ k hk ho=>?_
  ·have hlt:k<cs'.toList.length:=by rw [k2.1]; exact (pr.1 hk).1
   obtain ⟨x,hx⟩:=yo hlt;exact ⟨x,by simpa using hx,(k2.2 k x c hx hk).stays hst,k3 x (pz hx)⟩
  ·rcases ho with hfr | ⟨j,o,hj,hown⟩
   ·exact absurd (hi.frLt _ _ hfr) (by omega)
   by_cases hjid:j=id
   ·subst hjid;simp only [ze,zk,if_pos] at hj;cases hj;have:=hown.2;simp [setMu] at this;omega
   ·have hg:zf σ j=some o:=by simpa [ze,zk,Ne.symm hjid] using hj
    have:owns μ j o w.heap.size (0+k):=(x2 (by simp [setMu,hjid]) o _ _).1 hown
    exact absurd (zb6 hi hg this) (by omega)
theorem zp8{t e n id:Nat}{a:Act}{fr:Fr}{ps:Array (Nat×Operand)}{z xs:List D}{l:List (Nat×V)}(hi:Inv cx w σ μ)(hf:FR w σ μ a.tmps fr)
  (hu:cx.P.underlying t=some (.slice e)) (hz:zeroOf cx.P e=some z) (hl:zh0 cx.P fr t ps.toList=some l) (hx:za0 cx.P e (List.replicate n (wn cx.P e z)) l=some xs)
  (hc:zf σ id=none) (hn:n≤4096) (hs:cx.P.cellsOf e≤4096) (hs0:cx.P.cellsOf e ≠ 0) :
  ∃ w',(Instr.buildSlice t n (ps.map λ (i,x)=>(i,a.eval x))).run cx.P w=.ok (.slice (some ⟨w.heap.size,0,none⟩) n n) w' ∧
   Upd cx w σ μ w' σ μ []∧RV w' σ μ (.slice (some ⟨w.heap.size,0,none⟩) n n) (.d (.sl (cx.P.cellsOf e) xs)):=by
 obtain ⟨w',lo,h1,hup,_,hrv⟩:=zgu hi hf hu hz hl hx hc hn hs hs0;refine ⟨w',h1,?_,.d _ _ ?_⟩
 ·refine ⟨hup.os,hup.output,hup.size,λ b hb _=>hup.blk b hb λ i hi o ho=>?_,λ b i x _ h=>hup.cell b i x (λ i hi o ho=>?_) h,rfl,λ _ _=>⟨rfl,rfl⟩,λ _ h=>by simp at h,λ _ h=>by simp at h,λ _ h=>by simp at h⟩
  all_goals (simp at hi; subst hi; rw [hc] at ho; cases ho)
 ·have key:∀ b i,zp σ μ b i→zp (ze σ [(id,.tok n)]) (setMu μ id lo) b i:=λ b i h=>by
   rcases h with h | ⟨j,o,hj,ho⟩
   ·exact .inl (by rw [hup.fr]; exact h)
   ·have hne:j ∉ [id]:=λ hm=>by simp at hm; subst hm; rw [hc] at hj; cases hj
    obtain ⟨g1,g2⟩:=hup.same j hne;exact .inr ⟨j,o,g1.trans hj,(x2 g2 o b i).2 ho⟩
  cases hrv with
  | sl _ _ _ _ _ h=>rw [zit (show cx.P.cellsOf e<1048576 by omega)] at h; exact h.stays ⟨λ b i x h hc=>⟨hc,λ ho=>h (key b i ho)⟩,λ r es clock h hm=>⟨hm,λ ho=>h (key r 0 ho)⟩⟩
end
section
variable {R:Type} {cx:Cx} {w w':World} {σ:St} {μ μ':Mu}
theorem setRow_other(g b:Nat)(cs:Array Value)(h:b ≠ g):(w.setRow g cs).heap[b]?=w.heap[b]?:=by
 unfold World.setRow;rw [Array.getElem?_modify];simp [Ne.symm h]
theorem setRow_size(g:Nat)(cs:Array Value):(w.setRow g cs).heap.size=w.heap.size:=by simp [World.setRow]
theorem zg1{id b:Nat}{o o':Ob}(ho:zf σ id=some o)(hb:(μ id).blk=some b)(hown:∀ b' i,owns μ id o b' i↔b'=b)(hown':∀ b' i,owns μ id o' b' i↔b'=b)
  (hos:w'.os=w.os) (hout:w'.output=w.output) (hsize:w'.heap.size=w.heap.size) (hheap:∀ b',b' ≠ b→w'.heap[b']?=w.heap[b']?) (hst:yx μ id o μ (some o')) :
  Upd cx w σ μ w' (ze σ [(id,o')]) μ [id] where
 os:=hos
 output:=hout
 size:=by omega
 blk:=λ b' _ hn=>hheap b' λ e=>hn id (by simp) o ho 0 ((hown b' 0).2 e)
 cell:=λ b' i x hn hc=>by
  have hne:b' ≠ b:=λ e=>hn id (by simp) o ho ((hown b' i).2 e)
  unfold World.cell? at hc ⊢;simp only at hc ⊢;rw [hheap b' hne];exact hc
 fr:=rfl
 same:=λ j hj=>by
  have:id ≠ j:=λ e=>hj (by simp [e])
  exact ⟨by simp [ze,zk,this],rfl⟩
 own:=λ j hj q hq b' i hown2 hlt=>by
  simp at hj; subst hj;simp only [ze,zk,if_pos] at hq;cases hq;exact ⟨o,ho,(hown b' i).2 ((hown' b' i).1 hown2)⟩
 still:=λ j hj q hq=>by
  simp at hj; subst hj;rw [ho] at hq; cases hq;simpa [ze,zk] using hst
 apart:=λ j hj j' hj' _ _ _ _ _ _ _ _ _=>by simp at hj hj'; rw [hj,hj']
theorem zbx{id b:Nat}(hb:(μ id).blk=some b)(n:Nat)(v:V)(b' i:Nat):owns μ id (.val n v) b' i↔b'=b:=by
 simp [owns,hb,eq_comm]
theorem zhy{id b:Nat}(hb:(μ id).blk=some b)(l:List D)(b' i:Nat):owns μ id (.row l) b' i↔b'=b:=by
 simp [owns,hb,eq_comm]
theorem zhz{id b:Nat}(hb:(μ id).blk=some b)(ks vs:List D)(b' i:Nat):owns μ id (.map ks vs) b' i↔b'=b:=by
 simp [owns,hb,eq_comm]
theorem zc5{P:Program}{t b o:Nat}{el:TypeId}{cs:Array Value}{v:Value}{d:TypeDesc}(hd:P.underlying t=some d)(hn:v.cells.size=P.cellsOf t)
  (hh:w.heap[b]?=some (.cells cs el (0,0))) (hle:o+v.cells.size≤cs.size) (h1:∀ x∈v.cells.toList,x.oneCell'=true) :
  (Instr.storeAt t (.pointer (some ⟨b,o,none⟩)) v).run P w=.ok () (w.setRow b (cs.toList.take o++v.cells.toList++cs.toList.drop (o+v.cells.size)).toArray):=by
 unfold Instr.storeAt Instr.sureAddr storeVar;have:=run_storeCells_at P b o el v.cells.toList 0 cs w hh (by simpa using hle) h1
 simp [run_sizeOf hd,hn];simpa [hn] using this
theorem ziv{t:Nat}{p v:V}{p' v':Value}{K:De→List Nat→Option R}{r:R}(hi:Inv cx w σ μ)(hp:RV w σ μ p' p)(hv:RV w σ μ v' v)(h:qi cx σ t p v K=some r)(hty:qg cx.P t=true) :
  ∃ δ fp,K δ fp=some r∧∃ w' id,(Instr.storeAt t p' v').run cx.P w=.ok () w'∧Upd cx w σ μ w' (ze σ δ) μ [id] ∧
   ∀ j∈[id],∀ o',zf (ze σ δ) j=some o'→zay w' (ze σ δ) μ j o':=by
 obtain ⟨d,hd⟩:=qk hty;unfold qi at h;cases p with
 | ptr id off=>
  cases hp with | ptr _ _ b hc hb=>?_
  simp only at h;have hvc:=V.cells_ok hv;have hlen:v'.cells.size=v.cells.length:=by simpa using hvc.1
  split at h
  ·rename_i n u ho;obtain ⟨b',cs,el,hb',hh,hn,htup,h1,hr,htag⟩:=hi.ob id _ ho;obtain rfl:b=b':=by rw [hb] at hb'; exact Option.some.inj hb'
   cases hw:Nat.beq off 0&&Nat.beq (szN n) (cx.P.cellsOf t)
   ·rw [hw,p6] at h;obtain ⟨hg,hK⟩:=zd h;simp only [pq] at hg;obtain ⟨⟨⟨g1,g2⟩,g3⟩,g4⟩:=hg;have g1:v.tupV=false:=by simpa using g1
    have g2:v.cells.length=cx.P.cellsOf t:=po g2;have g3:off+cx.P.cellsOf t≤szN n:=p4 g3;have g4:u.cells.length=szN n:=po g4;have hone:=V.cells_one hv g1;refine ⟨_,_,hK,_,id,zc5 hd (by omega) hh (by omega) hone,?_,?_⟩
    ·exact zg1 ho hb (zbx hb _ _) (zbx hb _ _) rfl rfl (setRow_size _ _) (λ b' hb'=>setRow_other _ _ _ hb') (by simp [yx])
    ·intro j hj o' ho';simp at hj; subst hj;simp only [ze,zk,if_pos] at ho';cases ho'
     have hup:Upd cx w σ μ (w.setRow b (cs.toList.take off++v'.cells.toList++cs.toList.drop (off+v'.cells.size)).toArray) (ze σ [(j,Ob.val n (za4 (u.cells.take off++v.cells++u.cells.drop (off+cx.P.cellsOf t))))]) μ [j]:=
      zg1 ho hb (zbx hb _ _) (zbx hb _ _) rfl rfl (setRow_size _ _) (λ b' hb'=>setRow_other _ _ _ hb') (by simp [yx])
     have e:off+v'.cells.size=off+cx.P.cellsOf t:=by omega
     rw [e] at hup ⊢;have hs:=hup.goes.stays' hi;refine ⟨b,_,el,hb,setRow_heap w b cs _ el (0,0) hh,?_,zn0 _,λ x hx=>?_,?_,htag⟩
     ·simp; omega
     ·simp only [List.mem_append] at hx;rcases hx with (hx | hx) | hx
      ·exact h1 x (List.mem_of_mem_take hx)
      ·exact hone x hx
      ·exact h1 x (List.mem_of_mem_drop hx)
     ·rw [zc8];exact (((hr.take off).append hvc).append (hr.drop (off+cx.P.cellsOf t))).map λ x y _ hxy=>hxy.stays hs λ k _ o ho=>hup.stillAll k o ho
   ·rw [hw,p5] at h;rw [pq] at hw;obtain rfl:off=0:=po hw.1;have hnn:szN n=cx.P.cellsOf t:=po hw.2;obtain ⟨hg,hK⟩:=zd h;rw [pq] at hg;have g1:v.tupV=false:=by simpa using hg.1
    have g2:v.cells.length=szN n:=po hg.2;have hone:=V.cells_one hv g1;refine ⟨_,_,hK,_,id,zc5 hd (by omega) hh (by omega) hone,?_,?_⟩
    ·exact zg1 ho hb (zbx hb _ _) (zbx hb _ _) rfl rfl (setRow_size _ _) (λ b' hb'=>setRow_other _ _ _ hb') (by simp [yx])
    ·intro j hj o' ho';simp at hj; subst hj;simp only [ze,zk,if_pos] at ho';cases ho'
     have hup:Upd cx w σ μ (w.setRow b (cs.toList.take 0++v'.cells.toList++cs.toList.drop (0+v'.cells.size)).toArray) (ze σ [(j,Ob.val n v)]) μ [j]:=
      zg1 ho hb (zbx hb _ _) (zbx hb _ _) rfl rfl (setRow_size _ _) (λ b' hb'=>setRow_other _ _ _ hb') (by simp [yx])
     have e:cs.toList.take 0++v'.cells.toList++cs.toList.drop (0+v'.cells.size)=v'.cells.toList:=by
      rw [List.drop_eq_nil_of_le (by simp; omega)]; simp
     rw [e] at hup ⊢;have hs:=hup.goes.stays' hi;refine ⟨b,_,el,hb,setRow_heap w b cs _ el (0,0) hh,?_,g1,λ x hx=>?_,?_,htag⟩
     ·simp; omega
     ·exact hone x hx
     ·exact hvc.map λ x y _ hxy=>hxy.stays hs λ k _ o ho=>hup.stillAll k o ho
  ·cases h
 | wptr id sz k i off=>
  cases hp with | wptr _ _ _ _ _ a l' hl' hk he=>?_
  simp only at h;have hvc:=V.cells_ok hv;split at h
  ·rename_i l ho;obtain rfl:l'=l:=by rw [ho] at hl'; cases hl'; rfl
   obtain ⟨hg,hh1⟩:=zd h;clear h;simp only [pq] at hg;obtain ⟨⟨g1,g2⟩,g3⟩:=hg;obtain rfl:off=0:=po g2;have g3:sz=cx.P.cellsOf t:=po g3;obtain ⟨y,hy,hh2⟩:=zb hh1;obtain ⟨hg,hK⟩:=zd hh2;rw [pq] at hg;have g4:y.cells.length=sz:=po hg.1;have g5:v.tupV=false:=by simpa using hg.2
   have hkl:=po g1;obtain ⟨hik,b,rfl,hb,hf⟩:=he hkl;obtain ⟨cs,el,hh,h1,h2,h3,h4,h5⟩:=hi.ob id _ ho b hb;have hrd:=zdw hv hy;have hyc:=V.cells_ok (RV.d _ _ hrd:RV w σ μ v' (.d y));have hyc:RDs w (zp σ μ) v'.cells.toList y.cells:=by
    have e:(V.d y).cells=y.cells.map .d:=by cases y <;> rfl
    rw [e] at hyc;exact hyc.rd
   have hlen:v'.cells.size=sz:=by have:=hyc.1; simp at this; omega
   have hone:=V.cells_one hv g5;have hil:i<l'.length:=by omega
   have hmul:(i+1) * sz≤l'.length * sz:=Nat.mul_le_mul_right _ (by omega)
   rw [Nat.add_mul,Nat.one_mul] at hmul;rw [hf] at h2 h4 h5
   have hup:Upd cx w σ μ (w.setRow b (cs.toList.take (i * sz)++v'.cells.toList++cs.toList.drop (i * sz+v'.cells.size)).toArray) (ze σ [(id,Ob.row (l'.set i y))]) μ [id]:=
    zg1 ho hb (zhy hb _) (zhy hb _) rfl rfl (setRow_size _ _) (λ b' hb'=>setRow_other _ _ _ hb') (by simp [yx])
   have hs:=hup.goes.stays' hi;refine ⟨_,_,hK,w.setRow b (cs.toList.take (i * sz)++v'.cells.toList++cs.toList.drop (i * sz+v'.cells.size)).toArray,id,zc5 (o:=i * sz) hd (by omega) hh (by omega) hone,hup,?_⟩
   intro j hj o' ho';simp at hj; subst hj;simp only [ze,zk,if_pos] at ho';cases ho';intro b' hb';rw [hb] at hb'; cases hb';rw [hf];have htl:(cs.toList.take (i * sz)).length=i * sz:=by simp; omega
   refine ⟨_,el,setRow_heap w b cs _ el (0,0) hh,?_,?_,λ x hx=>?_,λ x hx=>?_,λ p q x c hx hc=>?_⟩
   ·simp; omega
   ·simp; omega
   ·simp only [List.mem_append] at hx;rcases hx with (hx | hx) | hx
    ·exact h3 x (List.mem_of_mem_take hx)
    ·exact hone x hx
    ·exact h3 x (List.mem_of_mem_drop hx)
   ·rcases List.mem_or_eq_of_mem_set hx with hx | rfl
    ·exact h4 x hx
    ·exact g4
   ·simp only [List.getElem?_toArray];by_cases hpi:p=i
    ·subst hpi;have:x=y:=by simpa [hil] using hx.symm
     subst this;have hq:q<sz:=by have:=(pr.1 hc).1; omega
     obtain ⟨v,hv'⟩:=yo (l:=v'.cells.toList) (i:=q) (by simp; omega)
     refine ⟨v,?_,(hyc.2 q v c hv' hc).stays hs⟩;rw [List.append_assoc,List.getElem?_append_right (by omega),List.getElem?_append_left (by simp; omega),←hv']
     congr 1; omega
    ·have hx':l'[p]?=some x:=by rw [List.getElem?_set_ne (Ne.symm hpi)] at hx; exact hx
     obtain ⟨v,hv',hvc'⟩:=h5 p q x c hx' hc;refine ⟨v,?_,hvc'.stays hs⟩;have hq:q<sz:=by have:=(pr.1 hc).1; have:=h4 x (pz hx'); omega
     have hv2:cs.toList[p * sz+q]?=some v:=by simpa using hv'
     rw [←hv2];rcases Nat.lt_or_gt_of_ne hpi with hlt | hgt
     ·have:(p+1) * sz≤i * sz:=Nat.mul_le_mul_right _ hlt;rw [Nat.add_mul,Nat.one_mul] at this;rw [List.append_assoc,List.getElem?_append_left (by omega),List.getElem?_take,if_pos (by omega)]
     ·have:(i+1) * sz≤p * sz:=Nat.mul_le_mul_right _ hgt;rw [Nat.add_mul,Nat.one_mul] at this;rw [List.getElem?_append_right (by simp; omega),List.getElem?_drop]
      congr 1;simp only [pj,htl,Array.length_toList];omega
  ·cases h
 | _=>cases h
theorem zs0{t id:Nat}(hf:zf σ id=none) :
  ∃ w',(Instr.makeMap t none).run cx.P w=.ok (.map (some w.heap.size)) w'∧Upd cx w σ μ w' (ze σ [(id,.map [] [])]) (setMu μ id ⟨some w.heap.size,0,0,0⟩) [id] ∧
   (∀ j∈[id],∀ o',zf (ze σ [(id,.map [] [])]) j=some o'→zay w' (ze σ [(id,.map [] [])]) (setMu μ id ⟨some w.heap.size,0,0,0⟩) j o') ∧
   RV w' (ze σ [(id,.map [] [])]) (setMu μ id ⟨some w.heap.size,0,0,0⟩) (.map (some w.heap.size)) (.map id):=by
 refine ⟨w.alloc (.map #[] 0),by simp [Instr.makeMap],zfy hf,λ j hj o' ho'=>?_,?_⟩
 ·simp at hj; subst hj;simp only [ze,zk,if_pos] at ho';cases ho';exact ⟨w.heap.size,#[],0,by simp [setMu],wj,⟨rfl,by simp⟩,⟨rfl,by simp⟩⟩
 ·exact .map id w.heap.size [] [] (by simp [ze,zk]) (by simp [setMu])
end
end Go.Vai
end

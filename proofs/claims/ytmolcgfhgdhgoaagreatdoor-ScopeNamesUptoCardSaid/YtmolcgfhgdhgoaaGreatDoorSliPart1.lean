/-
  The library's functions that are taken as one step: what they do. To: Tree: what the reader's small functions answer, shown.
-/
import Derived.Test.YtmolcgfhgdhgoaaGreatDoorVaiPart6
import Derived.Lib.Join
import Derived.Lib.TrailingZeros
import Derived.RangeFuncBox
import Derived.RangeFuncLeaves
import Derived.RangeFuncNested
import Derived.RangeFuncWrites
import Derived.OwnWalkIn
import Derived.Shelf.Spec.TrailingZeros
import Derived.Test.YtmolcgfhgdhgoaaGreatDoorProg
import Derived.KernelRfl
import Derived.Shelf.Abstract
import Derived.WalkKit
import Derived.TacticsInMore
import Derived.LoopNIn
import Derived.LoopIn
import Derived.Maps.AppendAt
import Derived.Test.YtmolcgfhgdhgoaaGreatDoorCards
import Derived.Test.YtmolcgfhgdhgoaaGreatDoorTie
import Derived.IntWalk
set_option linter.all false
noncomputable section
namespace Go.Vai
def zo0(b:UInt8):D:=.int .u8 b.toNat
def zmh:List D→Option (List UInt8)
 | []=>some []
 | .int .u8 n::r=>bif decide (((UInt8.ofNat n.toNat).toNat:Int)=n) then (match zmh r with | some l=>some (UInt8.ofNat n.toNat::l) | none=>none) else none
 | _=>none
theorem zmg:∀ (l:List D) (s:List UInt8),zmh l=some s→l=s.map zo0
 | [],s,h=>by simp [zmh] at h; subst h; rfl
 | x::r,s,h=>by
  unfold zmh at h;split at h
  ·rename_i he; cases he
  ·rename_i n q he;cases he;cases hd:decide (((UInt8.ofNat n.toNat).toNat:Int)=n) <;> rw [hd] at h
   ·cases h
   ·simp only [p5] at h;split at h
    ·rename_i l hl;cases h;have:=ph hd;rw [zmg r l hl,List.map_cons,zo0,this]
    ·cases h
  ·cases h
def z01:List V→Option Nat | [.ptr i 0]=>some i | _=>none
def zw6:Option Ob→Option (Nat×List D×Nat) | some (.val _ (.agg (_::.sl sz l id::_)))=>some (sz,l,id) | _=>none
def zw0:Option Ob→Option Nat | some (.tok k)=>some k | _=>none
theorem zu9{a:List V}{i:Nat}(h:z01 a=some i):a=[.ptr i 0]:=by
 unfold z01 at h;split at h
 ·cases h; rfl
 ·cases h
theorem zsi{o:Option Ob}{q:Nat×List D×Nat}(h:zw6 o=some q):∃ n p r,o=some (.val n (.agg (p::.sl q.1 q.2.1 q.2.2::r))):=by
 unfold zw6 at h;split at h
 ·cases h; exact ⟨_,_,_,rfl⟩
 ·cases h
theorem zse{o:Option Ob}{k:Nat}(h:zw0 o=some k):o=some (.tok k):=by
 unfold zw0 at h;split at h
 ·cases h; rfl
 ·cases h
def zst(args:List V)(σ:St):Option (Out×St):=
 za (z01 args) λ i=>za (zw6 (zf σ i)) λ q=>za (zw0 (zf σ q.2.2)) λ k=>
  zh (Nat.beq q.1 6291457&&decide (k=q.2.1.length)&&decide (q.2.1.length≤4294967296)) (za (zmh q.2.1) λ s=>some (.ret (.d (.str s)),vx σ q.2.2 (.tok (k+1))))
def znm:List D→Option (List (List UInt8))
 | []=>some []
 | .str s::r=>(match znm r with | some l=>some (s::l) | none=>none)
 | _=>none
theorem ziu:∀ (l:List D) (s:List (List UInt8)),znm l=some s→l=s.map .str
 | [],s,h=>by simp [znm] at h; subst h; rfl
 | x::r,s,h=>by
  unfold znm at h;split at h
  ·rename_i he; cases he
  ·rename_i n q he;cases he;split at h
   ·rename_i l hl;cases h;rw [ziu r l hl,List.map_cons]
   ·cases h
  ·cases h
def zpj(args:List V)(σ:St):Option (Out×St):=
 match args with
 | [.d (.sl _ xs),.d (.str sep)]=>za (znm xs) λ l=>zh (decide (l.length≤140737488355328)&&decide ((Lib.join l sep).length≤140737488355328)) (some (.ret (.d (.str (Lib.join l sep))),σ))
 | _=>none
def zpr(x:Int):List Int→List Int
 | []=>[x]
 | y::r=>bif decide (x≤y) then x::y::r else y::zpr x r
def zdn:List Int→List Int
 | []=>[]
 | x::r=>zpr x (zdn r)
def zun:List D→Option (List Int)
 | []=>some []
 | .int .i64 n::r=>(match zun r with | some l=>some (n::l) | none=>none)
 | _=>none
def zph(args:List V)(σ:St):Option (Out×St):=
 match args with
 | [.slo i 1 k]=>(match zf σ i with
   | some (.row l)=>zh (Nat.beq k l.length&&decide (l.length≤4294967296)&&!l.isEmpty) (za (zun l) λ zs=>some (.ret (.tup []),vx σ i (.row ((zdn zs).map (.int .i64)))))
   | _=>none)
 | _=>none
def zla(args:List V)(σ:St):Option (Out×St):=
 match args with
 | [.d (.sl 1 l)]=>zh (decide (l.length≤4294967296)) (za (znm l) λ _=>some (.ret (.d (.sl 1 l)),σ))
 | _=>none
def zr7:Nat→Nat→Option (List Nat)
 | 0,s=>bif Nat.beq s 0 then some [] else none
 | k+1,s=>bif Nat.beq s 0 then some [] else za (zr7 k (Nat.land s (s - 1))) λ r=>some (Lib.ctz 32 s::r)
def zie:D:=.agg (Lib.deBruijn32tab.map λ x:Nat=>.int .u8 (x:Int))
def zpi(args:List V)(σ:St):Option (Out×St):=
 match args with
 | [.d (.int .u32 s)]=>zh (decide (0≤s)&&decide (s<4294967296)) (za (zr7 25 (Nat.land s.toNat 16777215)) λ l=>some (.ret (.d (.sl 1 (l.map λ x:Nat=>.int .i64 (x:Int)))),σ))
 | _=>none
def nat(f:Nat)(args:List V)(σ:St):Option (Out×St):=
 bif Nat.beq f 164 then zst args σ else bif Nat.beq f 192 then zpj args σ else bif Nat.beq f 49 then zph args σ else bif Nat.beq f 99 then zla args σ else bif Nat.beq f 234 then zpi args σ else none
end Go.Vai
end
section
namespace Go.Vai
open Go Go.RowKit
variable {F:Fence} {n:Nat} {P:Program}
def z5t{α:Type}(F:Fence)(n:Nat)(P:Program)(g:Nat)(lb:Array Value)(encs:α→Array Value)(Kp:World→World→Prop)(S:List α→Prop)(N:Nat)(w:World)(Bn:Nat):Prop:=
 ∀ (l:Nat) (J:List α→World→Prop) (W:World),Below w.heap.size w W→AbidesFrom W.heap.size J→(∀ pre W' v,J pre W'→J pre (W'.setCell ⟨Bn,0,none⟩ v)) →
  (∀ pre x W1,J pre W1→pre.length<N→YieldAt F (n - 1) P l (encs x) W1 λ e W'=>e=.returned (.bool true)∧J (pre++[x]) W'∧Kp W1 W') →
  J [] W →
  CallsIn F n P g (#[.func (.yield l) #[] #[]]++lb) W λ e W'=>(∃ v,e=.returned v)∧∃ xs,S xs∧J xs W'
theorem zsm{α:Type}{g:Operand}{ps:Array Tmp}{assign body:Code}{Q:Exit→Act→World→Prop}{a:Act}{w:World}
  (hro:F.round=none) (h1:1≤n) {gf:Nat} {lb:Array Value} (hg:a.eval g=.func (.func gf) #[] lb) (hFg:F.fn gf) (eg:∀ args w,(callFunc gf args).run P w=.ok (.enter gf args) w)
  {encs:α→Array Value} {Kp:World→World→Prop} {S:List α→Prop} {N:Nat} {w0:World} {Bn:Nat} (hBn:Bn<w.heap.size) (hseq:z5t F (n - 1) P gf lb encs Kp S N w0 Bn)
  (hKt:∀ {A B C:World},Kp A B→Kp B C→Kp A C) (hKb:∀ (W:World) (l:Nat) (o o':Obj),w.heap.size≤l→W.heap[l]?=some o→o.isCells=false→o.isWalk=false→Kp W (W.putObj l o')) (hb0:Below w0.heap.size w0 w) (hps:∀ x,(encs x).size=ps.size)
  (I:List α→World→Prop) (hI:OwnFrom w.heap.size I) (hIc:∀ pre W v,I pre W→I pre (W.setCell ⟨Bn,0,none⟩ v)) (h0:I [] w) (a₁:α→Act)
  (hassign:∀ (l:Nat) (x:α) (W:World) (K:Act→World→Prop),K (a₁ x) W →
   assign.wpIn (F.inRound l) (n - 1 - 1) P (Exit.then K (λ _ _ _=>False)) { tmps:=(ps.zip (encs x)).foldl (λ t (p,v)=>t.setIfInBounds p v) a.tmps,defers:=[] } W)
  (hbody:∀ (l:Nat) (pre:List α) (x:α) (W:World),I pre W→pre.length<N→body.wpIn (F.inRound l) (n - 1 - 1) P (ownPostG w.heap.size Kp I (λ _ _ _=>False) (pre++[x]) W) (a₁ x) W)
  (hdone:∀ (D:Nat) (xs:List α) (W:World),w.heap.size≤D→S xs→I xs W→W.heap[D]?=some (.deferred (some []))→Q .normal { a with defers:={ target:=.collected D,args:=#[] }::a.defers } W) :
  (Code.rangeFunc g ps assign body).wpIn F n P Q a w:=by
 refine wpIn_rangeFunc ?_;intro fn hfn;rw [hro]
 -- the loop's record,and the block of what is deferred
 obtain ⟨rec,hrec⟩:∃ rec:LoopState→Option Code→Loop,rec=λ st pe=>{ state:=st,pending:=pe,fn,tmps:=a.tmps,params:=ps,assign,body,defers:=w.heap.size }:=⟨_,rfl⟩;obtain ⟨W1,hW1⟩:∃ W1,(w.alloc (.deferred (some []))).alloc (.loop (rec .ready none))=W1:=⟨_,rfl⟩;have hL1:W1.heap[w.heap.size+1]?=some (.loop (rec .ready none)):=by
  rw [←hW1]; have:=World.alloc_heap_new (w.alloc (.deferred (some []))) (.loop (rec .ready none)); rwa [World.size_alloc] at this
 have hK1:W1.heap[w.heap.size]?=some (.deferred (some [])):=by
  rw [←hW1]; exact (Below.heap_alloc _ _ _ (by simp)).trans (World.alloc_heap_new w _)
 have hI1:I [] W1:=by rw [←hW1]; exact hI.alloc _ (hI.alloc _ h0)
 have hb1:Below w0.heap.size w0 W1:=by
  rw [←hW1]; exact hb0.trans ((((Below.refl _ w).alloc (Nat.le_refl _) _).alloc (by simp) _).mono hb0.size)
 refine ⟨w.heap.size+1,[{ target:=.collected w.heap.size,args:=#[] }],W1,{ target:=.fn (.func gf) lb,args:=#[.func (.yield (w.heap.size+1)) #[] #[]] },W1,gf,
  #[.func (.yield (w.heap.size+1)) #[] #[]]++lb,W1,?_,?_,?_,?_,λ _=>h1,?_⟩
 ·rw [←hW1,hrec]; exact run_enterLoop_outer _ _ _ _ _
 ·simp only [resolve,hg];simp [go_sem]
 ·intro f' hf'; simp [Target.leads] at hf'; subst hf'; exact hFg
 ·simp [invoke,go_sem,eg]
 ·have hsz:W1.heap.size=w.heap.size+2:=by rw [←hW1]; simp
  -- what holds between two rounds
  obtain ⟨J,hJ⟩:∃ J:List α→World→Prop,J=λ pre W=>I pre W∧W.heap[w.heap.size+1]?=some (.loop (rec .ready none))∧W.heap[w.heap.size]?=some (.deferred (some [])):=⟨_,rfl⟩;have abides:AbidesFrom W1.heap.size J:=λ s A B row hs hgr hr=>by
   rw [hJ] at hs ⊢;have hr2:∀ r,row=some r→∃ o:Obj,A.heap[r]?=some o∧o.isWalk=true:=λ r e=>(hr r e).2
   exact ⟨hI s A B row hs.1 hgr λ r e=>by obtain ⟨hB,o,ho,hw⟩:=hr r e; exact ⟨by omega,o,ho,Obj.not_cells_of_walk hw⟩,
    (grownBy_keeps hgr hr2 hs.2.1 rfl).trans hs.2.1,(grownBy_keeps hgr hr2 hs.2.2 rfl).trans hs.2.2⟩
  have writes:∀ pre W' v,J pre W'→J pre (W'.setCell ⟨Bn,0,none⟩ v):=λ pre W' v hs=>by
   rw [hJ] at hs ⊢;exact ⟨hIc _ _ _ hs.1,by rw [heap_setCell_other _ _ _ _ (by simp; omega)]; exact hs.2.1,by rw [heap_setCell_other _ _ _ _ (by simp; omega)]; exact hs.2.2⟩
  refine (hseq (w.heap.size+1) J W1 hb1 abides writes ?_ (by rw [hJ]; exact ⟨hI1,hL1,hK1⟩)).mono ?_
  ·-- a round
   intro pre x W hs hlen;rw [hJ] at hs;obtain ⟨hi,hl,hk⟩:=hs;have hlt:w.heap.size+1<W.heap.size:=(Array.getElem?_eq_some_iff.1 hl).1;have hy:=run_yield (P:=P) (args:=encs x) hl (by rw [hrec]; exact hps x)
   rw [hrec] at hy;refine ⟨fn,_,assign,body,hy,roundIn_of_wpIn hfn (hassign _ x W _ ⟨_,run_beginRound hl (by rw [hrec]),?_⟩)⟩
   have hl2:(W.putObj (w.heap.size+1) (.loop { rec .ready none with state:=.busy })).heap[w.heap.size+1]?=some (.loop { rec .ready none with state:=.busy }):=World.putObj_heap_same hlt;have hk2:(W.putObj (w.heap.size+1) (.loop { rec .ready none with state:=.busy })).heap[w.heap.size]?=some (.deferred (some [])):=(World.putObj_heap_other (by omega)).trans hk
   have hw2:Kp W (W.putObj (w.heap.size+1) (.loop { rec .ready none with state:=.busy })):=hKb _ _ _ _ (by omega) hl rfl rfl
   refine wpIn_mono (hbody _ pre x _ (hI.putObj _ hi (by omega) hl rfl) hlen) λ e a3 W3 hp=>?_
   cases e with
   | normal=>
    obtain ⟨hk3,hkp3,hi3⟩:=hp;have hl3:=hk3.same _ _ (by omega) hl2 rfl
    have hr:=run_endRound (P:=P) none hl3;rw [hrec] at hr;refine ⟨_,_,hr,rfl,?_,hKt (hKt hw2 hkp3) (hKb _ _ _ _ (by omega) hl3 rfl rfl)⟩
    rw [hJ];refine ⟨hI.putObj _ hi3 (by omega) hl3 rfl,?_,(World.putObj_heap_other (by omega)).trans (hk3.same _ _ (Nat.le_refl _) hk2 rfl)⟩
    rw [hrec];exact World.putObj_heap_same (Array.getElem?_eq_some_iff.1 hl3).1
   | ret=>exact hp.2.elim
   | exit id=>exact hp.2.elim
   | goto t=>exact hp.2.elim
   | panic ch=>exact hp.elim
   | outgrown=>exact hp.elim
  ·-- behind the iterator
   rintro e W2 ⟨⟨v,rfl⟩,xs,hS,hs⟩;rw [hJ] at hs;obtain ⟨hi,hl,hk⟩:=hs;have hend:=run_endLoop (P:=P) hl (by rw [hrec]; simp)
   rw [hrec] at hend;exact ⟨none,_,hend,hdone _ xs _ (Nat.le_refl _) hS (hI.putObj _ hi (by omega) hl rfl) ((World.putObj_heap_other (by omega)).trans hk)⟩
end Go.Vai
end
section
namespace Go.Proofs
open Go.Shelf
def Tryz.tz_ren:Go.Shelf.Ren:=⟨λ | 28=>249 | n=>n,λ | 25=>140 | 27=>78 | 53=>268 | n=>n,λ | 0=>4 | n=>n⟩
theorem Tryz.tz_lays:Go.Proofs.Lays7.n28 Tryz.prog Tryz.tz_ren where
  mixed:=by kernel_rfl
  f28:=Tryz.func249.trans (congrArg some (by kernel_rfl))
  t0:=Tryz.underlying0
  a0:=Tryz.isAgg0
  z0:=Tryz.sizeOf0
  v0:=Tryz.zeroValue0
  i0:=by kernel_rfl
  t3:=Tryz.underlying3
  a3:=Tryz.isAgg3
  z3:=Tryz.sizeOf3
  v3:=Tryz.zeroValue3
  i3:=by kernel_rfl
  t4:=Tryz.underlying4
  a4:=Tryz.isAgg4
  z4:=Tryz.sizeOf4
  v4:=Tryz.zeroValue4
  i4:=by kernel_rfl
  t5:=Tryz.underlying5
  a5:=Tryz.isAgg5
  z5:=Tryz.sizeOf5
  v5:=Tryz.zeroValue5
  i5:=by kernel_rfl
  t25:=Tryz.underlying140
  a25:=Tryz.isAgg140
  z25:=Tryz.sizeOf140
  v25:=Tryz.zeroValue140
  i25:=by kernel_rfl
  t27:=Tryz.underlying78
  a27:=Tryz.isAgg78
  z27:=Tryz.sizeOf78
  v27:=Tryz.zeroValue78
  i27:=by kernel_rfl
  t53:=Tryz.underlying268
  a53:=Tryz.isAgg268
  z53:=Tryz.sizeOf268
  v53:=Tryz.zeroValue268
  i53:=by kernel_rfl
  g0:=by kernel_rfl
theorem Tryz.tz32(x:Nat)(hx:x<4294967296)(w:World)(hT:x ≠ 0→TabAt 4 Lib.deBruijn32tab w):Calls Tryz.prog 249 #[.int .u32 x] w λ e w'=>e=.returned (.int .i64 (Lib.ctz 32 x))∧w'=w:=Any7.bits_TrailingZeros32 Tryz.tz_lays x hx w hT
end Go.Proofs
end
section
namespace Go.Proofs
open Go.RowKit Go.Shelf Go.Vai
attribute [local go_sem] Oper.semAt_some
theorem Tryz.tz_in(n x:Nat)(hx:x<4294967296)(w:World)(hT:x ≠ 0→TabAt 4 Lib.deBruijn32tab w):CallsIn Fence.wide n Tryz.prog 249 #[.int .u32 x] w λ e w'=>e=.returned (.int .i64 (Lib.ctz 32 x))∧w'=w:=
 callsIn_wide.mpr (Tryz.tz32 x hx w hT)
def q7(s:Nat):List Nat:=if h:s=0 then [] else Lib.ctz 32 s::q7 (s &&& (s - 1))
 termination_by s
 decreasing_by exact Nat.lt_of_le_of_lt Nat.and_le_right (by omega)
def zym(W:World)(b:Nat):Nat:=match W.cell? ⟨b,0,none⟩ with | some (.int _ n)=>n.toNat | _=>0
theorem zr4{W:World}{b:Nat}{k:IntKind}{s:Nat}(h:W.cell? ⟨b,0,none⟩=some (.int k (s:Int))):zym W b=s:=by unfold zym; rw [h]; simp
theorem TabAt.below{n₀:Nat}{A B:World}{tab:List Nat}{g:Nat}(h:Below n₀ A B)(hg:g<n₀)(hT:TabAt g tab A):TabAt g tab B:=λ j hj=>(h.cell (p:=⟨g,j,none⟩) hg).trans (hT j hj)
def KpB(n₀ Bn:Nat)(W W':World):Prop:=Below n₀ W W'∧∀ v,Boxed W Bn 78 v→Boxed W' Bn 78 v
set_option maxRecDepth 100000 in
set_option maxHeartbeats 1000000 in
theorem Tryz.in1_in(n:Nat)(hn:1≤n)(l Bn n₀:Nat)(h4:4<n₀)(hBn₀:n₀≤Bn)(s0:Nat)(hs0:s0<4294967296)(J:List Nat→World→Prop)
  (hJ:∀ pre W' v,J pre W'→J pre (W'.setCell ⟨Bn,0,none⟩ v))
  (hY:∀ pre (x:Nat) W1,J pre W1→pre.length<(q7 (s0 &&& 16777215)).length→YieldAt Fence.wide (n - 1) Tryz.prog l #[.int .i64 (x:Int)] W1 λ e W'=>e=.returned (.bool true)∧J (pre++[x]) W'∧KpB n₀ Bn W1 W')
  (W:World) (hT:TabAt 4 Lib.deBruijn32tab W) (hB:Boxed W Bn 78 (.int .u32 (s0:Int))) (h0:J [] W) :
  CallsIn Fence.wide n Tryz.prog 248 #[.func (.yield l) #[] #[],.pointer (some ⟨Bn,0,none⟩)] W λ e W'=>(∃ v,e=.returned v)∧∃ xs,xs=q7 (s0 &&& 16777215)∧J xs W':=by
 refine callsIn_of_wp Tryz.func248 rfl trivial ?_ rfl;simp only [Tryz.ntmps248,List.size_toArray,p7,p8,Nat.reduceAdd,Nat.reduceSub,Array.replicate_succ,Array.replicate_zero,List.push_toArray,List.append_toArray,List.nil_append,List.cons_append];have hc:=hB.cell;have hf:=hB.frozen
 gi_wp2
 gi_loopw [] (λ wr=>∃ (pre:List Nat) (s:Nat),s<4294967296∧q7 (s0 &&& 16777215)=pre++q7 s∧Boxed wr Bn 78 (.int .u32 (s:Int))∧TabAt 4 Lib.deBruijn32tab wr∧J pre wr)
  (λ wr=>zym wr Bn)
 case atStart=>
  refine ⟨[],s0 &&& 16777215,Nat.lt_of_le_of_lt Nat.and_le_left hs0,by simp,?_,?_,hJ _ _ _ h0⟩
  ·have e:=bits_and_u32_nat s0 16777215 hs0 (by decide)
   rw [show ((16777215:Nat):Int)=16777215 from rfl] at e;rw [e];exact hB.set _
  ·intro j hj;have e:∀ v,(W.setCell ⟨Bn,0,none⟩ v).cell? ⟨4,j,none⟩=W.cell? ⟨4,j,none⟩:=λ v=>World.cell?_setCell_other _ _ _ _ (by intro h; injection h; omega)
   rw [e]; exact hT j hj
 case round=>
  obtain ⟨pre,s,hs,hx,hBs,hTs,hJs⟩:=hrel;have hcs:=hBs.cell;have hfs:=hBs.frozen;by_cases h0s:s=0
  ·subst h0s
   gi_wp2
   go_end0
   exact ⟨⟨_,rfl⟩,pre,by rw [hx]; simp [q7],hJs⟩
  ·have h1:((s:Nat):Int) ≠ 0:=by omega
   have hb:q7 s=Lib.ctz 32 s::q7 (s &&& (s - 1)):=by rw [q7]; simp [h0s]
   obtain ⟨fn,tmps,assign,body,hy,hR⟩:=hY pre (Lib.ctz 32 s) wr hJs (by rw [hx,hb]; simp)
   gi_wp2_with first | (refine ⟨trivial,(Tryz.tz_in _ s hs _ λ _=>hTs).mono ?_⟩; rintro e w' ⟨rfl,rfl⟩) | (refine hR.mono ?_; rintro e W3 ⟨rfl,hJ3,hk3,hb3⟩; have hB3:=hb3 _ hBs; have hc3:=hB3.cell; have hf3:=hB3.frozen; have hT3:TabAt 4 Lib.deBruijn32tab W3:=TabAt.below hk3 h4 hTs)
   have e:bits .and .u32 ((s:Nat):Int) (((s:Nat):Int) - 1)=((s &&& (s - 1):Nat):Int):=by
    have h:=bits_and_u32_nat s (s - 1) hs (by omega)
    rwa [show ((s - 1:Nat):Int)=(s:Int) - 1 by omega] at h
   rw [e];have hlt:s &&& (s - 1)<s:=Nat.lt_of_le_of_lt Nat.and_le_right (by omega)
   refine ⟨⟨pre++[Lib.ctz 32 s],s &&& (s - 1),by omega,by rw [hx,hb]; simp,hB3.set _,?_,hJ _ _ _ hJ3⟩,?_⟩
   ·intro j hj;have e:∀ v,(W3.setCell ⟨Bn,0,none⟩ v).cell? ⟨4,j,none⟩=W3.cell? ⟨4,j,none⟩:=λ v=>World.cell?_setCell_other _ _ _ _ (by intro h; injection h; omega)
    rw [e]; exact hT3 j hj
   ·rw [zr4 (hB3.set _).cell,zr4 hcs]
    exact hlt
theorem Tryz.in_in(n:Nat)(s0:Nat)(w:World):CallsIn Fence.wide n Tryz.prog 243 #[.int .u32 (s0:Int)] w λ e w'=>e=.returned (.func (.func 248) #[] #[.pointer (some ⟨w.heap.size,0,none⟩)])∧w'=w.alloc (.cells #[.int .u32 (s0:Int)] 78):=by
 refine callsIn_of_wp Tryz.func243 rfl trivial ?_ rfl;simp only [Tryz.ntmps243,List.size_toArray,p7,p8,Nat.reduceAdd,Nat.reduceSub,Array.replicate_succ,Array.replicate_zero,List.push_toArray,List.append_toArray,List.nil_append,List.cons_append]
 gi_wp2
 go_ret
 exact ⟨rfl,rfl⟩
theorem zwg(s:Nat):(q7 s).length≤s:=by
 induction s using Nat.strongRecOn with
 | _ s ih=>
  rw [q7];split
  ·simp
  ·rename_i h;have hlt:s &&& (s - 1)<s:=Nat.lt_of_le_of_lt Nat.and_le_right (by omega)
   have:=ih _ hlt;simp only [p7];omega
theorem zj6{W:World}{base:Nat}{e:TypeId}{size:Nat}{v:Value}{k:Nat}{xs:List Value}(h:W.ownsRow base e size v k xs){B:Nat}{t:TypeId}{u:Value}(hu:Boxed W B t u)(hte:t ≠ e)(x:Value) :
  (W.setCell ⟨B,0,none⟩ x).ownsRow base e size v k xs:=h.kept (grownBy_setCell' W B x) (.inr (hu.not_row hte h).symm)
theorem zfw{W:World}{B B':Nat}{t:TypeId}{u:Value}(h:Boxed W B t u)(hne:B ≠ B')(x:Value):Boxed (W.setCell ⟨B',0,none⟩ x) B t u:=
 (heap_setCell_other W _ _ _ (by simpa using hne)).trans h
theorem z35{n₀ Bn:Nat}{A B C:World}(h1:KpB n₀ Bn A B)(h2:KpB n₀ Bn B C):KpB n₀ Bn A C:=⟨h1.1.trans h2.1,λ v h=>h2.2 v (h1.2 v h)⟩
def LsI(w:World)(B0 B1:Nat)(pre:List Nat)(W:World):Prop:=
 (∃ v,Boxed W B0 47 v∧W.ownsRow w.heap.size 3 1 v pre.length (pre.map λ x:Nat=>Value.int .i64 (x:Int))∧(v=.slice none 0 0↔pre=[]))∧(∃ u,Boxed W B1 78 u)∧Below w.heap.size w W
set_option maxRecDepth 100000 in
set_option maxHeartbeats 2000000 in
theorem Tryz.List_in(n:Nat)(hn:3≤n)(s0:Nat)(hs0:s0<4294967296)(w:World)(h4:4<w.heap.size)(hT:TabAt 4 Lib.deBruijn32tab w) :
  CallsIn Fence.wide n Tryz.prog 234 #[.int .u32 (s0:Int)] w λ e W'=>∃ v,e=.returned v∧W'.ownsRow w.heap.size 3 1 v (q7 (s0 &&& 16777215)).length ((q7 (s0 &&& 16777215)).map λ x:Nat=>Value.int .i64 (x:Int))∧(v=.slice none 0 0↔q7 (s0 &&& 16777215)=[])∧Below w.heap.size w W':=by
 have h1:1≤n:=by omega
 have hlen:(q7 (s0 &&& 16777215)).length≤16777215:=Nat.le_trans (zwg _) Nat.and_le_right;obtain ⟨i0,hi,hz0,hz1,hz2⟩:=info_parts (show (Tryz.prog.info? 3).map (λ i=>(i.zero,i.size,i.bytes))=some (some (.int .i64 0),1,8) by kernel_rfl)
 refine callsIn_of_wp_marks Tryz.func234 rfl trivial ?_ rfl;simp only [Tryz.ntmps234,List.size_toArray,p7,p8,Nat.reduceAdd,Nat.reduceSub,Array.replicate_succ,Array.replicate_zero,List.push_toArray,List.append_toArray,List.nil_append,List.cons_append]
 gi_wp2_with (refine ⟨trivial,(Tryz.in_in _ _ _).mono ?_⟩; rintro e w' ⟨rfl,rfl⟩)
 have bO:=Boxed.new w 47 (.slice none 0 0);have bN:=Boxed.new (w.alloc (.cells #[.slice none 0 0] 47)) 78 (.int .u32 (s0:Int));rw [World.size_alloc] at bN;have hB0:Below w.heap.size w ((w.alloc (.cells #[.slice none 0 0] 47)).alloc (.cells #[.int .u32 (s0:Int)] 78)):=((Below.refl _ w).alloc (Nat.le_refl _) _).alloc (by simp) _
 refine zsm (F:=Fence.wide) (gf:=248) (lb:=#[.pointer (some ⟨w.heap.size+1,0,none⟩)]) (Bn:=w.heap.size+1) (encs:=λ x:Nat=>#[.int .i64 (x:Int)]) (Kp:=KpB w.heap.size (w.heap.size+1)) (S:=λ xs=>xs=q7 (s0 &&& 16777215)) (N:=(q7 (s0 &&& 16777215)).length)
  rfl h1 rfl trivial (enters_of Tryz.func248 (by kernel_rfl) rfl) (by simp) ?hseq z35 ?hKb (Below.refl _ _) (λ _=>rfl) (LsI w w.heap.size (w.heap.size+1)) ?hI ?hIc
  ⟨⟨_,bO.alloc _,World.ownsRow_nil _ _ _ _,by simp⟩,⟨_,bN⟩,hB0⟩
  (λ x=>{ tmps:=#[.int .u32 (s0:Int),undef,.slice none 0 0,.pointer (some ⟨w.heap.size,0,none⟩),.int .i64 (x:Int),.int .u32 (s0:Int),.func (.func 248) #[] #[.pointer (some ⟨w.heap.size+1,0,none⟩)],.int .i64 (x:Int),undef,undef,undef,undef,undef],defers:=[] }) ?assign ?body ?done
 case hseq=>
  intro l J W hW _ hw hY h0;have hsz:((w.alloc (.cells #[.slice none 0 0] 47)).alloc (.cells #[.int .u32 (s0:Int)] 78)).heap.size=w.heap.size+2:=by simp
  exact Tryz.in1_in (n - 1) (by omega) l (w.heap.size+1) w.heap.size h4 (by omega) s0 hs0 J hw hY W (TabAt.below hW (by omega) (TabAt.below hB0 h4 hT)) ((hW.block _ (by omega)).trans bN) h0
 case hKb=>
  intro W l o o' hl hlo h1 h2;simp only [World.size_alloc] at hl;exact ⟨belowK_b (w:=w) (Nat.le_refl _) W l o o' (by omega) hlo h1 h2,λ v h=>(World.putObj_heap_other (by omega)).trans h⟩
 case hI=>
  intro pre X Y row hs hg hr;refine ⟨holdsRow_own w.heap.size w.heap.size 47 3 1 (λ pre:List Nat=>pre.length) (λ pre=>pre.map λ x:Nat=>Value.int .i64 (x:Int)) (λ pre v=>v=.slice none 0 0↔pre=[]) pre X Y row hs.1 hg (λ r e=>(hr r e).2),?_,ownFrom_below (Nat.le_refl _) (by simp; omega) pre X Y row hs.2.2 hg hr⟩
  obtain ⟨u,hu⟩:=hs.2.1;refine ⟨u,hu.kept hg λ e'=>?_⟩;obtain ⟨o,ho,hc⟩:=(hr _ e'.symm).2;rw [show X.heap[_]?=_ from hu] at ho; cases ho; cases hc
 case hIc=>
  rintro pre W x ⟨⟨v,hv,hrow,hnil⟩,⟨u,hu⟩,hB⟩;exact ⟨⟨v,zfw hv (by omega) x,zj6 hrow hu (by decide) x,hnil⟩,⟨x,hu.set x⟩,hB.setCell (p:=⟨w.heap.size+1,0,none⟩) (by simp) x⟩
 case assign=>
  intro l x W K hK
  gi_wp2
  exact hK
 case body=>
  rintro l pre x W ⟨⟨v,hv,hrow,hnil⟩,⟨u,hu⟩,hB⟩ hlt;have hc:=hv.cell
  gi_wp2_with (gi_at_builtin; refine wpListIn_append_own _ rfl _ _ 47 rfl w.heap.size 3 i0 (.int .i64 0) 1 8 Tryz.underlying47 hi hz0 hz1 hz2 rfl (by decide) _ _ _ rfl (hrow.alloc _) ⟨W.heap.size,0,none⟩ 1 1 [.int .i64 (x:Int)] rfl rfl (cell_one_new _ _ _) (by simp [Value.oneCell']) (by simp [maxLen]; omega) (by omega) (by have:=hB.size; simp; omega) ?_; intro v' w1 hown' hgrow hnil'; obtain ⟨g',cap',rfl⟩:=ownsRow_succ hown'; obtain ⟨hv1,hv2,hr2,hk2,hb2⟩:=hv.appended (by decide) hrow hB.size (Nat.le_refl _) hown' hgrow; have hc1:=hv1.cell; have hf1:=hv1.frozen)
  exact ⟨hk2.from _,⟨hb2,λ v' h=>zfw (((h.alloc _).kept hgrow (h.not_row (by decide) hrow))) (by omega) _⟩,⟨_,hv2,by simpa using hr2,by simp⟩,⟨u,zfw ((hu.alloc _).kept hgrow (hu.not_row (by decide) hrow)) (by omega) _⟩,hB.trans hb2⟩
 case done=>
  rintro D ys W hD rfl ⟨⟨v,hv,hrow,hnil⟩,hu,hB⟩ hK;have hc:=hv.cell
  gi_wp2
  refine ⟨by simp,.inl ⟨_,_,rfl,run_takeDeferred hK,?_⟩⟩
  exact ⟨_,results_tmp rfl _ _ _,v,rfl,ownsRow_putObj hrow _ hK rfl,hnil,hB.trans (belowK_b (w:=w) (Nat.le_refl _) W D _ _ (by simp at hD; omega) hK rfl rfl)⟩
end Go.Proofs
end
section
set_option linter.unusedVariables false
namespace Go.Vai
open Go.Proofs Go.Shelf Go.RowKit
section
variable {cx:Cx} {w w':World} {σ:St} {μ:Mu}
theorem zty{w w':World}(h:RowKit.Below w.heap.size w w'){b i:Nat}{x:Value}(hc:w.cell? ⟨b,i,none⟩=some x):w'.cell? ⟨b,i,none⟩=some x:=by
 have:=h.block b (lt_of_cell hc);unfold World.cell? at hc ⊢;simp only at hc ⊢;rw [this];exact hc
theorem zdc(hi:Inv cx w σ μ)(h:RowKit.Below w.heap.size w w'):After cx w σ μ w' σ μ:=by
 have hu:Upd cx w σ μ w' σ μ []:=⟨h.os,h.output,h.size,λ b hb _=>h.block b hb,λ b i x _ hc=>zty h hc,rfl,λ _ _=>⟨rfl,rfl⟩,λ _ h=>by simp at h,λ _ h=>by simp at h,λ _ h=>by simp at h⟩
 exact hu.after hi (λ _ h=>by simp at h)
theorem zr6:∀ (k s:Nat) (l:List Nat),zr7 k s=some l→l=q7 s
 | 0,s,l,h=>by
  unfold zr7 at h;cases hs:Nat.beq s 0 <;> rw [hs] at h
  ·cases h
  ·cases h;obtain rfl:=po hs;simp [q7]
 | k+1,s,l,h=>by
  unfold zr7 at h;cases hs:Nat.beq s 0 <;> rw [hs] at h
  ·rw [p6] at h;obtain ⟨r,hr,h⟩:=zb h;cases h;have h0:s ≠ 0:=λ e=>by subst e; cases hs
   have e:s &&& (s - 1)=Nat.land s (s - 1):=rfl;rw [q7,dif_neg h0,e,←zr6 k _ r hr]
  ·cases h;obtain rfl:=po hs;simp [q7]
theorem zq2{n:Nat}{l:List Nat}{v:Value}(hi:Inv cx w σ μ)(h:w'.ownsRow w.heap.size 3 1 v n (l.map λ x:Nat=>Value.int .i64 (x:Int)))(hn:l.length=n)(haf:After cx w σ μ w' σ μ):RD w' (zp σ μ) v (.sl 1 (l.map λ x:Nat=>D.int .i64 (x:Int))):=by
 obtain ⟨hlen,h⟩:=h;rcases h with ⟨rfl,h0⟩ | ⟨g,cap,cur,rfl,hg,hh,hcap,_,hsize,htake⟩
 ·have:l=[]:=List.eq_nil_of_length_eq_zero (by omega)
  subst this;exact .sl0 _ _ _
 ·have hfree:∀ i,¬ zp σ μ g i:=λ i ho=>by
   rcases ho with hf | ⟨id,o,ho,hown⟩
   ·exact absurd (hi.frLt _ _ hf) (by omega)
   ·exact absurd (zb6 hi ho hown) (by omega)
  refine RD.ofRow (cs:=cur) hh (by simp [hn]) hcap (λ y hy=>by obtain ⟨s,_,rfl⟩:=List.mem_map.1 hy; rfl) (λ k c hk=>?_) λ k _=>by rw [Nat.zero_add]; exact hfree k
  have hfl:ye (l.map λ x:Nat=>D.int .i64 (x:Int))=l.map λ x:Nat=>D.int .i64 (x:Int):=by
   unfold ye;clear hlen htake hn hk
   induction l with
   | nil=>rfl
   | cons a q ih=>simp only [List.map_cons,List.flatMap_cons,ih]; rfl
  rw [hfl,List.getElem?_map,Option.map_eq_some_iff] at hk;obtain ⟨s,hs,rfl⟩:=hk;have hklt:=(pr.1 hs).1;have:(cur.toList.take (n * 1))[k]?=some (.int .i64 (s:Int)):=by rw [htake,List.getElem?_map,hs]; rfl
  rw [List.getElem?_take,if_pos (by omega)] at this
  exact ⟨_,by simpa using this,RD.int _ _,rfl⟩
theorem z0x(hG:cx.glob 4=some zie)(hi:Inv cx w σ μ):TabAt 4 Lib.deBruijn32tab w:=by
 obtain ⟨xs,h1,h2⟩:=hi.glob 4 _ hG;intro j hj;have hc:zie.cells=Lib.deBruijn32tab.map λ x:Nat=>D.int .u8 (x:Int):=rfl;have hr:=h2 j (.int .u8 ((Lib.deBruijn32tab.getD j 0:Nat):Int)) (by rw [hc,List.getElem?_map,p9 hj]; simp [List.getD_eq_getElem?_getD,hj])
 rw [(h1 j (by rw [hc,pm]; exact hj)).1]
 generalize xs j=z at hr;cases hr;rfl
theorem zsv(hP:cx.P=Tryz.prog)(hG:cx.glob 4=some zie){args:List V}{out:Out}{σ':St}(h:zpi args σ=some (out,σ')){vs:List Value}(hi:Inv cx w σ μ)(hcan:Canon σ)(hv:RVs w σ μ vs args) :
  ∃ u,out=.ret u∧(∀ k o,zf σ' k=some o→k<σ.length∧∀ i∈o.ids,i<σ.length)∧(∀ i∈u.ids,i<σ.length) ∧
  Calls cx.P 234 vs.toArray w λ e w'=>∃ μ' x,e=.returned x∧After cx w σ μ w' σ' μ'∧RV w' σ' μ' x u:=by
 unfold zpi at h;split at h
 case h_2=>cases h
 rename_i s;obtain ⟨hc,h1⟩:=zd h;clear h;rw [pq] at hc;have hs0:=ph hc.1;have hs1:=ph hc.2;obtain ⟨l,hl,h⟩:=zb h1;clear h1;cases h;have hxl:=zr6 _ _ l hl;obtain ⟨m,rfl⟩:∃ m:Nat,s=(m:Int):=⟨s.toNat,by omega⟩
 rw [show Nat.land ((m:Int).toNat) 16777215=m &&& 16777215 from rfl] at hxl;refine ⟨_,rfl,hcan,by simp [V.ids],?_⟩
 obtain ⟨v,rfl⟩:∃ v,vs=[v]:=List.length_eq_one_iff.1 (by simpa using hv.1)
 have hv0:=hv.2 0 v _ rfl rfl;cases hv0 with | d _ _ hd=>?_
 cases hd;rw [hP];have hT:=z0x hG hi;have h4:4<w.heap.size:=by
  have:=hT 0 (by decide)
  unfold World.cell? at this;cases hh:w.heap[4]? with
  | none=>rw [hh] at this; cases this
  | some o=>exact (Array.getElem?_eq_some_iff.1 hh).1
 refine (callsIn_wide.mp (Tryz.List_in 3 (by omega) m (by omega) w h4 hT)).mono ?_
 rintro e w' ⟨v',rfl,ho,_,hb⟩;have haf:=zdc hi hb;rw [←hxl] at ho;exact ⟨μ,_,rfl,haf,.d _ _ (zq2 hi ho rfl haf)⟩
end
end Go.Vai
end
noncomputable section
namespace Go.Vai
open Go.Proofs
def z3b:List (Nat×List (Nat×List Nat)):=[(3,[(0,[0,1,2,3]),(2,[0,1,2,3,39,40,41]),(13,[0,1,2,3,39,40,41])]),
 (7,[(0,[5]),(2,[0,1,5,7,59,60,61]),(4,[0,1,5,7,10,11,59,60,61]),(6,[0,1,5,7,10,11,59,60,61,80,81,82]),(8,[0,1,5,7,59,60,61]),(10,[0,1,5,7,59,60,61,111,112,113]),(21,[0,1,5,7,59,60,61]),(33,[0,1,5,7,10,11,59,60,61,80,81,82]),(47,[0,1,5,7,59,60,61,111,112,113])]),
 (8,[(0,[0,7]),(2,[0,5,7,51,52,53]),(4,[0,5,7,9,51,52,53]),(6,[0,5,7,9,51,52,53,73,74,75]),(27,[0,5,7,51,52,53]),(37,[0,5,7,9,51,52,53,73,74,75])]),
 (13,[(0,[]),(2,[0,3,4,5]),(9,[0,3,4,5])]),
 (15,[(0,[1,2,3])]),
 (16,[(0,[2,3]),(2,[2,3,5]),(4,[]),(6,[2,3,6]),(9,[2,3,5]),(19,[2,3,6])]),
 (19,[(0,[9]),(2,[6,9,10,11]),(4,[6,9,10,11]),(6,[6,9,10,11,42,43,44]),(21,[6,9,10,11]),(27,[6,9,10,11,42,43,44])]),
 (20,[(0,[0,6,8,9]),(2,[0,1,6,8,9,10]),(4,[0,8]),(6,[0,6,8,11]),(8,[0,6,8,11]),(10,[0,6,8,11,12]),(12,[0,6,8,11,12]),(14,[0,6,8,11,12,13]),(15,[0,1,6,8,9,10]),(16,[14]),(18,[0,8,14,15]),(29,[0,6,8,11]),(35,[0,6,8,11,12]),(41,[0,6,8,11,12,13]),(55,[0,8,14,15])]),
 (21,[(0,[6]),(2,[4,6,20,21]),(4,[4,6,7,8,20,21]),(6,[4,6,7,8,20,21,24,25,26]),(13,[4,6,20,21]),(21,[4,6,7,8,20,21,24,25,26])]),
 (22,[(0,[6]),(2,[0,4,6,7]),(4,[0,4,6,7,8]),(6,[0,4,6,7,8,9]),(13,[0,4,6,7]),(21,[0,4,6,7,8,9])]),
 (23,[(0,[]),(2,[0,1,5]),(9,[0,1,5])]),
 (24,[(0,[6]),(2,[4,6,22,23,24]),(4,[4,6,9,22,23,24]),(6,[4,6,9,22,23,24,30,31,32]),(13,[4,6,22,23,24]),(21,[4,6,9,22,23,24,30,31,32])]),
 (25,[(0,[]),(2,[1,7,8,9]),(5,[1,7,8,9])]),
 (26,[(0,[6]),(2,[0,6,7,8]),(15,[0,6,7,8])]),
 (27,[(0,[]),(2,[0,11,12]),(4,[0,3,4,11,12]),(5,[0,11,12]),(6,[0,3,4,11,12,19,20,21]),(8,[0,11,12]),(10,[0,3,4,7,11,12]),(12,[0,3,4,7,11,12]),(13,[0,3,4,11,12,19,20,21]),(14,[0,3,4,7,11,12,48,49,50]),(23,[0,3,4,7,11,12]),(33,[0,3,4,7,11,12,48,49,50])]),
 (28,[(0,[1,2,5]),(2,[1,2,5,6]),(4,[5]),(6,[1,2,5,7]),(11,[1,2,5,6]),(23,[1,2,5,7])]),
 (29,[(0,[5]),(2,[0,5,6]),(4,[0,5,6,7]),(6,[0,5,6,7,8]),(13,[0,5,6]),(21,[0,5,6,7,8])]),
 (32,[(0,[]),(2,[0,1,5]),(4,[0,1,5]),(6,[0,1,5,6]),(9,[0,1,5]),(19,[0,1,5,6])]),
 (33,[(0,[]),(2,[0,1,12,13]),(9,[0,1,12,13])]),
 (34,[(0,[6]),(2,[0,4,6]),(4,[0,4,6,7]),(6,[0,4,6,7,8]),(8,[0,4,6,7,8,9]),(10,[0,4,6,7,8,9,10]),(11,[0,4,6]),(17,[0,4,6,7,8]),(25,[0,4,6,7,8,9,10])]),
 (35,[(0,[8]),(2,[0,1,8,19,20,21]),(13,[0,1,8,19,20,21])]),
 (36,[(0,[7]),(2,[0,1,7,8]),(13,[0,1,7,8])]),
 (38,[(0,[]),(2,[0,1,5]),(9,[0,1,5])]),
 (41,[(0,[0,1,4])]),
 (42,[(0,[3,4,8,9,10,11]),(2,[3,4,8,9,10,11,22,23,24]),(7,[3,4,8,9,10,11,22,23,24])]),
 (45,[(0,[]),(2,[0,1,7,8]),(5,[0,1,7,8])]),
 (50,[(0,[]),(2,[0,1,5]),(5,[0,1,5])]),
 (51,[(0,[6]),(2,[6,20,21,22]),(13,[6,20,21,22])]),
 (52,[(0,[3]),(2,[3,6,7,8]),(7,[3,6,7,8])]),
 (53,[(0,[]),(2,[1,5,6,7]),(5,[1,5,6,7])]),
 (56,[(0,[]),(2,[0,5]),(4,[0,5]),(6,[0,5,6]),(11,[0,5]),(17,[0,5,6])]),
 (59,[(0,[]),(2,[3]),(4,[1,3,4,5]),(45,[1,3,4,5])]),
 (60,[(0,[0]),(2,[0,2,4,7]),(13,[0,2,4,7])]),
 (61,[(0,[1,2]),(2,[1,2,13,14,15]),(9,[1,2,13,14,15])]),
 (62,[(0,[2,3,4]),(2,[2,3,4,7]),(4,[]),(6,[2,3,4,8]),(9,[2,3,4,7]),(19,[2,3,4,8])]),
 (63,[(0,[0]),(2,[0,5]),(4,[0,8]),(6,[0,8,9]),(9,[0,5]),(23,[0,8,9])]),
 (69,[(0,[3]),(2,[0,3]),(5,[0,3])]),
 (73,[(0,[])]),
 (74,[(0,[6]),(2,[0,1,5,6]),(4,[0,1,5,6]),(13,[0,1,5,6])]),
 (76,[(0,[0,1,4,5]),(2,[0,4,6])]),
 (81,[(0,[3,4])]),
 (82,[(0,[]),(1,[0,1]),(2,[0,1])]),
 (84,[(0,[]),(2,[0,1,7,8]),(5,[0,1,7,8])]),
 (85,[(0,[]),(2,[0,1,2,3,8,9]),(5,[0,1,2,3,8,9])]),
 (87,[(0,[0]),(2,[0,9,10,11]),(4,[6]),(5,[0,9,10,11]),(6,[6,55,56,57]),(19,[6,55,56,57])]),
 (88,[(0,[]),(2,[]),(4,[1,2,13,14,15]),(6,[]),(7,[1,2,13,14,15]),(8,[1,2,88,89,90]),(41,[1,2,88,89,90])]),
 (91,[(0,[]),(2,[0,1,7,8]),(5,[0,1,7,8])]),
 (92,[(0,[4]),(2,[0,4,5]),(7,[0,4,5])]),
 (93,[(0,[]),(2,[0,1,5]),(5,[0,1,5])]),
 (94,[(0,[])]),
 (95,[(0,[])]),
 (96,[(0,[]),(2,[0,3]),(5,[0,3])]),
 (97,[(0,[]),(2,[1,3]),(9,[1,3])]),
 (101,[(0,[1]),(2,[0,1]),(3,[0,1]),(4,[0,1]),(6,[0,1]),(8,[0,1]),(21,[0,1])]),
 (102,[(0,[2]),(2,[0,2,14,15]),(11,[0,2,14,15])]),
 (104,[(0,[0,1,4])]),
 (105,[(0,[0,4,5]),(2,[0,1,4,5]),(5,[0,1,4,5])]),
 (106,[(0,[]),(2,[0,1,7,8]),(5,[0,1,7,8])]),
 (112,[(0,[4,10]),(2,[2,4,10,72,73,74]),(21,[2,4,10,72,73,74])]),
 (113,[(0,[2,3,4,7])]),
 (115,[(0,[]),(2,[0,1,2,6]),(3,[0,1,2,6]),(4,[0,1,2,6]),(6,[0,1,2,6,7]),(9,[0,1,2,6,7])]),
 (116,[(0,[0,6,7,8]),(2,[0,6,7,8,9]),(4,[]),(6,[0,6,7,10]),(9,[0,6,7,8,9]),(17,[0,6,7,10])]),
 (117,[(0,[]),(2,[0,1,6,7,8,9]),(11,[0,1,6,7,8,9])]),
 (118,[(0,[6,7])]),
 (119,[(0,[]),(2,[0,6,7]),(5,[0,6,7])]),
 (120,[(0,[]),(2,[0,1,2,7,8]),(4,[0,1,2,7,8]),(6,[0,1,2,7,8]),(7,[0,1,2,7,8]),(8,[0,1,2,7,8]),(10,[0,1,2,7,8,9]),(11,[0,1,2,7,8]),(12,[0,1,2,7,8]),(14,[0,1,2,7,8,10]),(29,[0,1,2,7,8,9]),(41,[0,1,2,7,8,10])]),
 (122,[(0,[9]),(2,[0,1,9,10]),(4,[0,1,9,10]),(6,[0,1,9,10]),(7,[0,1,9,10]),(8,[0,1,9,10]),(10,[0,1,9,10]),(11,[0,1,9,10])]),
 (123,[(0,[0,1,10,11]),(2,[0,1,10,11]),(4,[0,1,10,11]),(6,[0,1,10,11]),(7,[0,1,10,11]),(8,[0,1,11]),(10,[0,1,10,11]),(11,[0,1,10,11]),(12,[0,1,10,11]),(14,[0,1,10,11]),(16,[0,1,10,11]),(18,[0,1,10,11]),(27,[0,1,10,11]),(31,[0,1,10,11])]),
 (127,[(0,[]),(2,[0,6,7,8]),(3,[0,6,7,8])]),
 (131,[(0,[0,3]),(2,[0,3,9,10,11]),(4,[6]),(6,[6,25,26,27]),(7,[0,3,9,10,11]),(23,[6,25,26,27])]),
 (132,[(0,[]),(2,[0,1,7,8]),(5,[0,1,7,8])]),
 (134,[(0,[1,5,6])]),
 (137,[(0,[])]),
 (143,[(0,[3]),(2,[0,3]),(5,[0,3])]),
 (144,[(0,[4,5]),(2,[0,1,4,5]),(5,[0,1,4,5])]),
 (145,[(0,[2]),(2,[0,2,3]),(11,[0,2,3])]),
 (149,[(0,[1,2,4]),(2,[1,2,4]),(5,[1,2,4])]),
 (150,[(0,[2,3,6,7]),(2,[6,7]),(4,[3,6,7,135,136,137]),(69,[3,6,7,135,136,137])]),
 (151,[(0,[3,5,6])]),
 (152,[(0,[]),(2,[0,2,3,8]),(3,[0,2,3,8])]),
 (161,[(0,[])]),
 (163,[(0,[])]),
 (166,[(0,[0,6]),(2,[0,6,7]),(4,[0,6,7]),(6,[0,6,7]),(8,[0,6,7,8,9]),(10,[0,6,7,8,9]),(17,[0,6,7]),(25,[0,6,7]),(37,[0,6,7,8,9])]),
 (167,[(0,[5]),(2,[0,1,5,6]),(7,[0,1,5,6])]),
 (169,[(0,[3]),(2,[1,3,4]),(4,[1,3,4,5,6]),(6,[1,3,4,5,6,7]),(7,[1,3,4]),(17,[1,3,4,5,6,7])]),
 (175,[(0,[4,5]),(2,[0,1,4,5]),(5,[0,1,4,5])]),
 (176,[(0,[]),(2,[0,2,3]),(3,[0,2,3])]),
 (192,[(0,[0,1]),(2,[0,1,5]),(4,[0,1,5,39,40,41]),(6,[8]),(8,[1,8,63,64,65]),(25,[0,1,5,39,40,41]),(45,[1,8,63,64,65])]),
 (196,[(0,[0]),(2,[0,12,13,14]),(4,[0,5,12,13,14]),(6,[0,5,12,13,14,38,39,40]),(7,[0,12,13,14]),(21,[0,5,12,13,14,38,39,40])]),
 (197,[(0,[]),(2,[0,3]),(4,[0,3,4,5,7]),(5,[0,3]),(6,[0,3,4,5,7,8]),(19,[0,3,4,5,7,8])]),
 (201,[(0,[]),(2,[0,1,6,7]),(15,[0,1,6,7])]),
 (203,[(0,[]),(2,[1,2,14,15,16]),(9,[1,2,14,15,16])]),
 (205,[(0,[3,4,5]),(2,[2,3,4,5,10,11,12]),(7,[2,3,4,5,10,11,12])]),
 (210,[(0,[]),(2,[5,6,7]),(5,[5,6,7])]),
 (212,[(0,[6]),(2,[1,6,11,12,13]),(4,[1,6,11,12,13]),(6,[1,6,8,11,12,13,17,18,19]),(7,[1,6,11,12,13]),(13,[1,6,8,11,12,13,17,18,19])]),
 (217,[(0,[])]),
 (218,[(0,[])]),
 (221,[(0,[]),(2,[5,6,7]),(5,[5,6,7])]),
 (226,[(0,[1]),(2,[1,2,13,14,15]),(5,[1,2,13,14,15])]),
 (228,[(0,[1,4]),(2,[1,4,11,12,13]),(4,[4]),(6,[4,26,27,28]),(7,[1,4,11,12,13]),(17,[4,26,27,28])]),
 (230,[(0,[5]),(2,[4,5,13,14,15]),(4,[9]),(6,[8,9,34,35,36]),(9,[4,5,13,14,15]),(31,[8,9,34,35,36])]),
 (233,[(0,[]),(2,[0,1,12,13]),(9,[0,1,12,13])]),
 (234,[(0,[3])]),
 (245,[(0,[]),(2,[0,1,7,8]),(5,[0,1,7,8])]),
 (246,[(0,[]),(2,[0,1,2,3,4,10,11]),(5,[0,1,2,3,4,10,11])]),
 (248,[(0,[]),(2,[0,1]),(3,[0,1])]),
 (250,[(0,[]),(2,[0,1,2,3,8]),(3,[0,1,2,3,8]),(4,[0,1,2,3,8]),(6,[0,1,2,3,8,9]),(9,[0,1,2,3,8,9])]),
 (251,[(0,[0,3,8,9,10]),(2,[0,3,8,9,10,11]),(4,[]),(6,[0,3,8,9,12]),(9,[0,3,8,9,10,11]),(17,[0,3,8,9,12])]),
 (252,[(0,[]),(2,[0,1,8,9,10,11]),(11,[0,1,8,9,10,11])]),
 (253,[(0,[8,9])]),
 (254,[(0,[]),(2,[0,8,9]),(5,[0,8,9])]),
 (255,[(0,[]),(2,[0,1,2,3,9,10]),(4,[0,1,2,3,9,10]),(6,[0,1,2,3,9,10]),(7,[0,1,2,3,9,10]),(8,[0,1,2,3,9,10]),(10,[0,1,2,3,9,10,11]),(11,[0,1,2,3,9,10]),(12,[0,1,2,3,9,10]),(14,[0,1,2,3,9,10,12]),(29,[0,1,2,3,9,10,11]),(41,[0,1,2,3,9,10,12])]),
 (256,[(0,[11]),(2,[0,1,4,11,12]),(4,[0,1,4,11,12]),(6,[0,1,4,11,12]),(7,[0,1,4,11,12]),(8,[0,1,4,11,12]),(10,[0,1,4,11,12]),(11,[0,1,4,11,12])]),
 (257,[(0,[0,1,4,12,13]),(2,[0,1,4,12,13]),(4,[0,1,4,12,13]),(6,[0,1,4,12,13]),(7,[0,1,4,12,13]),(8,[0,1,13]),(10,[0,1,4,12,13]),(11,[0,1,4,12,13]),(12,[0,1,4,12,13]),(14,[0,1,4,12,13]),(16,[0,1,4,12,13]),(18,[0,1,4,12,13]),(27,[0,1,4,12,13]),(31,[0,1,4,12,13])]),
 (259,[(0,[]),(2,[0,2,3,4,10]),(3,[0,2,3,4,10])])]
def live(f key:Nat):List Nat:=match zf z3b f with | some l=>(match zf l key with | some r=>r | none=>[]) | none=>[]
def wb:D:=.agg [.str [45,62],.str [47,92],.str [92,47],.str [40],.str [41],.str [91],.str [93],.str [44],.str [46],.str [58],.str [59],.str [61],.str [92],.str [60],.str [62],.str [64],.str [126],.str [42],.str [48],.str [49]]
def acc:D:=.agg [.int .u8 128,.int .u8 191,.int .u8 160,.int .u8 191,.int .u8 128,.int .u8 159,.int .u8 144,.int .u8 191,.int .u8 128,.int .u8 143,.int .u8 0,.int .u8 0,.int .u8 0,.int .u8 0,.int .u8 0,.int .u8 0,.int .u8 0,.int .u8 0,.int .u8 0,.int .u8 0,.int .u8 0,.int .u8 0,.int .u8 0,.int .u8 0,.int .u8 0,.int .u8 0,.int .u8 0,.int .u8 0,.int .u8 0,.int .u8 0,.int .u8 0,.int .u8 0]
def unW:DataW Unit→List D
 | .lit (.int k n)=>[.int k n]
 | .agg l=>l.map λ d=>match d with | .lit (.int k n)=>.int k n | _=>.nilIface
 | _=>[]
def glob:Nat→Option D
 | 0=>some wb
 | 1=>some (.agg (unW Go.Pinned.utf8First))
 | 2=>some acc
 | 4=>some zie
 | _=>none
def big:Nat:=4611686018427387904
def dom(f:Nat)(args:List V):Bool:=
 bif Nat.beq f 101 then (match args with | [.d (.str s),.d (.int .i64 a)]=>decide (s.length≤big)&&(decide (0≤a)&&decide (a≤(s.length:Int))) | _=>true)
 else bif Nat.beq f 201 then (match args with | [.d (.str s),.d (.int .i64 a)]=>decide (s.length≤big)&&(decide (0≤a)&&decide (a<(s.length:Int))) | _=>true)
 else bif Nat.beq f 141 then (match args with | [.d (.str (b::_))]=>decide (128≤b.toNat) | _=>true)
 else bif Nat.beq f 62 then true
 else (match args with | [.d (.str s)]=>decide (s.length≤big) | _=>true)
def flat(f key:Nat):List Nat:=bif Nat.beq f 74&&Nat.beq key 13 then [6,7] else bif (Nat.beq f 144||Nat.beq f 175)&&Nat.beq key 5 then [5,6] else bif Nat.beq f 145&&Nat.beq key 11 then [3] else bif Nat.beq f 105&&Nat.beq key 5 then [5] else []
def own(nt d:Nat):Bool:=(Nat.beq nt 56&&Nat.beq d 9)||(Nat.beq nt 55&&(Nat.beq d 28||Nat.beq d 9))||(Nat.beq nt 23&&Nat.beq d 4)
def thaw(nt d:Nat):Bool:=Nat.beq nt 56&&Nat.beq d 51
def nils(nt t:Nat):Bool:=Nat.beq nt 28&&Nat.beq t 11
def grow(f:Nat):Option Nat:=bif Nat.beq f 165 then some 9 else none
def cx:Cx:={ dom:=dom,P:=Go.Proofs.Tryz.prog,live:=live,glob:=glob,keep:=λ f=>Nat.beq f 75||Nat.beq f 147,dfr:=λ f=>Nat.beq f 39||Nat.beq f 42,gives:=λ f=>Nat.beq f 63,pend:=λ f r=>bif Nat.beq f 82&&Nat.beq r 1 then some 5 else none,flat:=flat,bare:=λ nt d=>(Nat.beq nt 129&&Nat.beq d 103)||(Nat.beq nt 42&&Nat.beq d 31),typed:=λ nt d=>Nat.beq nt 89&&(Nat.beq d 53||Nat.beq d 54),tagS:=λ nt d=>bif Nat.beq nt 89&&Nat.beq d 53 then 6 else 0,nat:=nat,own:=own,thaw:=thaw,grow:=grow,nils:=nils }
def zbb(c:Int):Bool:=decide (c=32)||decide (c=9)||decide (c=10)||decide (c=13)
def yq(c:Int):Bool:=(decide (97≤c)&&decide (c≤122))||(decide (65≤c)&&decide (c≤90))||decide (c=95)
def wl(c:Int):Bool:=decide (48≤c)&&decide (c≤57)
def zn(s p:List UInt8):Bool:=decide (s.take p.length=p)
def xx:yu:=λ _ _ _=>none
theorem wg(cx:Cx):knows cx xx (zl cx):=λ _ _ _ _ _ h=>by cases h
def zgm(f:Nat)(F:List V→Option Out)(S:yu):yu:=λ g args σ=>
 bif Nat.beq g f then (match σ with | []=>(match F args with | some o=>some (o,[]) | none=>none) | _::_=>none) else S g args σ
theorem qo{cx:Cx}{f:Nat}{F:List V→Option Out}{S:yu}(hS:knows cx S (zl cx))(hF:∀ args o,cx.dom f args=true→F args=some o→zl cx f args []=some (o,[])):knows cx (zgm f F S) (zl cx):=by
 intro g args σ r hd h;unfold zgm at h;cases hg:Nat.beq g f <;> rw [hg] at h
 ·exact hS g args σ r hd h
 ·obtain rfl:=po hg;cases σ with
  | cons a b=>cases h
  | nil=>
   simp only [p5] at h;cases ho:F args with
   | none=>rw [ho] at h; cases h
   | some o=>rw [ho] at h; cases h; exact hF args o hd ho
def zoz(F:Int→Bool):List V→Option Out
 | [.d (.int .u8 c)]=>some (.ret (.d (.bool (F c))))
 | _=>none
theorem ztw{F:Int→Bool}{args:List V}{o:Out}(h:zoz F args=some o):∃ c,args=[.d (.int .u8 c)]∧o=.ret (.d (.bool (F c))):=by
 unfold zoz at h;split at h
 ·cases h; exact ⟨_,rfl,rfl⟩
 ·cases h
theorem b25(n:Nat)(S:yu)(c:Int):zx cx S n 174 [.d (.int .u8 c)] []=bif decide ((97:Int)≤c) then bif decide (c≤(122:Int)) then some (Out.ret (V.d (D.bool true)),[]) else bif decide ((65:Int)≤c) then bif decide (c≤(90:Int)) then some (Out.ret (V.d (D.bool true)),[]) else some (Out.ret (V.d (D.bool (decide (c=(95:Int))))),[]) else some (Out.ret (V.d (D.bool (decide (c=(95:Int))))),[]) else bif decide ((65:Int)≤c) then bif decide (c≤(90:Int)) then some (Out.ret (V.d (D.bool true)),[]) else some (Out.ret (V.d (D.bool (decide (c=(95:Int))))),[]) else some (Out.ret (V.d (D.bool (decide (c=(95:Int))))),[]):=by kernel_rfl
theorem b24(n:Nat)(S:yu)(s p:List UInt8):zx cx S n 173 [.d (.str s),.d (.str p)] []=bif decide ((↑p.length:Int)≤(↑s.length:Int)) then zh (decide ((↑p.length:Int)≤(↑s.length:Int))) (some (Out.ret (V.d (D.bool (decide (List.drop 0 (List.take (↑p.length:Int).toNat s)=p)))),[])) else some (Out.ret (V.d (D.bool false)),[]):=by kernel_rfl
theorem z3m(c:Int):zl cx 174 [.d (.int .u8 c)] []=some (.ret (.d (.bool (yq c))),[]):=by
 refine vd (N:=0) (wg cx) ?_;rw [b25];unfold yq;cases decide (c=95) <;> cases decide (97≤c) <;> cases decide (c≤122) <;> cases decide (65≤c) <;> cases decide (c≤90) <;> rfl
theorem z3n(s p:List UInt8):zl cx 173 [.d (.str s),.d (.str p)] []=some (.ret (.d (.bool (zn s p))),[]):=by
 refine vd (N:=0) (wg cx) ?_;rw [b24];unfold zn;by_cases h:p.length≤s.length
 ·have h':decide ((p.length:Int)≤s.length)=true:=pb (by omega)
  simp only [h',zh,p5,px,List.drop_zero]
 ·have h':decide ((p.length:Int)≤s.length)=false:=pd (by omega)
  have:decide (s.take p.length=p)=false:=pd λ e=>by
   have:=congrArg List.length e;simp at this;omega
  simp only [h',p6,this]
theorem drop_nil{s:List UInt8}{j:Nat}(h:s.drop j=[]):s.length≤j:=by
 have:=congrArg List.length h;simp at this;omega
theorem drop_cons{s r:List UInt8}{b:UInt8}{j:Nat}(h:s.drop j=b::r):j<s.length∧s[j]?=some b∧s.drop (j+1)=r:=by
 have h1:j<s.length:=by
  have:=congrArg List.length h;simp at this;omega
 refine ⟨h1,?_,?_⟩
 ·have:=congrArg (·[0]?) h;simpa using this
 ·rw [←List.drop_drop,h]; rfl
theorem z0g{j:Nat}(h:j≤4611686018427387904):IntKind.i64.wrap ((j:Int)+1)=((j+1:Nat):Int):=by
 rw [IntWalk.i64_in _ (by omega)]; rfl
def zxe:List V→Option Out
 | [.d (.str s),.d (.str p)]=>some (.ret (.d (.bool (zn s p))))
 | _=>none
theorem znq{args:List V}{o:Out}(h:zxe args=some o):∃ s p,args=[.d (.str s),.d (.str p)]∧o=.ret (.d (.bool (zn s p))):=by
 unfold zxe at h;split at h
 ·cases h; exact ⟨_,_,rfl,rfl⟩
 ·cases h
def S22:yu:=zgm 174 (zoz yq) xx
def S21:yu:=zgm 173 zxe xx
theorem zwn:knows cx S22 (zl cx):=qo (wg cx) λ args o _ h=>by
 obtain ⟨c,rfl,rfl⟩:=ztw h;exact z3m c
theorem zwo:knows cx S21 (zl cx):=qo (wg cx) λ args o _ h=>by
 obtain ⟨s,p,rfl,rfl⟩:=znq h;exact z3n s p
theorem b21(n:Nat)(s p:List UInt8):zx cx S21 n 142 [.d (.str s),.d (.str p)] []=some (Out.ret (V.d (D.bool (zn s p))),[]):=by kernel_rfl
theorem b22(n:Nat)(s:List UInt8):zx cx S22 n 143 [.d (.str s)] []=LP cx S22 n 143 0 2 n [(0,V.d (D.str s)),(3,V.d (D.int .i64 (0:Int)))] [] (AK cx S22 n 143 0 2 (EK cx 143 0)):=by kernel_rfl
theorem l22(n k:Nat)(s:List UInt8)(i:Int):LP cx S22 n 143 0 2 (k+1) [(0,.d (.str s)),(3,.d (.int .i64 i))] [] (AK cx S22 n 143 0 2 (EK cx 143 0))=bif decide (i<(↑s.length:Int)) then zh (decide (0≤i)&&decide (i<(↑s.length:Int))) (za s[i.toNat]? λ b=>bif yq (↑b.toNat:Int) then LP cx S22 n 143 0 2 k [(0,V.d (D.str s)),(3,V.d (D.int .i64 (IntKind.i64.wrap (i+(1:Int)))))] [] (AK cx S22 n 143 0 2 (EK cx 143 0)) else bif decide ((0:Int)<i) then zh (decide (0≤i)&&decide (i<(↑s.length:Int))) (za s[i.toNat]? λ b=>bif decide ((48:Int)≤(↑b.toNat:Int)) then zh (decide (0≤i)&&decide (i<(↑s.length:Int))) (za s[i.toNat]? λ b=>bif decide ((↑b.toNat:Int)≤(57:Int)) then LP cx S22 n 143 0 2 k [(0,V.d (D.str s)),(3,V.d (D.int .i64 (IntKind.i64.wrap (i+(1:Int)))))] [] (AK cx S22 n 143 0 2 (EK cx 143 0)) else some (Out.ret (V.d (D.int .i64 i)),[])) else some (Out.ret (V.d (D.int .i64 i)),[])) else some (Out.ret (V.d (D.int .i64 i)),[])) else some (Out.ret (V.d (D.int .i64 i)),[]):=by kernel_rfl
theorem z3p(s p:List UInt8):zl cx 142 [.d (.str s),.d (.str p)] []=some (.ret (.d (.bool (zn s p))),[]):=
 vd (N:=0) zwo (b21 0 s p)
def y7:List UInt8→Nat→Nat
 | [],j=>j
 | b::r,j=>bif yq b.toNat||(decide (0<j)&&wl b.toNat) then y7 r (j+1) else j
def yt(s:List UInt8):Nat:=y7 s 0
theorem zny{s:List UInt8}(hs:s.length≤4611686018427387904)(n:Nat):∀ (r:List UInt8) (j k:Nat),s.drop j=r→j≤s.length→r.length<k →
  LP cx S22 n 143 0 2 k [(0,.d (.str s)),(3,.d (.int .i64 (j:Int)))] [] (AK cx S22 n 143 0 2 (EK cx 143 0))=some (.ret (.d (.int .i64 (y7 r j:Nat))),[])
 | [],j,k+1,hr,hj,_=>by
  have:=drop_nil hr;rw [l22,pd (by omega),p6]
  rfl
 | b::r,j,k+1,hr,hj,hk=>by
  obtain ⟨h1,h2,h3⟩:=drop_cons hr;have ih:=zny hs n r (j+1) k h3 h1 (by simpa using hk)
  have h0:decide ((0:Int)≤(j:Int))=true:=pb (by omega)
  have hlt:decide ((j:Int)<(s.length:Int))=true:=pb (by omega)
  rw [l22];simp only [hlt,h0,zh,p5,Bool.and_self,px,h2,za,z0g (show j≤4611686018427387904 by omega),ih,y7,wl]
  have hz:decide ((0:Int)<(j:Int))=decide (0<j):=by
   by_cases h:0<j
   ·rw [pb h,pb (by omega)]
   ·rw [pd h,pd (by omega)]
  rw [hz];cases yq b.toNat <;> cases decide (0<j) <;> cases decide ((48:Int)≤(b.toNat:Int)) <;> cases decide ((b.toNat:Int)≤(57:Int)) <;> rfl
theorem z3o(s:List UInt8)(hs:s.length≤4611686018427387904):zl cx 143 [.d (.str s)] []=some (.ret (.d (.int .i64 (yt s:Nat))),[]):=by
 refine vd (N:=s.length+1) zwn ?_;rw [b22];exact zny hs _ s 0 _ rfl (Nat.zero_le _) (by omega)
def S13:yu:=zgm 142 zxe xx
theorem zo4:knows cx S13 (zl cx):=qo (wg cx) λ args o _ h=>by
 obtain ⟨s,p,rfl,rfl⟩:=znq h;exact z3p s p
theorem b13(n:Nat)(s:List UInt8)(a:Int):zx cx S13 n 101 [.d (.str s),.d (.int .i64 a)] []=LP cx S13 n 101 0 1 n [(0,V.d (D.str s)),(1,V.d (D.int .i64 a))] [] (AK cx S13 n 101 0 1 (EK cx 101 0)):=by kernel_rfl
theorem l13(n k:Nat)(s:List UInt8)(i:Int):LP cx S13 n 101 0 1 (k+1) [(0,.d (.str s)),(1,.d (.int .i64 i))] [] (AK cx S13 n 101 0 1 (EK cx 101 0))=bif decide (i<(↑s.length:Int)) then zh (decide (0≤i)&&decide (i<(↑s.length:Int))) (za s[i.toNat]? λ b=>bif decide ((↑b.toNat:Int)=(32:Int)) then bif decide ((↑b.toNat:Int)=(32:Int)) then LP cx S13 n 101 0 1 k [(0,V.d (D.str s)),(1,V.d (D.int .i64 (IntKind.i64.wrap (i+(1:Int)))))] [] (AK cx S13 n 101 0 1 (EK cx 101 0)) else bif decide ((↑b.toNat:Int)=(45:Int)) then zh (decide (0≤i)&&decide (i≤(↑s.length:Int))) (bif !zn (List.drop i.toNat (List.take s.length s)) [45,45] then some (Out.ret (V.d (D.int .i64 i)),[]) else LP cx S13 n 101 0 10 n [(0,V.d (D.str s)),(1,V.d (D.int .i64 i))] [] (AL cx S13 n 101 0 1 10 (inK cx S13 n 101 0 1 k (AK cx S13 n 101 0 1 (EK cx 101 0))))) else some (Out.ret (V.d (D.int .i64 i)),[]) else bif decide ((↑b.toNat:Int)=(9:Int)) then bif decide ((↑b.toNat:Int)=(9:Int)) then LP cx S13 n 101 0 1 k [(0,V.d (D.str s)),(1,V.d (D.int .i64 (IntKind.i64.wrap (i+(1:Int)))))] [] (AK cx S13 n 101 0 1 (EK cx 101 0)) else bif decide ((↑b.toNat:Int)=(45:Int)) then zh (decide (0≤i)&&decide (i≤(↑s.length:Int))) (bif !zn (List.drop i.toNat (List.take s.length s)) [45,45] then some (Out.ret (V.d (D.int .i64 i)),[]) else LP cx S13 n 101 0 10 n [(0,V.d (D.str s)),(1,V.d (D.int .i64 i))] [] (AL cx S13 n 101 0 1 10 (inK cx S13 n 101 0 1 k (AK cx S13 n 101 0 1 (EK cx 101 0))))) else some (Out.ret (V.d (D.int .i64 i)),[]) else bif decide ((↑b.toNat:Int)=(10:Int)) then bif decide ((↑b.toNat:Int)=(10:Int)) then LP cx S13 n 101 0 1 k [(0,V.d (D.str s)),(1,V.d (D.int .i64 (IntKind.i64.wrap (i+(1:Int)))))] [] (AK cx S13 n 101 0 1 (EK cx 101 0)) else bif decide ((↑b.toNat:Int)=(45:Int)) then zh (decide (0≤i)&&decide (i≤(↑s.length:Int))) (bif !zn (List.drop i.toNat (List.take s.length s)) [45,45] then some (Out.ret (V.d (D.int .i64 i)),[]) else LP cx S13 n 101 0 10 n [(0,V.d (D.str s)),(1,V.d (D.int .i64 i))] [] (AL cx S13 n 101 0 1 10 (inK cx S13 n 101 0 1 k (AK cx S13 n 101 0 1 (EK cx 101 0))))) else some (Out.ret (V.d (D.int .i64 i)),[]) else bif decide ((↑b.toNat:Int)=(13:Int)) then LP cx S13 n 101 0 1 k [(0,V.d (D.str s)),(1,V.d (D.int .i64 (IntKind.i64.wrap (i+(1:Int)))))] [] (AK cx S13 n 101 0 1 (EK cx 101 0)) else bif decide ((↑b.toNat:Int)=(45:Int)) then zh (decide (0≤i)&&decide (i≤(↑s.length:Int))) (bif !zn (List.drop i.toNat (List.take s.length s)) [45,45] then some (Out.ret (V.d (D.int .i64 i)),[]) else LP cx S13 n 101 0 10 n [(0,V.d (D.str s)),(1,V.d (D.int .i64 i))] [] (AL cx S13 n 101 0 1 10 (inK cx S13 n 101 0 1 k (AK cx S13 n 101 0 1 (EK cx 101 0))))) else some (Out.ret (V.d (D.int .i64 i)),[])) else some (Out.ret (V.d (D.int .i64 i)),[]):=by kernel_rfl
theorem z1v(n k k':Nat)(s:List UInt8)(i:Int):LP cx S13 n 101 0 10 (k+1) [(0,.d (.str s)),(1,.d (.int .i64 i))] [] (AL cx S13 n 101 0 1 10 (inK cx S13 n 101 0 1 k' (AK cx S13 n 101 0 1 (EK cx 101 0))))=bif decide (i<(↑s.length:Int)) then zh (decide (0≤i)&&decide (i<(↑s.length:Int))) (za s[i.toNat]? λ b=>bif !decide ((↑b.toNat:Int)=(10:Int)) then LP cx S13 n 101 0 10 k [(0,V.d (D.str s)),(1,V.d (D.int .i64 (IntKind.i64.wrap (i+(1:Int)))))] [] (AL cx S13 n 101 0 1 10 (inK cx S13 n 101 0 1 k' (AK cx S13 n 101 0 1 (EK cx 101 0)))) else LP cx S13 n 101 0 1 k' [(0,V.d (D.str s)),(1,V.d (D.int .i64 i))] [] (AK cx S13 n 101 0 1 (EK cx 101 0))) else LP cx S13 n 101 0 1 k' [(0,V.d (D.str s)),(1,V.d (D.int .i64 i))] [] (AK cx S13 n 101 0 1 (EK cx 101 0)):=by kernel_rfl
def xc:Bool→List UInt8→Nat→Nat
 | _,[],j=>j
 | true,b::r,j=>xc (!decide ((b.toNat:Int)=10)) r (j+1)
 | false,b::r,j=>bif zbb b.toNat then xc false r (j+1) else bif decide ((b.toNat:Int)=45)&&zn (b::r) [45,45] then xc true r (j+1) else j
theorem zns{s:List UInt8}(hs:s.length≤4611686018427387904){n:Nat}(hn:s.length<n):∀ (r:List UInt8) (j:Nat),s.drop j=r→j≤s.length →
  (∀ k,r.length<k→LP cx S13 n 101 0 1 k [(0,.d (.str s)),(1,.d (.int .i64 (j:Int)))] [] (AK cx S13 n 101 0 1 (EK cx 101 0))=some (.ret (.d (.int .i64 (xc false r j:Nat))),[])) ∧
  (∀ k k',r.length<k→r.length<k'→LP cx S13 n 101 0 10 k [(0,.d (.str s)),(1,.d (.int .i64 (j:Int)))] [] (AL cx S13 n 101 0 1 10 (inK cx S13 n 101 0 1 k' (AK cx S13 n 101 0 1 (EK cx 101 0)))) =
   some (.ret (.d (.int .i64 (xc true r j:Nat))),[]))
 | [],j,hr,hj=>by
  have:=drop_nil hr;have hge:decide ((j:Int)<(s.length:Int))=false:=pd (by omega)
  have outer:∀ k,0<k→LP cx S13 n 101 0 1 k [(0,.d (.str s)),(1,.d (.int .i64 (j:Int)))] [] (AK cx S13 n 101 0 1 (EK cx 101 0))=some (.ret (.d (.int .i64 (j:Nat))),[]):=by
   intro k hk;obtain ⟨k,rfl⟩:∃ i,k=i+1:=⟨k - 1,by omega⟩
   rw [l13,hge,p6]
  refine ⟨outer,λ k k' hk hk'=>?_⟩;obtain ⟨k,rfl⟩:∃ i,k=i+1:=⟨k - 1,by simp at hk; omega⟩
  rw [z1v,hge,p6,outer k' hk'];rfl
 | b::r,j,hr,hj=>by
  obtain ⟨h1,h2,h3⟩:=drop_cons hr;obtain ⟨ih1,ih2⟩:=zns hs hn r (j+1) h3 h1;have hlen:(b::r).length≤s.length:=by rw [←hr]; simp
  have h0:decide ((0:Int)≤(j:Int))=true:=pb (by omega)
  have hlt:decide ((j:Int)<(s.length:Int))=true:=pb (by omega)
  have hle:decide ((j:Int)≤(s.length:Int))=true:=pb (by omega)
  have hw:=z0g (show j≤4611686018427387904 by omega)
  have step:∀ k k',((b.toNat:Int)=10)=False→r.length<k'→r.length<k→LP cx S13 n 101 0 10 (k+1) [(0,.d (.str s)),(1,.d (.int .i64 (j:Int)))] [] (AL cx S13 n 101 0 1 10 (inK cx S13 n 101 0 1 k' (AK cx S13 n 101 0 1 (EK cx 101 0)))) =
    some (.ret (.d (.int .i64 (xc true r (j+1):Nat))),[]):=by
   intro k k' hb hk' hk;rw [z1v];simp only [hlt,h0,zh,p5,Bool.and_self,px,h2,za,hw,hb,decide_false,Bool.not_false];exact ih2 k k' hk hk'
  have outer:∀ k,(b::r).length<k→LP cx S13 n 101 0 1 k [(0,.d (.str s)),(1,.d (.int .i64 (j:Int)))] [] (AK cx S13 n 101 0 1 (EK cx 101 0))=some (.ret (.d (.int .i64 (xc false (b::r) j:Nat))),[]):=by
   intro k hk;obtain ⟨k,rfl⟩:∃ i,k=i+1:=⟨k - 1,by omega⟩
   obtain ⟨m,rfl⟩:∃ i,n=i+1:=⟨n - 1,by omega⟩
   have hk':r.length<k:=by simpa using hk
   rw [l13];simp only [hlt,h0,hle,zh,p5,Bool.and_self,px,h2,za,hw,ih1 k hk',List.take_length,hr,xc,zbb];by_cases h45:(b.toNat:Int)=45
   ·have e1:decide ((b.toNat:Int)=32)=false:=pd (by omega)
    have e2:decide ((b.toNat:Int)=9)=false:=pd (by omega)
    have e3:decide ((b.toNat:Int)=10)=false:=pd (by omega)
    have e4:decide ((b.toNat:Int)=13)=false:=pd (by omega)
    have e5:decide ((b.toNat:Int)=45)=true:=pb h45;have hin:=step m k (by simp; omega) hk' (by simp at hlen; omega)
    simp only [e1,e2,e3,e4,e5,p6,p5,Bool.or_self,Bool.true_and,hin];cases zn (b::r) [45,45] <;> rfl
   ·have e5:decide ((b.toNat:Int)=45)=false:=pd h45;simp only [e5,p6,Bool.false_and];cases decide ((b.toNat:Int)=32) <;> cases decide ((b.toNat:Int)=9) <;> cases decide ((b.toNat:Int)=10) <;> cases decide ((b.toNat:Int)=13) <;> rfl
  refine ⟨outer,λ k k' hk hk'=>?_⟩;obtain ⟨k,rfl⟩:∃ i,k=i+1:=⟨k - 1,by omega⟩
  by_cases hb:(b.toNat:Int)=10
  ·rw [z1v];simp only [hlt,h0,zh,p5,Bool.and_self,px,h2,za,hb,decide_true,Bool.not_true,p6];rw [outer k' hk'];simp [xc,zbb,hb]
  ·rw [step k k' (by simp [hb]) (by simp at hk'; omega) (by simpa using hk)]
   simp [xc,hb]
def yl(s:List UInt8)(j:Nat):Nat:=xc false (s.drop j) j
theorem z3r(s:List UInt8)(j:Nat)(hs:s.length≤4611686018427387904)(hj:j≤s.length):zl cx 101 [.d (.str s),.d (.int .i64 (j:Int))] []=some (.ret (.d (.int .i64 (yl s j:Nat))),[]):=by
 refine vd (N:=s.length+1) zo4 ?_;rw [b13];exact (zns hs (Nat.lt_succ_self _) (s.drop j) j rfl hj).1 _ (by simp; omega)
def zxl:List V→Option Out
 | [.d (.str s)]=>some (.ret (.d (.int .i64 (yt s:Nat))))
 | _=>none
theorem zsx{args:List V}{o:Out}(h:zxl args=some o):∃ s,args=[.d (.str s)]∧o=.ret (.d (.int .i64 (yt s:Nat))):=by
 unfold zxl at h;split at h
 ·cases h; exact ⟨_,rfl,rfl⟩
 ·cases h
def S14:yu:=zgm 143 zxl (zgm 142 zxe xx)
theorem zwp:knows cx S14 (zl cx):=qo zo4 λ args o hd h=>by
 obtain ⟨s,rfl,rfl⟩:=zsx h;exact z3o s (ph hd)
theorem b14(n:Nat)(s:List UInt8):zx cx S14 n 102 [.d (.str s)] []=zh (decide (s.length≤big)) (bif decide ((0:Int)<(↑(yt s):Int)) then zh (decide ((↑(yt s):Int)≤(↑s.length:Int))) (some (Out.ret (V.d (D.agg [D.int .i64 (1:Int),D.str (List.drop 0 (List.take (↑(yt s):Int).toNat s)),D.int .i64 (0:Int)])),[])) else LP cx S14 n 102 0 5 n [(0,V.d (D.str s)),(2,V.ptr 2 0),(14,V.d (D.agg [D.str [45,62],D.str [47,92],D.str [92,47],D.str [40],D.str [41],D.str [91],D.str [93],D.str [44],D.str [46],D.str [58],D.str [59],D.str [61],D.str [92],D.str [60],D.str [62],D.str [64],D.str [126],D.str [42],D.str [48],D.str [49]])),(15,V.d (D.int .i64 (0:Int)))] [(2,Ob.val 3 (V.d (D.agg [D.int .i64 (0:Int),D.str [],D.int .i64 (0:Int)])))] (AK cx S14 n 102 0 5 (EK cx 102 0))):=by kernel_rfl
theorem z33(n k:Nat)(s:List UInt8):LP cx S14 n 102 0 5 (k+1) [(0,.d (.str s)),(2,.ptr 2 0),(14,.d wb),(15,.d (.int .i64 0))] [(2,.val 3 (.d (.agg [.int .i64 0,.str [],.int .i64 0])))] (AK cx S14 n 102 0 5 (EK cx 102 0))=bif zn s [45,62] then some (Out.ret (V.d (D.agg [D.int .i64 (2:Int),D.str [45,62],D.int .i64 (0:Int)])),[]) else LP cx S14 n 102 0 5 k [(0,V.d (D.str s)),(2,V.ptr 2 0),(14,V.d (D.agg [D.str [45,62],D.str [47,92],D.str [92,47],D.str [40],D.str [41],D.str [91],D.str [93],D.str [44],D.str [46],D.str [58],D.str [59],D.str [61],D.str [92],D.str [60],D.str [62],D.str [64],D.str [126],D.str [42],D.str [48],D.str [49]])),(15,V.d (D.int .i64 (1:Int)))] [(2,Ob.val 3 (V.d (D.agg [D.int .i64 (0:Int),D.str [],D.int .i64 (0:Int)])))] (AK cx S14 n 102 0 5 (EK cx 102 0)):=by kernel_rfl
theorem z32(n k:Nat)(s:List UInt8):LP cx S14 n 102 0 5 (k+1) [(0,.d (.str s)),(2,.ptr 2 0),(14,.d wb),(15,.d (.int .i64 1))] [(2,.val 3 (.d (.agg [.int .i64 0,.str [],.int .i64 0])))] (AK cx S14 n 102 0 5 (EK cx 102 0))=bif zn s [47,92] then some (Out.ret (V.d (D.agg [D.int .i64 (2:Int),D.str [47,92],D.int .i64 (0:Int)])),[]) else LP cx S14 n 102 0 5 k [(0,V.d (D.str s)),(2,V.ptr 2 0),(14,V.d (D.agg [D.str [45,62],D.str [47,92],D.str [92,47],D.str [40],D.str [41],D.str [91],D.str [93],D.str [44],D.str [46],D.str [58],D.str [59],D.str [61],D.str [92],D.str [60],D.str [62],D.str [64],D.str [126],D.str [42],D.str [48],D.str [49]])),(15,V.d (D.int .i64 (2:Int)))] [(2,Ob.val 3 (V.d (D.agg [D.int .i64 (0:Int),D.str [],D.int .i64 (0:Int)])))] (AK cx S14 n 102 0 5 (EK cx 102 0)):=by kernel_rfl
theorem z30(n k:Nat)(s:List UInt8):LP cx S14 n 102 0 5 (k+1) [(0,.d (.str s)),(2,.ptr 2 0),(14,.d wb),(15,.d (.int .i64 2))] [(2,.val 3 (.d (.agg [.int .i64 0,.str [],.int .i64 0])))] (AK cx S14 n 102 0 5 (EK cx 102 0))=bif zn s [92,47] then some (Out.ret (V.d (D.agg [D.int .i64 (2:Int),D.str [92,47],D.int .i64 (0:Int)])),[]) else LP cx S14 n 102 0 5 k [(0,V.d (D.str s)),(2,V.ptr 2 0),(14,V.d (D.agg [D.str [45,62],D.str [47,92],D.str [92,47],D.str [40],D.str [41],D.str [91],D.str [93],D.str [44],D.str [46],D.str [58],D.str [59],D.str [61],D.str [92],D.str [60],D.str [62],D.str [64],D.str [126],D.str [42],D.str [48],D.str [49]])),(15,V.d (D.int .i64 (3:Int)))] [(2,Ob.val 3 (V.d (D.agg [D.int .i64 (0:Int),D.str [],D.int .i64 (0:Int)])))] (AK cx S14 n 102 0 5 (EK cx 102 0)):=by kernel_rfl
theorem z3z(n k:Nat)(s:List UInt8):LP cx S14 n 102 0 5 (k+1) [(0,.d (.str s)),(2,.ptr 2 0),(14,.d wb),(15,.d (.int .i64 3))] [(2,.val 3 (.d (.agg [.int .i64 0,.str [],.int .i64 0])))] (AK cx S14 n 102 0 5 (EK cx 102 0))=bif zn s [40] then some (Out.ret (V.d (D.agg [D.int .i64 (2:Int),D.str [40],D.int .i64 (0:Int)])),[]) else LP cx S14 n 102 0 5 k [(0,V.d (D.str s)),(2,V.ptr 2 0),(14,V.d (D.agg [D.str [45,62],D.str [47,92],D.str [92,47],D.str [40],D.str [41],D.str [91],D.str [93],D.str [44],D.str [46],D.str [58],D.str [59],D.str [61],D.str [92],D.str [60],D.str [62],D.str [64],D.str [126],D.str [42],D.str [48],D.str [49]])),(15,V.d (D.int .i64 (4:Int)))] [(2,Ob.val 3 (V.d (D.agg [D.int .i64 (0:Int),D.str [],D.int .i64 (0:Int)])))] (AK cx S14 n 102 0 5 (EK cx 102 0)):=by kernel_rfl
theorem z3y(n k:Nat)(s:List UInt8):LP cx S14 n 102 0 5 (k+1) [(0,.d (.str s)),(2,.ptr 2 0),(14,.d wb),(15,.d (.int .i64 4))] [(2,.val 3 (.d (.agg [.int .i64 0,.str [],.int .i64 0])))] (AK cx S14 n 102 0 5 (EK cx 102 0))=bif zn s [41] then some (Out.ret (V.d (D.agg [D.int .i64 (2:Int),D.str [41],D.int .i64 (0:Int)])),[]) else LP cx S14 n 102 0 5 k [(0,V.d (D.str s)),(2,V.ptr 2 0),(14,V.d (D.agg [D.str [45,62],D.str [47,92],D.str [92,47],D.str [40],D.str [41],D.str [91],D.str [93],D.str [44],D.str [46],D.str [58],D.str [59],D.str [61],D.str [92],D.str [60],D.str [62],D.str [64],D.str [126],D.str [42],D.str [48],D.str [49]])),(15,V.d (D.int .i64 (5:Int)))] [(2,Ob.val 3 (V.d (D.agg [D.int .i64 (0:Int),D.str [],D.int .i64 (0:Int)])))] (AK cx S14 n 102 0 5 (EK cx 102 0)):=by kernel_rfl
theorem z3x(n k:Nat)(s:List UInt8):LP cx S14 n 102 0 5 (k+1) [(0,.d (.str s)),(2,.ptr 2 0),(14,.d wb),(15,.d (.int .i64 5))] [(2,.val 3 (.d (.agg [.int .i64 0,.str [],.int .i64 0])))] (AK cx S14 n 102 0 5 (EK cx 102 0))=bif zn s [91] then some (Out.ret (V.d (D.agg [D.int .i64 (2:Int),D.str [91],D.int .i64 (0:Int)])),[]) else LP cx S14 n 102 0 5 k [(0,V.d (D.str s)),(2,V.ptr 2 0),(14,V.d (D.agg [D.str [45,62],D.str [47,92],D.str [92,47],D.str [40],D.str [41],D.str [91],D.str [93],D.str [44],D.str [46],D.str [58],D.str [59],D.str [61],D.str [92],D.str [60],D.str [62],D.str [64],D.str [126],D.str [42],D.str [48],D.str [49]])),(15,V.d (D.int .i64 (6:Int)))] [(2,Ob.val 3 (V.d (D.agg [D.int .i64 (0:Int),D.str [],D.int .i64 (0:Int)])))] (AK cx S14 n 102 0 5 (EK cx 102 0)):=by kernel_rfl
theorem z3w(n k:Nat)(s:List UInt8):LP cx S14 n 102 0 5 (k+1) [(0,.d (.str s)),(2,.ptr 2 0),(14,.d wb),(15,.d (.int .i64 6))] [(2,.val 3 (.d (.agg [.int .i64 0,.str [],.int .i64 0])))] (AK cx S14 n 102 0 5 (EK cx 102 0))=bif zn s [93] then some (Out.ret (V.d (D.agg [D.int .i64 (2:Int),D.str [93],D.int .i64 (0:Int)])),[]) else LP cx S14 n 102 0 5 k [(0,V.d (D.str s)),(2,V.ptr 2 0),(14,V.d (D.agg [D.str [45,62],D.str [47,92],D.str [92,47],D.str [40],D.str [41],D.str [91],D.str [93],D.str [44],D.str [46],D.str [58],D.str [59],D.str [61],D.str [92],D.str [60],D.str [62],D.str [64],D.str [126],D.str [42],D.str [48],D.str [49]])),(15,V.d (D.int .i64 (7:Int)))] [(2,Ob.val 3 (V.d (D.agg [D.int .i64 (0:Int),D.str [],D.int .i64 (0:Int)])))] (AK cx S14 n 102 0 5 (EK cx 102 0)):=by kernel_rfl
theorem z3v(n k:Nat)(s:List UInt8):LP cx S14 n 102 0 5 (k+1) [(0,.d (.str s)),(2,.ptr 2 0),(14,.d wb),(15,.d (.int .i64 7))] [(2,.val 3 (.d (.agg [.int .i64 0,.str [],.int .i64 0])))] (AK cx S14 n 102 0 5 (EK cx 102 0))=bif zn s [44] then some (Out.ret (V.d (D.agg [D.int .i64 (2:Int),D.str [44],D.int .i64 (0:Int)])),[]) else LP cx S14 n 102 0 5 k [(0,V.d (D.str s)),(2,V.ptr 2 0),(14,V.d (D.agg [D.str [45,62],D.str [47,92],D.str [92,47],D.str [40],D.str [41],D.str [91],D.str [93],D.str [44],D.str [46],D.str [58],D.str [59],D.str [61],D.str [92],D.str [60],D.str [62],D.str [64],D.str [126],D.str [42],D.str [48],D.str [49]])),(15,V.d (D.int .i64 (8:Int)))] [(2,Ob.val 3 (V.d (D.agg [D.int .i64 (0:Int),D.str [],D.int .i64 (0:Int)])))] (AK cx S14 n 102 0 5 (EK cx 102 0)):=by kernel_rfl
theorem z3u(n k:Nat)(s:List UInt8):LP cx S14 n 102 0 5 (k+1) [(0,.d (.str s)),(2,.ptr 2 0),(14,.d wb),(15,.d (.int .i64 8))] [(2,.val 3 (.d (.agg [.int .i64 0,.str [],.int .i64 0])))] (AK cx S14 n 102 0 5 (EK cx 102 0))=bif zn s [46] then some (Out.ret (V.d (D.agg [D.int .i64 (2:Int),D.str [46],D.int .i64 (0:Int)])),[]) else LP cx S14 n 102 0 5 k [(0,V.d (D.str s)),(2,V.ptr 2 0),(14,V.d (D.agg [D.str [45,62],D.str [47,92],D.str [92,47],D.str [40],D.str [41],D.str [91],D.str [93],D.str [44],D.str [46],D.str [58],D.str [59],D.str [61],D.str [92],D.str [60],D.str [62],D.str [64],D.str [126],D.str [42],D.str [48],D.str [49]])),(15,V.d (D.int .i64 (9:Int)))] [(2,Ob.val 3 (V.d (D.agg [D.int .i64 (0:Int),D.str [],D.int .i64 (0:Int)])))] (AK cx S14 n 102 0 5 (EK cx 102 0)):=by kernel_rfl
theorem z3t(n k:Nat)(s:List UInt8):LP cx S14 n 102 0 5 (k+1) [(0,.d (.str s)),(2,.ptr 2 0),(14,.d wb),(15,.d (.int .i64 9))] [(2,.val 3 (.d (.agg [.int .i64 0,.str [],.int .i64 0])))] (AK cx S14 n 102 0 5 (EK cx 102 0))=bif zn s [58] then some (Out.ret (V.d (D.agg [D.int .i64 (2:Int),D.str [58],D.int .i64 (0:Int)])),[]) else LP cx S14 n 102 0 5 k [(0,V.d (D.str s)),(2,V.ptr 2 0),(14,V.d (D.agg [D.str [45,62],D.str [47,92],D.str [92,47],D.str [40],D.str [41],D.str [91],D.str [93],D.str [44],D.str [46],D.str [58],D.str [59],D.str [61],D.str [92],D.str [60],D.str [62],D.str [64],D.str [126],D.str [42],D.str [48],D.str [49]])),(15,V.d (D.int .i64 (10:Int)))] [(2,Ob.val 3 (V.d (D.agg [D.int .i64 (0:Int),D.str [],D.int .i64 (0:Int)])))] (AK cx S14 n 102 0 5 (EK cx 102 0)):=by kernel_rfl
theorem z1u(n k:Nat)(s:List UInt8):LP cx S14 n 102 0 5 (k+1) [(0,.d (.str s)),(2,.ptr 2 0),(14,.d wb),(15,.d (.int .i64 10))] [(2,.val 3 (.d (.agg [.int .i64 0,.str [],.int .i64 0])))] (AK cx S14 n 102 0 5 (EK cx 102 0))=bif zn s [59] then some (Out.ret (V.d (D.agg [D.int .i64 (2:Int),D.str [59],D.int .i64 (0:Int)])),[]) else LP cx S14 n 102 0 5 k [(0,V.d (D.str s)),(2,V.ptr 2 0),(14,V.d (D.agg [D.str [45,62],D.str [47,92],D.str [92,47],D.str [40],D.str [41],D.str [91],D.str [93],D.str [44],D.str [46],D.str [58],D.str [59],D.str [61],D.str [92],D.str [60],D.str [62],D.str [64],D.str [126],D.str [42],D.str [48],D.str [49]])),(15,V.d (D.int .i64 (11:Int)))] [(2,Ob.val 3 (V.d (D.agg [D.int .i64 (0:Int),D.str [],D.int .i64 (0:Int)])))] (AK cx S14 n 102 0 5 (EK cx 102 0)):=by kernel_rfl
theorem z1t(n k:Nat)(s:List UInt8):LP cx S14 n 102 0 5 (k+1) [(0,.d (.str s)),(2,.ptr 2 0),(14,.d wb),(15,.d (.int .i64 11))] [(2,.val 3 (.d (.agg [.int .i64 0,.str [],.int .i64 0])))] (AK cx S14 n 102 0 5 (EK cx 102 0))=bif zn s [61] then some (Out.ret (V.d (D.agg [D.int .i64 (2:Int),D.str [61],D.int .i64 (0:Int)])),[]) else LP cx S14 n 102 0 5 k [(0,V.d (D.str s)),(2,V.ptr 2 0),(14,V.d (D.agg [D.str [45,62],D.str [47,92],D.str [92,47],D.str [40],D.str [41],D.str [91],D.str [93],D.str [44],D.str [46],D.str [58],D.str [59],D.str [61],D.str [92],D.str [60],D.str [62],D.str [64],D.str [126],D.str [42],D.str [48],D.str [49]])),(15,V.d (D.int .i64 (12:Int)))] [(2,Ob.val 3 (V.d (D.agg [D.int .i64 (0:Int),D.str [],D.int .i64 (0:Int)])))] (AK cx S14 n 102 0 5 (EK cx 102 0)):=by kernel_rfl
theorem z1s(n k:Nat)(s:List UInt8):LP cx S14 n 102 0 5 (k+1) [(0,.d (.str s)),(2,.ptr 2 0),(14,.d wb),(15,.d (.int .i64 12))] [(2,.val 3 (.d (.agg [.int .i64 0,.str [],.int .i64 0])))] (AK cx S14 n 102 0 5 (EK cx 102 0))=bif zn s [92] then some (Out.ret (V.d (D.agg [D.int .i64 (2:Int),D.str [92],D.int .i64 (0:Int)])),[]) else LP cx S14 n 102 0 5 k [(0,V.d (D.str s)),(2,V.ptr 2 0),(14,V.d (D.agg [D.str [45,62],D.str [47,92],D.str [92,47],D.str [40],D.str [41],D.str [91],D.str [93],D.str [44],D.str [46],D.str [58],D.str [59],D.str [61],D.str [92],D.str [60],D.str [62],D.str [64],D.str [126],D.str [42],D.str [48],D.str [49]])),(15,V.d (D.int .i64 (13:Int)))] [(2,Ob.val 3 (V.d (D.agg [D.int .i64 (0:Int),D.str [],D.int .i64 (0:Int)])))] (AK cx S14 n 102 0 5 (EK cx 102 0)):=by kernel_rfl
theorem z1r(n k:Nat)(s:List UInt8):LP cx S14 n 102 0 5 (k+1) [(0,.d (.str s)),(2,.ptr 2 0),(14,.d wb),(15,.d (.int .i64 13))] [(2,.val 3 (.d (.agg [.int .i64 0,.str [],.int .i64 0])))] (AK cx S14 n 102 0 5 (EK cx 102 0))=bif zn s [60] then some (Out.ret (V.d (D.agg [D.int .i64 (2:Int),D.str [60],D.int .i64 (0:Int)])),[]) else LP cx S14 n 102 0 5 k [(0,V.d (D.str s)),(2,V.ptr 2 0),(14,V.d (D.agg [D.str [45,62],D.str [47,92],D.str [92,47],D.str [40],D.str [41],D.str [91],D.str [93],D.str [44],D.str [46],D.str [58],D.str [59],D.str [61],D.str [92],D.str [60],D.str [62],D.str [64],D.str [126],D.str [42],D.str [48],D.str [49]])),(15,V.d (D.int .i64 (14:Int)))] [(2,Ob.val 3 (V.d (D.agg [D.int .i64 (0:Int),D.str [],D.int .i64 (0:Int)])))] (AK cx S14 n 102 0 5 (EK cx 102 0)):=by kernel_rfl
theorem z1q(n k:Nat)(s:List UInt8):LP cx S14 n 102 0 5 (k+1) [(0,.d (.str s)),(2,.ptr 2 0),(14,.d wb),(15,.d (.int .i64 14))] [(2,.val 3 (.d (.agg [.int .i64 0,.str [],.int .i64 0])))] (AK cx S14 n 102 0 5 (EK cx 102 0))=bif zn s [62] then some (Out.ret (V.d (D.agg [D.int .i64 (2:Int),D.str [62],D.int .i64 (0:Int)])),[]) else LP cx S14 n 102 0 5 k [(0,V.d (D.str s)),(2,V.ptr 2 0),(14,V.d (D.agg [D.str [45,62],D.str [47,92],D.str [92,47],D.str [40],D.str [41],D.str [91],D.str [93],D.str [44],D.str [46],D.str [58],D.str [59],D.str [61],D.str [92],D.str [60],D.str [62],D.str [64],D.str [126],D.str [42],D.str [48],D.str [49]])),(15,V.d (D.int .i64 (15:Int)))] [(2,Ob.val 3 (V.d (D.agg [D.int .i64 (0:Int),D.str [],D.int .i64 (0:Int)])))] (AK cx S14 n 102 0 5 (EK cx 102 0)):=by kernel_rfl
theorem z1p(n k:Nat)(s:List UInt8):LP cx S14 n 102 0 5 (k+1) [(0,.d (.str s)),(2,.ptr 2 0),(14,.d wb),(15,.d (.int .i64 15))] [(2,.val 3 (.d (.agg [.int .i64 0,.str [],.int .i64 0])))] (AK cx S14 n 102 0 5 (EK cx 102 0))=bif zn s [64] then some (Out.ret (V.d (D.agg [D.int .i64 (2:Int),D.str [64],D.int .i64 (0:Int)])),[]) else LP cx S14 n 102 0 5 k [(0,V.d (D.str s)),(2,V.ptr 2 0),(14,V.d (D.agg [D.str [45,62],D.str [47,92],D.str [92,47],D.str [40],D.str [41],D.str [91],D.str [93],D.str [44],D.str [46],D.str [58],D.str [59],D.str [61],D.str [92],D.str [60],D.str [62],D.str [64],D.str [126],D.str [42],D.str [48],D.str [49]])),(15,V.d (D.int .i64 (16:Int)))] [(2,Ob.val 3 (V.d (D.agg [D.int .i64 (0:Int),D.str [],D.int .i64 (0:Int)])))] (AK cx S14 n 102 0 5 (EK cx 102 0)):=by kernel_rfl
theorem z1o(n k:Nat)(s:List UInt8):LP cx S14 n 102 0 5 (k+1) [(0,.d (.str s)),(2,.ptr 2 0),(14,.d wb),(15,.d (.int .i64 16))] [(2,.val 3 (.d (.agg [.int .i64 0,.str [],.int .i64 0])))] (AK cx S14 n 102 0 5 (EK cx 102 0))=bif zn s [126] then some (Out.ret (V.d (D.agg [D.int .i64 (2:Int),D.str [126],D.int .i64 (0:Int)])),[]) else LP cx S14 n 102 0 5 k [(0,V.d (D.str s)),(2,V.ptr 2 0),(14,V.d (D.agg [D.str [45,62],D.str [47,92],D.str [92,47],D.str [40],D.str [41],D.str [91],D.str [93],D.str [44],D.str [46],D.str [58],D.str [59],D.str [61],D.str [92],D.str [60],D.str [62],D.str [64],D.str [126],D.str [42],D.str [48],D.str [49]])),(15,V.d (D.int .i64 (17:Int)))] [(2,Ob.val 3 (V.d (D.agg [D.int .i64 (0:Int),D.str [],D.int .i64 (0:Int)])))] (AK cx S14 n 102 0 5 (EK cx 102 0)):=by kernel_rfl
theorem z1n(n k:Nat)(s:List UInt8):LP cx S14 n 102 0 5 (k+1) [(0,.d (.str s)),(2,.ptr 2 0),(14,.d wb),(15,.d (.int .i64 17))] [(2,.val 3 (.d (.agg [.int .i64 0,.str [],.int .i64 0])))] (AK cx S14 n 102 0 5 (EK cx 102 0))=bif zn s [42] then some (Out.ret (V.d (D.agg [D.int .i64 (2:Int),D.str [42],D.int .i64 (0:Int)])),[]) else LP cx S14 n 102 0 5 k [(0,V.d (D.str s)),(2,V.ptr 2 0),(14,V.d (D.agg [D.str [45,62],D.str [47,92],D.str [92,47],D.str [40],D.str [41],D.str [91],D.str [93],D.str [44],D.str [46],D.str [58],D.str [59],D.str [61],D.str [92],D.str [60],D.str [62],D.str [64],D.str [126],D.str [42],D.str [48],D.str [49]])),(15,V.d (D.int .i64 (18:Int)))] [(2,Ob.val 3 (V.d (D.agg [D.int .i64 (0:Int),D.str [],D.int .i64 (0:Int)])))] (AK cx S14 n 102 0 5 (EK cx 102 0)):=by kernel_rfl
theorem z1m(n k:Nat)(s:List UInt8):LP cx S14 n 102 0 5 (k+1) [(0,.d (.str s)),(2,.ptr 2 0),(14,.d wb),(15,.d (.int .i64 18))] [(2,.val 3 (.d (.agg [.int .i64 0,.str [],.int .i64 0])))] (AK cx S14 n 102 0 5 (EK cx 102 0))=bif zn s [48] then some (Out.ret (V.d (D.agg [D.int .i64 (2:Int),D.str [48],D.int .i64 (0:Int)])),[]) else LP cx S14 n 102 0 5 k [(0,V.d (D.str s)),(2,V.ptr 2 0),(14,V.d (D.agg [D.str [45,62],D.str [47,92],D.str [92,47],D.str [40],D.str [41],D.str [91],D.str [93],D.str [44],D.str [46],D.str [58],D.str [59],D.str [61],D.str [92],D.str [60],D.str [62],D.str [64],D.str [126],D.str [42],D.str [48],D.str [49]])),(15,V.d (D.int .i64 (19:Int)))] [(2,Ob.val 3 (V.d (D.agg [D.int .i64 (0:Int),D.str [],D.int .i64 (0:Int)])))] (AK cx S14 n 102 0 5 (EK cx 102 0)):=by kernel_rfl
theorem z1l(n k:Nat)(s:List UInt8):LP cx S14 n 102 0 5 (k+1) [(0,.d (.str s)),(2,.ptr 2 0),(14,.d wb),(15,.d (.int .i64 19))] [(2,.val 3 (.d (.agg [.int .i64 0,.str [],.int .i64 0])))] (AK cx S14 n 102 0 5 (EK cx 102 0))=bif zn s [49] then some (Out.ret (V.d (D.agg [D.int .i64 (2:Int),D.str [49],D.int .i64 (0:Int)])),[]) else LP cx S14 n 102 0 5 k [(0,V.d (D.str s)),(2,V.ptr 2 0),(14,V.d (D.agg [D.str [45,62],D.str [47,92],D.str [92,47],D.str [40],D.str [41],D.str [91],D.str [93],D.str [44],D.str [46],D.str [58],D.str [59],D.str [61],D.str [92],D.str [60],D.str [62],D.str [64],D.str [126],D.str [42],D.str [48],D.str [49]])),(15,V.d (D.int .i64 (20:Int)))] [(2,Ob.val 3 (V.d (D.agg [D.int .i64 (0:Int),D.str [],D.int .i64 (0:Int)])))] (AK cx S14 n 102 0 5 (EK cx 102 0)):=by kernel_rfl
theorem z1k(n k:Nat)(s:List UInt8):LP cx S14 n 102 0 5 (k+1) [(0,.d (.str s)),(2,.ptr 2 0),(14,.d wb),(15,.d (.int .i64 20))] [(2,.val 3 (.d (.agg [.int .i64 0,.str [],.int .i64 0])))] (AK cx S14 n 102 0 5 (EK cx 102 0))=some (Out.ret (V.d (D.agg [D.int .i64 (0:Int),D.str [],D.int .i64 (0:Int)])),[]):=by kernel_rfl
def v6:List (List UInt8):=[[45,62],[47,92],[92,47],[40],[41],[91],[93],[44],[46],[58],[59],[61],[92],[60],[62],[64],[126],[42],[48],[49]]
def z6(s:List UInt8):List (List UInt8)→Int×List UInt8
 | []=>(0,[])
 | x::r=>bif zn s x then (2,x) else z6 s r
def yg(s:List UInt8):Int×List UInt8:=bif decide (0<yt s) then (1,s.take (yt s)) else z6 s v6
theorem znz:∀ (r:List UInt8) (j:Nat),y7 r j≤j+r.length
 | [],j=>by simp [y7]
 | b::r,j=>by
  simp only [y7];cases (yq b.toNat||(decide (0<j)&&wl b.toNat))
  ·simp
  ·have:=znz r (j+1);simp only [p5,p7];omega
theorem zlc(s:List UInt8):yt s≤s.length:=by simpa [yt] using znz s 0
def z03(p:Int×List UInt8):Option (Out×St):=some (.ret (.d (.agg [.int .i64 p.1,.str p.2,.int .i64 0])),[])
theorem zxg(s:List UInt8):LP cx S14 21 102 0 5 21 [(0,.d (.str s)),(2,.ptr 2 0),(14,.d wb),(15,.d (.int .i64 0))] [(2,.val 3 (.d (.agg [.int .i64 0,.str [],.int .i64 0])))] (AK cx S14 21 102 0 5 (EK cx 102 0)) =
  z03 (z6 s v6):=by
 unfold v6;refine (z33 21 20 s).trans ?_;unfold z6;cases zn s [45,62]
 case true=>rfl
 simp only [p6];refine (z32 21 19 s).trans ?_;unfold z6;cases zn s [47,92]
 case true=>rfl
 simp only [p6];refine (z30 21 18 s).trans ?_;unfold z6;cases zn s [92,47]
 case true=>rfl
 simp only [p6];refine (z3z 21 17 s).trans ?_;unfold z6;cases zn s [40]
 case true=>rfl
 simp only [p6];refine (z3y 21 16 s).trans ?_;unfold z6;cases zn s [41]
 case true=>rfl
 simp only [p6];refine (z3x 21 15 s).trans ?_;unfold z6;cases zn s [91]
 case true=>rfl
 simp only [p6];refine (z3w 21 14 s).trans ?_;unfold z6;cases zn s [93]
 case true=>rfl
 simp only [p6];refine (z3v 21 13 s).trans ?_;unfold z6;cases zn s [44]
 case true=>rfl
 simp only [p6];refine (z3u 21 12 s).trans ?_;unfold z6;cases zn s [46]
 case true=>rfl
 simp only [p6];refine (z3t 21 11 s).trans ?_;unfold z6;cases zn s [58]
 case true=>rfl
 simp only [p6];refine (z1u 21 10 s).trans ?_;unfold z6;cases zn s [59]
 case true=>rfl
 simp only [p6];refine (z1t 21 9 s).trans ?_;unfold z6;cases zn s [61]
 case true=>rfl
 simp only [p6];refine (z1s 21 8 s).trans ?_;unfold z6;cases zn s [92]
 case true=>rfl
 simp only [p6];refine (z1r 21 7 s).trans ?_;unfold z6;cases zn s [60]
 case true=>rfl
 simp only [p6];refine (z1q 21 6 s).trans ?_;unfold z6;cases zn s [62]
 case true=>rfl
 simp only [p6];refine (z1p 21 5 s).trans ?_;unfold z6;cases zn s [64]
 case true=>rfl
 simp only [p6];refine (z1o 21 4 s).trans ?_;unfold z6;cases zn s [126]
 case true=>rfl
 simp only [p6];refine (z1n 21 3 s).trans ?_;unfold z6;cases zn s [42]
 case true=>rfl
 simp only [p6];refine (z1m 21 2 s).trans ?_;unfold z6;cases zn s [48]
 case true=>rfl
 simp only [p6];refine (z1l 21 1 s).trans ?_;unfold z6;cases zn s [49]
 case true=>rfl
 simp only [p6];exact z1k 21 0 s
theorem z3q(s:List UInt8)(hs:s.length≤4611686018427387904):zl cx 102 [.d (.str s)] []=some (.ret (.d (.agg [.int .i64 (yg s).1,.str (yg s).2,.int .i64 0])),[]):=by
 refine vd (N:=21) zwp ?_;rw [b14];have h1:decide (s.length≤big)=true:=pb hs;simp only [h1,zh,p5];unfold yg;have hle:=zlc s;by_cases h:0<yt s
 ·have e1:decide ((0:Int)<((yt s:Nat):Int))=true:=pb (by omega)
  have e2:decide (((yt s:Nat):Int)≤(s.length:Int))=true:=pb (by omega)
  have e3:decide (0<yt s)=true:=pb h;simp only [e1,e2,e3,p5,List.drop_zero,px]
 ·have e1:decide ((0:Int)<((yt s:Nat):Int))=false:=pd (by omega)
  have e3:decide (0<yt s)=false:=pd h;simp only [e1,e3,p6];exact zxg s
theorem zbq:∀ (r:List UInt8) (c:Bool) (j:Nat),j≤xc c r j∧xc c r j≤j+r.length
 | [],c,j=>by cases c <;> simp [xc]
 | b::r,true,j=>by
  have:=zbq r (!decide ((b.toNat:Int)=10)) (j+1);simp only [xc,p7];omega
 | b::r,false,j=>by
  have h1:=zbq r false (j+1);have h2:=zbq r true (j+1);simp only [xc,p7];cases zbb b.toNat
  ·simp only [p6];cases (decide ((b.toNat:Int)=45)&&zn (b::r) [45,45])
   ·simp
   ·simp only [p5]; omega
  ·simp only [p5]; omega
theorem wu{s:List UInt8}{j:Nat}(hj:j≤s.length):j≤yl s j∧yl s j≤s.length:=by
 have:=zbq (s.drop j) false j;unfold yl;simp at this;omega
theorem zkr(s:List UInt8):∀ (l:List (List UInt8)),(z6 s l).2=s.take (z6 s l).2.length
 | []=>by simp [z6]
 | x::l=>by
  simp only [z6];cases h:zn s x
  ·exact zkr s l
  ·simp only [p5];exact (ph h).symm
theorem zy8(s:List UInt8):(yg s).2=s.take (yg s).2.length:=by
 unfold yg;by_cases h:0<yt s
 ·rw [pb h,p5];have:=zlc s;simp [List.length_take,Nat.min_eq_left this]
 ·rw [pd h,p6];exact zkr s _
theorem zsp(s:List UInt8):(yg s).2.length≤s.length:=by
 have:=congrArg List.length (zy8 s);rw [List.length_take] at this;omega
def x7(b:UInt8):Bool:=decide (128≤b.toNat)&&decide (b.toNat≤191)
def yc:List UInt8→Nat
 | []=>0
 | b::r=>
  bif decide (b.toNat<128) then 1
  else bif decide (194≤b.toNat)&&decide (b.toNat≤223) then
   (match r with | c::_=>bif x7 c then 2 else 0 | []=>0)
  else bif decide (224≤b.toNat)&&decide (b.toNat≤239) then
   (match r with
    | c::d::_=>bif decide ((bif decide (b.toNat=224) then 160 else 128)≤c.toNat)&&decide (c.toNat≤(bif decide (b.toNat=237) then 159 else 191))&&x7 d then 3 else 0
    | _=>0)
  else bif decide (240≤b.toNat)&&decide (b.toNat≤244) then
   (match r with
    | c::d::e::_=>bif decide ((bif decide (b.toNat=240) then 144 else 128)≤c.toNat)&&decide (c.toNat≤(bif decide (b.toNat=244) then 143 else 191))&&x7 d&&x7 e then 4 else 0
    | _=>0)
  else 0
theorem zwx:∀ (l:List UInt8),yc l≤l.length
 | []=>Nat.le_refl _
 | [b]=>by
  simp only [yc];cases decide (b.toNat<128) <;> cases (decide (194≤b.toNat)&&decide (b.toNat≤223)) <;> cases (decide (224≤b.toNat)&&decide (b.toNat≤239)) <;> cases (decide (240≤b.toNat)&&decide (b.toNat≤244)) <;> simp
 | [b,c]=>by
  simp only [yc];cases decide (b.toNat<128) <;> cases (decide (194≤b.toNat)&&decide (b.toNat≤223)) <;> cases (decide (224≤b.toNat)&&decide (b.toNat≤239)) <;> cases (decide (240≤b.toNat)&&decide (b.toNat≤244)) <;> cases x7 c <;> simp
 | [b,c,d]=>by
  simp only [yc]
  cases decide (b.toNat<128) <;> cases (decide (194≤b.toNat)&&decide (b.toNat≤223)) <;> cases (decide (224≤b.toNat)&&decide (b.toNat≤239)) <;> cases (decide (240≤b.toNat)&&decide (b.toNat≤244)) <;> cases x7 c <;>
   simp only [p5,p6] <;> (try split) <;> simp_all <;> (first | omega | (rw [Bool.cond_eq_ite]; split <;> omega))
 | b::c::d::e::r=>by
  have h:yc (b::c::d::e::r)≤4:=by
   simp only [yc]
   cases decide (b.toNat<128) <;> cases (decide (194≤b.toNat)&&decide (b.toNat≤223)) <;> cases (decide (224≤b.toNat)&&decide (b.toNat≤239)) <;> cases (decide (240≤b.toNat)&&decide (b.toNat≤244)) <;> cases x7 c <;>
    simp only [p5,p6] <;> (first | omega | (rw [Bool.cond_eq_ite]; split <;> omega))
  simp only [p7];omega
noncomputable def wo(s:List UInt8):Int×Int:=match zl cx 100 [.d (.str s)] [] with | some (.ret (.tup [.d (.int _ r),.d (.int _ n)]),_)=>(r,n) | _=>(0,0)
noncomputable def z4h:List V→Option Out | [.d (.str s)]=>some (.ret (.tup [.d (.int .i32 (wo s).1),.d (.int .i64 (wo s).2)])) | _=>none
def z0j:List V→Option Out | [.d (.str s),.d (.int .i64 a)]=>some (.ret (.d (.int .i64 (yl s a.toNat:Nat)))) | _=>none
def z2v:List V→Option Out | [.d (.str s)]=>some (.ret (.d (.agg [.int .i64 (yg s).1,.str (yg s).2,.int .i64 0]))) | _=>none
noncomputable def S7:yu:=zgm 100 z4h (zgm 101 z0j (zgm 102 z2v xx))
theorem b7(n:Nat)(s:List UInt8):zx cx S7 n 63 [.d (.str s)] [(0,.tok 0)]=bif decide ((65536:Int)<(↑s.length:Int)) then some (Out.ret (V.tup [V.d (D.sl 3 []),V.d (D.int .i64 (0:Int)),V.d (D.int .i64 (3:Int))]),[(0,Ob.tok 0)]) else LP cx S7 n 63 1 4 n [(0,V.d (D.str s)),(5,V.d (D.int .i64 (0:Int)))] [(0,Ob.tok 0)] (AK cx S7 n 63 1 4 (EK cx 63 1)):=by kernel_rfl
theorem l7a(n k:Nat)(s:List UInt8)(i:Int):LP cx S7 n 63 1 4 (k+1) [(0,.d (.str s)),(5,.d (.int .i64 i))] [(0,.tok 0)] (AK cx S7 n 63 1 4 (EK cx 63 1))=bif decide (i<(↑s.length:Int)) then zh (decide (0≤i)&&decide (i≤(↑s.length:Int))) (zh (decide ((List.drop i.toNat (List.take s.length s)).length≤big)) (bif decide ((wo (List.drop i.toNat (List.take s.length s))).fst=(65533:Int)) then bif decide ((wo (List.drop i.toNat (List.take s.length s))).snd<(2:Int)) then some (Out.ret (V.tup [V.d (D.sl 3 []),V.d (D.int .i64 i),V.d (D.int .i64 (60:Int))]),[(0,Ob.tok 0)]) else LP cx S7 n 63 1 4 k [(0,V.d (D.str s)),(5,V.d (D.int .i64 (IntKind.i64.wrap (i+(wo (List.drop i.toNat (List.take s.length s))).snd))))] [(0,Ob.tok 0)] (AK cx S7 n 63 1 4 (EK cx 63 1)) else LP cx S7 n 63 1 4 k [(0,V.d (D.str s)),(5,V.d (D.int .i64 (IntKind.i64.wrap (i+(wo (List.drop i.toNat (List.take s.length s))).snd))))] [(0,Ob.tok 0)] (AK cx S7 n 63 1 4 (EK cx 63 1)))) else zh (decide (s.length≤big)&&true) (LP cx S7 n 63 1 11 n [(0,V.d (D.str s)),(8,V.sl 3 [] 9),(9,V.d (D.int .i64 (↑(yl s (0:Int).toNat):Int)))] [(0,Ob.tok 0),(9,Ob.tok 0)] (AK cx S7 n 63 1 11 (EK cx 63 1))):=by kernel_rfl
theorem l7b(n k:Nat)(s:List UInt8)(i:Int)(l:List D):LP cx S7 n 63 1 11 (k+1) [(0,.d (.str s)),(8,.sl 3 l 9),(9,.d (.int .i64 i))] [(0,.tok 0),(9,.tok l.length)] (AK cx S7 n 63 1 11 (EK cx 63 1))=bif decide (i<(↑s.length:Int)) then zh (decide (0≤i)&&decide (i≤(↑s.length:Int))) (zh (decide ((List.drop i.toNat (List.take s.length s)).length≤big)) (bif decide ((yg (List.drop i.toNat (List.take s.length s))).2=[]) then some (Out.ret (V.tup [V.d (D.sl 3 []),V.d (D.int .i64 i),V.d (D.int .i64 (61:Int))]),[(0,Ob.tok 0)]) else zh (decide (l.length=l.length)&&decide (l.length+[D.agg [D.int .i64 (yg (List.drop i.toNat (List.take s.length s))).fst,D.str (yg (List.drop i.toNat (List.take s.length s))).2,D.int .i64 i]].length≤4294967296)) (zh (decide (s.length≤big)&&(decide (0≤IntKind.i64.wrap (i+(↑(yg (List.drop i.toNat (List.take s.length s))).2.length:Int)))&&decide (IntKind.i64.wrap (i+(↑(yg (List.drop i.toNat (List.take s.length s))).2.length:Int))≤(↑s.length:Int)))) (LP cx S7 n 63 1 11 k [(0,V.d (D.str s)),(8,V.sl 3 (l++[D.agg [D.int .i64 (yg (List.drop i.toNat (List.take s.length s))).fst,D.str (yg (List.drop i.toNat (List.take s.length s))).2,D.int .i64 i]]) 9),(9,V.d (D.int .i64 (↑(yl s (IntKind.i64.wrap (i+(↑(yg (List.drop i.toNat (List.take s.length s))).2.length:Int))).toNat):Int)))] [(0,Ob.tok 0),(9,Ob.tok (l.length+[D.agg [D.int .i64 (yg (List.drop i.toNat (List.take s.length s))).fst,D.str (yg (List.drop i.toNat (List.take s.length s))).2,D.int .i64 i]].length))] (AK cx S7 n 63 1 11 (EK cx 63 1)))))) else zh (decide (l.length=l.length)&&decide (l.length+[D.agg [D.int .i64 (0:Int),D.str [],D.int .i64 (↑s.length:Int)]].length≤4294967296)) (bif decide (l.length+[D.agg [D.int .i64 (0:Int),D.str [],D.int .i64 (↑s.length:Int)]].length=(l++[D.agg [D.int .i64 (0:Int),D.str [],D.int .i64 (↑s.length:Int)]]).length)&&true then some (Out.ret (V.tup [V.sl 3 (l++[D.agg [D.int .i64 (0:Int),D.str [],D.int .i64 (↑s.length:Int)]]) 0,V.d (D.int .i64 (0:Int)),V.d (D.int .i64 (0:Int))]),[(0,Ob.tok (l.length+[D.agg [D.int .i64 (0:Int),D.str [],D.int .i64 (↑s.length:Int)]].length))]) else some (Out.ret (V.tup [V.d (D.sl 3 (l++[D.agg [D.int .i64 (0:Int),D.str [],D.int .i64 (↑s.length:Int)]])),V.d (D.int .i64 (0:Int)),V.d (D.int .i64 (0:Int))]),[(0,Ob.tok 0)])):=by kernel_rfl
def zy(k:Int)(t:List UInt8)(a:Int):D:=.agg [.int .i64 k,.str t,.int .i64 a]
def qh:Nat→List UInt8→Nat→List D→List D×Int×Int
 | 0,_,_,_=>([],0,0)
 | f+1,s,j,l=>bif decide (j<s.length) then
   (bif decide ((yg (s.drop j)).2=[]) then ([],j,61)
    else qh f s (yl s (j+(yg (s.drop j)).2.length)) (l++[zy (yg (s.drop j)).1 (yg (s.drop j)).2 j]))
  else (l++[zy 0 [] s.length],0,0)
def z1y(l:List D):V:=match l with | []=>.d (.sl 3 []) | x::r=>.sl 3 (x::r) 0
theorem zrl(l:List D)(x:D):z1y (l++[x])=.sl 3 (l++[x]) 0:=by cases l <;> rfl
def zd9(r:List D×Int×Int):Option (Out×St):=some (.ret (.tup [z1y r.1,.d (.int .i64 r.2.1),.d (.int .i64 r.2.2)]),[(0,.tok r.1.length)])
theorem ziq{s:List UInt8}(hs:s.length≤65536)(n:Nat):∀ (f j k:Nat) (l:List D),s.length - j<f→f≤k→j≤s.length→l.length+(s.length - j)≤65536 →
  LP cx S7 n 63 1 11 k [(0,.d (.str s)),(8,.sl 3 l 9),(9,.d (.int .i64 (j:Int)))] [(0,.tok 0),(9,.tok l.length)] (AK cx S7 n 63 1 11 (EK cx 63 1))=zd9 (qh f s j l)
 | 0,j,k,l,h,_,_,_=>by omega
 | f+1,j,k,l,h,hk,hj,hl=>by
  obtain ⟨k,rfl⟩:∃ i,k=i+1:=⟨k - 1,by omega⟩
  rw [l7b];have hll:decide (l.length=l.length)=true:=pb rfl;by_cases hlt:j<s.length
  ·have e1:decide ((j:Int)<(s.length:Int))=true:=pb (by omega)
   have e2:decide ((0:Int)≤(j:Int))=true:=pb (by omega)
   have e3:decide ((j:Int)≤(s.length:Int))=true:=pb (by omega)
   have e4:decide (j<s.length)=true:=pb hlt;have e5:decide ((s.drop j).length≤big)=true:=pb (by simp [big]; omega)
   have hone:=zsp (s.drop j);rw [List.length_drop] at hone;have hw:IntKind.i64.wrap ((j:Int)+((yg (s.drop j)).2.length:Int))=((j+(yg (s.drop j)).2.length:Nat):Int):=by
    rw [IntWalk.i64_in _ (by omega)]; omega
   simp only [e1,e2,e3,zh,p5,Bool.and_self,px,List.take_length,e5,hw,qh,e4,hll,Bool.true_and];by_cases ht:(yg (s.drop j)).2=[]
   ·rw [pb ht,p5,p5]; rfl
   ·rw [pd ht,p6,p6];have hpos:0<(yg (s.drop j)).2.length:=List.length_pos_iff.2 ht;have hb:=wu (s:=s) (j:=j+(yg (s.drop j)).2.length) (by omega)
    have ih:=ziq hs n f (yl s (j+(yg (s.drop j)).2.length)) k (l++[zy (yg (s.drop j)).1 (yg (s.drop j)).2 j]) (by omega) (by omega) hb.2 (by simp; omega)
    have e6:decide (l.length+[D.agg [D.int .i64 (yg (s.drop j)).fst,D.str (yg (s.drop j)).2,D.int .i64 (j:Int)]].length≤4294967296)=true:=pb (by simp; omega)
    have e7:decide (s.length≤big)=true:=pb (by simp [big]; omega)
    have e8:decide ((0:Int)≤((j+(yg (s.drop j)).2.length:Nat):Int))=true:=pb (by omega)
    have e9:decide (((j+(yg (s.drop j)).2.length:Nat):Int)≤(s.length:Int))=true:=pb (by omega)
    simp only [e6,e7,e8,e9,p5,Bool.and_self];rw [pj] at ih;exact ih
  ·have e1:decide ((j:Int)<(s.length:Int))=false:=pd (by omega)
   have e4:decide (j<s.length)=false:=pd hlt;have e6:decide (l.length+[D.agg [D.int .i64 (0:Int),D.str [],D.int .i64 (s.length:Int)]].length≤4294967296)=true:=pb (by simp; omega)
   have e8:decide (l.length+[D.agg [D.int .i64 (0:Int),D.str [],D.int .i64 (s.length:Int)]].length=(l++[D.agg [D.int .i64 (0:Int),D.str [],D.int .i64 (s.length:Int)]]).length)=true:=pb (by simp)
   simp only [e1,p6,qh,e4,hll,Bool.true_and,zh,e6,e8,p5,zd9,zy,zrl];rw [pj,pb trivial];rfl
def wy:Nat→List UInt8→Nat→Option Nat
 | _,[],_=>none
 | 0,_::_,j=>some j
 | f+1,b::r,j=>bif Nat.beq (yc (b::r)) 0 then some j else wy f ((b::r).drop (yc (b::r))) (j+yc (b::r))
def z0t:Prop:=∀ l,l ≠ []→(yc l=0→(wo l).1=65533∧(wo l).2<2)∧(yc l ≠ 0→(wo l).2=yc l∧((wo l).2<2→(wo l).1 ≠ 65533))
def zwu(s:List UInt8):Option Nat→Option (Out×St)
 | some p=>zd9 ([],p,60)
 | none=>zd9 (qh (s.length+1) s (yl s 0) [])
theorem zwt(hdec:z0t){s:List UInt8}(hs:s.length≤65536){n:Nat}(hn:s.length<n):∀ (f j k:Nat),s.length - j≤f→f<k→j≤s.length →
  LP cx S7 n 63 1 4 k [(0,.d (.str s)),(5,.d (.int .i64 (j:Int)))] [(0,.tok 0)] (AK cx S7 n 63 1 4 (EK cx 63 1))=zwu s (wy f (s.drop j) j):=by
 intro f
 induction f with
 | zero=>
  intro j k h hk hj;obtain ⟨k,rfl⟩:∃ i,k=i+1:=⟨k - 1,by omega⟩
  have hnil:s.drop j=[]:=List.drop_eq_nil_of_le (by omega)
  have e1:decide ((j:Int)<(s.length:Int))=false:=pd (by omega)
  have e7:decide (s.length≤big)=true:=pb (by simp [big]; omega)
  have hb:=wu (s:=s) (j:=0) (Nat.zero_le _);rw [l7a,hnil];simp only [e1,p6,e7,zh,Bool.and_self,p5,Int.toNat_zero];exact ziq hs n (s.length+1) (yl s 0) n [] (by omega) (by omega) hb.2 (by simp; omega)
 | succ f ih=>
  intro j k h hk hj;obtain ⟨k,rfl⟩:∃ i,k=i+1:=⟨k - 1,by omega⟩
  have e7:decide (s.length≤big)=true:=pb (by simp [big]; omega)
  have hb:=wu (s:=s) (j:=0) (Nat.zero_le _);rw [l7a];cases hd:s.drop j with
  | nil=>
   have:=drop_nil hd;have e1:decide ((j:Int)<(s.length:Int))=false:=pd (by omega)
   simp only [e1,p6,e7,zh,Bool.and_self,p5,Int.toNat_zero];exact ziq hs n (s.length+1) (yl s 0) n [] (by omega) (by omega) hb.2 (by simp; omega)
  | cons b r=>
   obtain ⟨h1,_,_⟩:=drop_cons hd;have e1:decide ((j:Int)<(s.length:Int))=true:=pb (by omega)
   have e2:decide ((0:Int)≤(j:Int))=true:=pb (by omega)
   have e3:decide ((j:Int)≤(s.length:Int))=true:=pb (by omega)
   have hlen:(b::r).length=s.length - j:=by rw [←hd]; simp
   have e5:decide ((b::r).length≤big)=true:=pb (by rw [hlen]; simp [big]; omega)
   obtain ⟨hbad,hgood⟩:=hdec (b::r) (by simp)
   simp only [e1,e2,e3,zh,p5,Bool.and_self,px,List.take_length,hd,e5,wy];by_cases hu:yc (b::r)=0
   ·obtain ⟨g1,g2⟩:=hbad hu;rw [pb g1,pb g2,hu];rfl
   ·obtain ⟨g1,g2⟩:=hgood hu;have hle:=zwx (b::r);have hw:IntKind.i64.wrap ((j:Int)+(wo (b::r)).2)=((j+yc (b::r):Nat):Int):=by
     rw [g1,IntWalk.i64_in _ (by omega)]; omega
    have hbq:Nat.beq (yc (b::r)) 0=false:=zif hu;have step:=ih (j+yc (b::r)) k (by omega) (by omega) (by omega)
    rw [←List.drop_drop,hd] at step;simp only [hbq,p6,hw];by_cases h65:(wo (b::r)).1=65533
    ·have h2 : ¬ (wo (b::r)).2<2:=λ hlt=>g2 hlt h65;rw [pb h65,pd h2];exact step
    ·rw [pd h65];exact step
def we(s:List UInt8):List D×Int×Int:=
 bif decide (65536<s.length) then ([],0,3)
 else match wy s.length s 0 with
  | some p=>([],p,60)
  | none=>qh (s.length+1) s (yl s 0) []
def zm4(l:List UInt8):Prop:=∃ r n:Int,zl cx 141 [.d (.str l)] []=some (.ret (.tup [.d (.int .i32 r),.d (.int .i64 n)]),[]) ∧
 (yc l=0→r=65533∧n<2)∧(yc l ≠ 0→n=yc l∧(n<2→r ≠ 65533))
theorem yk{l:List UInt8}(h:zx cx xx 0 141 [.d (.str l)] []=some (.ret (.tup [.d (.int .i32 65533),.d (.int .i64 1)]),[]))(hu:yc l=0):zm4 l:=
 ⟨65533,1,vd (N:=0) (wg cx) h,λ _=>⟨rfl,by omega⟩,λ h=>absurd hu h⟩
theorem zen{l:List UInt8}{r k:Int}(h:zx cx xx 0 141 [.d (.str l)] []=some (.ret (.tup [.d (.int .i32 r),.d (.int .i64 k)]),[]))(hu:k=yc l)(hk:2≤k):zm4 l:=
 ⟨r,k,vd (N:=0) (wg cx) h,λ h0=>by omega,λ _=>⟨hu,λ h2=>by omega⟩⟩
theorem w5(b:UInt8)(l:List UInt8):decide ((0:Int)<((b::l).length:Int))=true:=pb (by simp only [p7]; omega)
theorem vp(b c:UInt8)(l:List UInt8):decide ((1:Int)<((b::c::l).length:Int))=true:=pb (by simp only [p7]; omega)
theorem vo(b c d:UInt8)(l:List UInt8):decide ((2:Int)<((b::c::d::l).length:Int))=true:=pb (by simp only [p7]; omega)
theorem vn(b c d e:UInt8)(l:List UInt8):decide ((3:Int)<((b::c::d::e::l).length:Int))=true:=pb (by simp only [p7]; omega)
theorem ge2(b c:UInt8)(l:List UInt8):decide (((b::c::l).length:Int)<(2:Int))=false:=pd (by simp only [p7]; omega)
theorem ge3(b c d:UInt8)(l:List UInt8):decide (((b::c::d::l).length:Int)<(3:Int))=false:=pd (by simp only [p7]; omega)
theorem ge4(b c d e:UInt8)(l:List UInt8):decide (((b::c::d::e::l).length:Int)<(4:Int))=false:=pd (by simp only [p7]; omega)
theorem at1(b c:UInt8)(l:List UInt8):(b::c::l)[(1:Int).toNat]?=some c:=rfl
theorem at2(b c d:UInt8)(l:List UInt8):(b::c::d::l)[(2:Int).toNat]?=some d:=rfl
theorem at3(b c d e:UInt8)(l:List UInt8):(b::c::d::e::l)[(3:Int).toNat]?=some e:=rfl
theorem zgt{c:UInt8}(h1 : ¬ (c.toNat:Int)<128)(h2 : ¬ (191:Int)<(c.toNat:Int)):x7 c=true:=by
 unfold x7;rw [pb (by omega),pb (by omega)]; rfl
theorem zav{c:UInt8}(h:(c.toNat:Int)<128∨(191:Int)<(c.toNat:Int)):x7 c=false:=by
 unfold x7;rcases h with h | h
 ·rw [pd (by omega)]; rfl
 ·rw [pd (p:=c.toNat≤191) (by omega),Bool.and_false]
theorem zex(n:Nat)(S:yu)(r:List UInt8):zx cx S n 141 [.d (.str (224::r))] []=zh (decide ((0:Int)<(↑(224::r).length:Int))) (bif decide ((↑(224::r).length:Int)<(3:Int)) then some (Out.ret (V.tup [V.d (D.int IntKind.i32 (65533:Int)),V.d (D.int .i64 (1:Int))]),[]) else zh (decide ((1:Int)<(↑(224::r).length:Int))) (za (224::r)[(1:Int).toNat]? λ b=>bif decide ((↑b.toNat:Int)<(160:Int)) then some (Out.ret (V.tup [V.d (D.int IntKind.i32 (65533:Int)),V.d (D.int .i64 (1:Int))]),[]) else bif decide ((191:Int)<(↑b.toNat:Int)) then some (Out.ret (V.tup [V.d (D.int IntKind.i32 (65533:Int)),V.d (D.int .i64 (1:Int))]),[]) else zh (decide ((2:Int)<(↑(224::r).length:Int))) (za (224::r)[(2:Int).toNat]? λ b_1=>bif decide ((↑b_1.toNat:Int)<(128:Int)) then some (Out.ret (V.tup [V.d (D.int IntKind.i32 (65533:Int)),V.d (D.int .i64 (1:Int))]),[]) else bif decide ((191:Int)<(↑b_1.toNat:Int)) then some (Out.ret (V.tup [V.d (D.int IntKind.i32 (65533:Int)),V.d (D.int .i64 (1:Int))]),[]) else some (Out.ret (V.tup [V.d (D.int IntKind.i32 (xf BinOp.or IntKind.i32 (xf BinOp.or IntKind.i32 (0:Int) (IntKind.i32.wrap (IntKind.i32.wrap (xf BinOp.and IntKind.u8 (↑b.toNat:Int) (63:Int)) * 2 ^ min (6:Int).toNat IntKind.i32.bits))) (IntKind.i32.wrap (xf BinOp.and IntKind.u8 (↑b_1.toNat:Int) (63:Int))))),V.d (D.int .i64 (3:Int))]),[])))):=by kernel_rfl
theorem zew(n:Nat)(S:yu)(r:List UInt8):zx cx S n 141 [.d (.str (237::r))] []=zh (decide ((0:Int)<(↑(237::r).length:Int))) (bif decide ((↑(237::r).length:Int)<(3:Int)) then some (Out.ret (V.tup [V.d (D.int IntKind.i32 (65533:Int)),V.d (D.int .i64 (1:Int))]),[]) else zh (decide ((1:Int)<(↑(237::r).length:Int))) (za (237::r)[(1:Int).toNat]? λ b=>bif decide ((↑b.toNat:Int)<(128:Int)) then some (Out.ret (V.tup [V.d (D.int IntKind.i32 (65533:Int)),V.d (D.int .i64 (1:Int))]),[]) else bif decide ((159:Int)<(↑b.toNat:Int)) then some (Out.ret (V.tup [V.d (D.int IntKind.i32 (65533:Int)),V.d (D.int .i64 (1:Int))]),[]) else zh (decide ((2:Int)<(↑(237::r).length:Int))) (za (237::r)[(2:Int).toNat]? λ b_1=>bif decide ((↑b_1.toNat:Int)<(128:Int)) then some (Out.ret (V.tup [V.d (D.int IntKind.i32 (65533:Int)),V.d (D.int .i64 (1:Int))]),[]) else bif decide ((191:Int)<(↑b_1.toNat:Int)) then some (Out.ret (V.tup [V.d (D.int IntKind.i32 (65533:Int)),V.d (D.int .i64 (1:Int))]),[]) else some (Out.ret (V.tup [V.d (D.int IntKind.i32 (xf BinOp.or IntKind.i32 (xf BinOp.or IntKind.i32 (53248:Int) (IntKind.i32.wrap (IntKind.i32.wrap (xf BinOp.and IntKind.u8 (↑b.toNat:Int) (63:Int)) * 2 ^ min (6:Int).toNat IntKind.i32.bits))) (IntKind.i32.wrap (xf BinOp.and IntKind.u8 (↑b_1.toNat:Int) (63:Int))))),V.d (D.int .i64 (3:Int))]),[])))):=by kernel_rfl
theorem zbs(n:Nat)(S:yu)(r:List UInt8):zx cx S n 141 [.d (.str (240::r))] []=zh (decide ((0:Int)<(↑(240::r).length:Int))) (bif decide ((↑(240::r).length:Int)<(4:Int)) then some (Out.ret (V.tup [V.d (D.int IntKind.i32 (65533:Int)),V.d (D.int .i64 (1:Int))]),[]) else zh (decide ((1:Int)<(↑(240::r).length:Int))) (za (240::r)[(1:Int).toNat]? λ b=>bif decide ((↑b.toNat:Int)<(144:Int)) then some (Out.ret (V.tup [V.d (D.int IntKind.i32 (65533:Int)),V.d (D.int .i64 (1:Int))]),[]) else bif decide ((191:Int)<(↑b.toNat:Int)) then some (Out.ret (V.tup [V.d (D.int IntKind.i32 (65533:Int)),V.d (D.int .i64 (1:Int))]),[]) else zh (decide ((2:Int)<(↑(240::r).length:Int))) (za (240::r)[(2:Int).toNat]? λ b_1=>bif decide ((↑b_1.toNat:Int)<(128:Int)) then some (Out.ret (V.tup [V.d (D.int IntKind.i32 (65533:Int)),V.d (D.int .i64 (1:Int))]),[]) else bif decide ((191:Int)<(↑b_1.toNat:Int)) then some (Out.ret (V.tup [V.d (D.int IntKind.i32 (65533:Int)),V.d (D.int .i64 (1:Int))]),[]) else zh (decide ((3:Int)<(↑(240::r).length:Int))) (za (240::r)[(3:Int).toNat]? λ b_2=>bif decide ((↑b_2.toNat:Int)<(128:Int)) then some (Out.ret (V.tup [V.d (D.int IntKind.i32 (65533:Int)),V.d (D.int .i64 (1:Int))]),[]) else bif decide ((191:Int)<(↑b_2.toNat:Int)) then some (Out.ret (V.tup [V.d (D.int IntKind.i32 (65533:Int)),V.d (D.int .i64 (1:Int))]),[]) else some (Out.ret (V.tup [V.d (D.int IntKind.i32 (xf BinOp.or IntKind.i32 (xf BinOp.or IntKind.i32 (xf BinOp.or IntKind.i32 (0:Int) (IntKind.i32.wrap (IntKind.i32.wrap (xf BinOp.and IntKind.u8 (↑b.toNat:Int) (63:Int)) * 2 ^ min (12:Int).toNat IntKind.i32.bits))) (IntKind.i32.wrap (IntKind.i32.wrap (xf BinOp.and IntKind.u8 (↑b_1.toNat:Int) (63:Int)) * 2 ^ min (6:Int).toNat IntKind.i32.bits))) (IntKind.i32.wrap (xf BinOp.and IntKind.u8 (↑b_2.toNat:Int) (63:Int))))),V.d (D.int .i64 (4:Int))]),[]))))):=by kernel_rfl
theorem zbr(n:Nat)(S:yu)(r:List UInt8):zx cx S n 141 [.d (.str (244::r))] []=zh (decide ((0:Int)<(↑(244::r).length:Int))) (bif decide ((↑(244::r).length:Int)<(4:Int)) then some (Out.ret (V.tup [V.d (D.int IntKind.i32 (65533:Int)),V.d (D.int .i64 (1:Int))]),[]) else zh (decide ((1:Int)<(↑(244::r).length:Int))) (za (244::r)[(1:Int).toNat]? λ b=>bif decide ((↑b.toNat:Int)<(128:Int)) then some (Out.ret (V.tup [V.d (D.int IntKind.i32 (65533:Int)),V.d (D.int .i64 (1:Int))]),[]) else bif decide ((143:Int)<(↑b.toNat:Int)) then some (Out.ret (V.tup [V.d (D.int IntKind.i32 (65533:Int)),V.d (D.int .i64 (1:Int))]),[]) else zh (decide ((2:Int)<(↑(244::r).length:Int))) (za (244::r)[(2:Int).toNat]? λ b_1=>bif decide ((↑b_1.toNat:Int)<(128:Int)) then some (Out.ret (V.tup [V.d (D.int IntKind.i32 (65533:Int)),V.d (D.int .i64 (1:Int))]),[]) else bif decide ((191:Int)<(↑b_1.toNat:Int)) then some (Out.ret (V.tup [V.d (D.int IntKind.i32 (65533:Int)),V.d (D.int .i64 (1:Int))]),[]) else zh (decide ((3:Int)<(↑(244::r).length:Int))) (za (244::r)[(3:Int).toNat]? λ b_2=>bif decide ((↑b_2.toNat:Int)<(128:Int)) then some (Out.ret (V.tup [V.d (D.int IntKind.i32 (65533:Int)),V.d (D.int .i64 (1:Int))]),[]) else bif decide ((191:Int)<(↑b_2.toNat:Int)) then some (Out.ret (V.tup [V.d (D.int IntKind.i32 (65533:Int)),V.d (D.int .i64 (1:Int))]),[]) else some (Out.ret (V.tup [V.d (D.int IntKind.i32 (xf BinOp.or IntKind.i32 (xf BinOp.or IntKind.i32 (xf BinOp.or IntKind.i32 (1048576:Int) (IntKind.i32.wrap (IntKind.i32.wrap (xf BinOp.and IntKind.u8 (↑b.toNat:Int) (63:Int)) * 2 ^ min (12:Int).toNat IntKind.i32.bits))) (IntKind.i32.wrap (IntKind.i32.wrap (xf BinOp.and IntKind.u8 (↑b_1.toNat:Int) (63:Int)) * 2 ^ min (6:Int).toNat IntKind.i32.bits))) (IntKind.i32.wrap (xf BinOp.and IntKind.u8 (↑b_2.toNat:Int) (63:Int))))),V.d (D.int .i64 (4:Int))]),[]))))):=by kernel_rfl
theorem zz9:∀ (l:List UInt8),zm4 (224::l)
 | []=>by
  refine yk ?_ rfl;rw [zex];rfl
 | [c]=>yk (by rw [zex]; rfl) rfl
 | c::d::l=>by
  have hu:yc (224::c::d::l)=(bif decide (160≤c.toNat)&&decide (c.toNat≤191)&&x7 d then 3 else 0):=rfl;by_cases h0a:(c.toNat:Int)<160
  ·exact yk (by rw [zex]; simp only [w5,vp,vo,vn,ge2,ge3,ge4,at1,at2,at3,zh,za,p5,p6,pb h0a]) (by rw [hu,pd (p:=160≤c.toNat) (by omega)]; simp only [Bool.false_and,p6])
  by_cases h0b:(191:Int)<(c.toNat:Int)
  ·exact yk (by rw [zex]; simp only [w5,vp,vo,vn,ge2,ge3,ge4,at1,at2,at3,zh,za,p5,p6,pd h0a,pb h0b]) (by rw [hu,pd (p:=c.toNat≤191) (by omega)]; simp only [Bool.and_false,Bool.false_and,p6])
  by_cases h1a:(d.toNat:Int)<128
  ·exact yk (by rw [zex]; simp only [w5,vp,vo,vn,ge2,ge3,ge4,at1,at2,at3,zh,za,p5,p6,pd h0a,pd h0b,pb h1a]) (by rw [hu,zav (c:=d) (.inl h1a)]; simp only [Bool.and_false,Bool.false_and,p6])
  by_cases h1b:(191:Int)<(d.toNat:Int)
  ·exact yk (by rw [zex]; simp only [w5,vp,vo,vn,ge2,ge3,ge4,at1,at2,at3,zh,za,p5,p6,pd h0a,pd h0b,pd h1a,pb h1b]) (by rw [hu,zav (c:=d) (.inr h1b)]; simp only [Bool.and_false,Bool.false_and,p6])
  exact zen (k:=3) (by rw [zex]; simp only [w5,vp,vo,vn,ge2,ge3,ge4,at1,at2,at3,zh,za,p5,p6,pd h0a,pd h0b,pd h1a,pd h1b]; rfl) (by rw [hu,pb (p:=160≤c.toNat) (by omega),pb (p:=c.toNat≤191) (by omega),zgt (c:=d) h1a h1b]; first | done | rfl) (by omega)
theorem zz8:∀ (l:List UInt8),zm4 (237::l)
 | []=>by
  refine yk ?_ rfl;rw [zew];rfl
 | [c]=>yk (by rw [zew]; rfl) rfl
 | c::d::l=>by
  have hu:yc (237::c::d::l)=(bif decide (128≤c.toNat)&&decide (c.toNat≤159)&&x7 d then 3 else 0):=rfl;by_cases h0a:(c.toNat:Int)<128
  ·exact yk (by rw [zew]; simp only [w5,vp,vo,vn,ge2,ge3,ge4,at1,at2,at3,zh,za,p5,p6,pb h0a]) (by rw [hu,pd (p:=128≤c.toNat) (by omega)]; simp only [Bool.false_and,p6])
  by_cases h0b:(159:Int)<(c.toNat:Int)
  ·exact yk (by rw [zew]; simp only [w5,vp,vo,vn,ge2,ge3,ge4,at1,at2,at3,zh,za,p5,p6,pd h0a,pb h0b]) (by rw [hu,pd (p:=c.toNat≤159) (by omega)]; simp only [Bool.and_false,Bool.false_and,p6])
  by_cases h1a:(d.toNat:Int)<128
  ·exact yk (by rw [zew]; simp only [w5,vp,vo,vn,ge2,ge3,ge4,at1,at2,at3,zh,za,p5,p6,pd h0a,pd h0b,pb h1a]) (by rw [hu,zav (c:=d) (.inl h1a)]; simp only [Bool.and_false,Bool.false_and,p6])
  by_cases h1b:(191:Int)<(d.toNat:Int)
  ·exact yk (by rw [zew]; simp only [w5,vp,vo,vn,ge2,ge3,ge4,at1,at2,at3,zh,za,p5,p6,pd h0a,pd h0b,pd h1a,pb h1b]) (by rw [hu,zav (c:=d) (.inr h1b)]; simp only [Bool.and_false,Bool.false_and,p6])
  exact zen (k:=3) (by rw [zew]; simp only [w5,vp,vo,vn,ge2,ge3,ge4,at1,at2,at3,zh,za,p5,p6,pd h0a,pd h0b,pd h1a,pd h1b]; rfl) (by rw [hu,pb (p:=128≤c.toNat) (by omega),pb (p:=c.toNat≤159) (by omega),zgt (c:=d) h1a h1b]; first | done | rfl) (by omega)
theorem zz7:∀ (l:List UInt8),zm4 (240::l)
 | []=>by
  refine yk ?_ rfl;rw [zbs];rfl
 | [c]=>yk (by rw [zbs]; rfl) rfl
 | [c,d]=>yk (by rw [zbs]; rfl) rfl
 | c::d::e::l=>by
  have hu:yc (240::c::d::e::l)=(bif decide (144≤c.toNat)&&decide (c.toNat≤191)&&x7 d&&x7 e then 4 else 0):=rfl;by_cases h0a:(c.toNat:Int)<144
  ·exact yk (by rw [zbs]; simp only [w5,vp,vo,vn,ge2,ge3,ge4,at1,at2,at3,zh,za,p5,p6,pb h0a]) (by rw [hu,pd (p:=144≤c.toNat) (by omega)]; simp only [Bool.false_and,p6])
  by_cases h0b:(191:Int)<(c.toNat:Int)
  ·exact yk (by rw [zbs]; simp only [w5,vp,vo,vn,ge2,ge3,ge4,at1,at2,at3,zh,za,p5,p6,pd h0a,pb h0b]) (by rw [hu,pd (p:=c.toNat≤191) (by omega)]; simp only [Bool.and_false,Bool.false_and,p6])
  by_cases h1a:(d.toNat:Int)<128
  ·exact yk (by rw [zbs]; simp only [w5,vp,vo,vn,ge2,ge3,ge4,at1,at2,at3,zh,za,p5,p6,pd h0a,pd h0b,pb h1a]) (by rw [hu,zav (c:=d) (.inl h1a)]; simp only [Bool.and_false,Bool.false_and,p6])
  by_cases h1b:(191:Int)<(d.toNat:Int)
  ·exact yk (by rw [zbs]; simp only [w5,vp,vo,vn,ge2,ge3,ge4,at1,at2,at3,zh,za,p5,p6,pd h0a,pd h0b,pd h1a,pb h1b]) (by rw [hu,zav (c:=d) (.inr h1b)]; simp only [Bool.and_false,Bool.false_and,p6])
  by_cases h2a:(e.toNat:Int)<128
  ·exact yk (by rw [zbs]; simp only [w5,vp,vo,vn,ge2,ge3,ge4,at1,at2,at3,zh,za,p5,p6,pd h0a,pd h0b,pd h1a,pd h1b,pb h2a]) (by rw [hu,zav (c:=e) (.inl h2a)]; simp only [Bool.and_false,Bool.false_and,p6])
  by_cases h2b:(191:Int)<(e.toNat:Int)
  ·exact yk (by rw [zbs]; simp only [w5,vp,vo,vn,ge2,ge3,ge4,at1,at2,at3,zh,za,p5,p6,pd h0a,pd h0b,pd h1a,pd h1b,pd h2a,pb h2b]) (by rw [hu,zav (c:=e) (.inr h2b)]; simp only [Bool.and_false,Bool.false_and,p6])
  exact zen (k:=4) (by rw [zbs]; simp only [w5,vp,vo,vn,ge2,ge3,ge4,at1,at2,at3,zh,za,p5,p6,pd h0a,pd h0b,pd h1a,pd h1b,pd h2a,pd h2b]; rfl) (by rw [hu,pb (p:=144≤c.toNat) (by omega),pb (p:=c.toNat≤191) (by omega),zgt (c:=d) h1a h1b,zgt (c:=e) h2a h2b]; first | done | rfl) (by omega)
theorem zz6:∀ (l:List UInt8),zm4 (244::l)
 | []=>by
  refine yk ?_ rfl;rw [zbr];rfl
 | [c]=>yk (by rw [zbr]; rfl) rfl
 | [c,d]=>yk (by rw [zbr]; rfl) rfl
 | c::d::e::l=>by
  have hu:yc (244::c::d::e::l)=(bif decide (128≤c.toNat)&&decide (c.toNat≤143)&&x7 d&&x7 e then 4 else 0):=rfl;by_cases h0a:(c.toNat:Int)<128
  ·exact yk (by rw [zbr]; simp only [w5,vp,vo,vn,ge2,ge3,ge4,at1,at2,at3,zh,za,p5,p6,pb h0a]) (by rw [hu,pd (p:=128≤c.toNat) (by omega)]; simp only [Bool.false_and,p6])
  by_cases h0b:(143:Int)<(c.toNat:Int)
  ·exact yk (by rw [zbr]; simp only [w5,vp,vo,vn,ge2,ge3,ge4,at1,at2,at3,zh,za,p5,p6,pd h0a,pb h0b]) (by rw [hu,pd (p:=c.toNat≤143) (by omega)]; simp only [Bool.and_false,Bool.false_and,p6])
  by_cases h1a:(d.toNat:Int)<128
  ·exact yk (by rw [zbr]; simp only [w5,vp,vo,vn,ge2,ge3,ge4,at1,at2,at3,zh,za,p5,p6,pd h0a,pd h0b,pb h1a]) (by rw [hu,zav (c:=d) (.inl h1a)]; simp only [Bool.and_false,Bool.false_and,p6])
  by_cases h1b:(191:Int)<(d.toNat:Int)
  ·exact yk (by rw [zbr]; simp only [w5,vp,vo,vn,ge2,ge3,ge4,at1,at2,at3,zh,za,p5,p6,pd h0a,pd h0b,pd h1a,pb h1b]) (by rw [hu,zav (c:=d) (.inr h1b)]; simp only [Bool.and_false,Bool.false_and,p6])
  by_cases h2a:(e.toNat:Int)<128
  ·exact yk (by rw [zbr]; simp only [w5,vp,vo,vn,ge2,ge3,ge4,at1,at2,at3,zh,za,p5,p6,pd h0a,pd h0b,pd h1a,pd h1b,pb h2a]) (by rw [hu,zav (c:=e) (.inl h2a)]; simp only [Bool.and_false,Bool.false_and,p6])
  by_cases h2b:(191:Int)<(e.toNat:Int)
  ·exact yk (by rw [zbr]; simp only [w5,vp,vo,vn,ge2,ge3,ge4,at1,at2,at3,zh,za,p5,p6,pd h0a,pd h0b,pd h1a,pd h1b,pd h2a,pb h2b]) (by rw [hu,zav (c:=e) (.inr h2b)]; simp only [Bool.and_false,Bool.false_and,p6])
  exact zen (k:=4) (by rw [zbr]; simp only [w5,vp,vo,vn,ge2,ge3,ge4,at1,at2,at3,zh,za,p5,p6,pd h0a,pd h0b,pd h1a,pd h1b,pd h2a,pd h2b]; rfl) (by rw [hu,pb (p:=128≤c.toNat) (by omega),pb (p:=c.toNat≤143) (by omega),zgt (c:=d) h1a h1b,zgt (c:=e) h2a h2b]; first | done | rfl) (by omega)
theorem c58(n:Nat)(S:yu)(b:UInt8)(r:List UInt8):zx cx S n 141 [.d (.str (b::r))] []=zh (decide ((0:Int)<(↑(b::r).length:Int))) (zh (decide ((↑b.toNat:Int)<(↑256:Int))) (vh (D.agg (unW Pinned.utf8First)).cells (0+(↑b.toNat:Int).toNat * cx.P.cellsOf 5) λ c=>match c with
 | D.int k' n_1=>bif decide (k'=IntKind.u8) then OPS cx (CK.plain S) n 141 0 5 3 [(21,V.d (D.int .u8 n_1)),(20,V.gptr 1 (0+(↑b.toNat:Int).toNat * cx.P.cellsOf 5)),(19,V.d (D.int .u8 (↑b.toNat:Int))),(5,V.d (D.int .u8 (↑b.toNat:Int))),(18,V.d (D.int .u8 (↑b.toNat:Int))),(17,V.d (D.str (b::r))),(16,V.d (D.bool false)),(15,V.d (D.int .i64 (↑(b::r).length:Int))),(4,V.d (D.int .i64 (↑(b::r).length:Int))),(14,V.d (D.int .i64 (↑(b::r).length:Int))),(13,V.d (D.str (b::r))),(3,V.d (D.int .i64 (0:Int))),(2,V.d (D.int IntKind.i32 (0:Int))),(0,V.d (D.str (b::r)))] [] (AR cx (CK.plain S) n 141 0 5 (EK cx 141 0)) else none
 | x=>none)):=by kernel_rfl
theorem zzb(n:Nat)(S:yu)(b:UInt8)(r:List UInt8):OPS cx (CK.plain S) n 141 0 5 3 [(21,V.d (D.int .u8 241)),(20,V.gptr 1 (0+(↑b.toNat:Int).toNat * cx.P.cellsOf 5)),(19,V.d (D.int .u8 (↑b.toNat:Int))),(5,V.d (D.int .u8 (↑b.toNat:Int))),(18,V.d (D.int .u8 (↑b.toNat:Int))),(17,V.d (D.str (b::r))),(16,V.d (D.bool false)),(15,V.d (D.int .i64 (↑(b::r).length:Int))),(4,V.d (D.int .i64 (↑(b::r).length:Int))),(14,V.d (D.int .i64 (↑(b::r).length:Int))),(13,V.d (D.str (b::r))),(3,V.d (D.int .i64 (0:Int))),(2,V.d (D.int IntKind.i32 (0:Int))),(0,V.d (D.str (b::r)))] [] (AR cx (CK.plain S) n 141 0 5 (EK cx 141 0))=zh (decide ((0:Int)<(↑(b::r).length:Int))) (some (Out.ret (V.tup [V.d (D.int IntKind.i32 (xf BinOp.or IntKind.i32 (xf BinOp.andNot IntKind.i32 (IntKind.i32.wrap (↑b.toNat:Int)) (Int.negSucc 0)) (65533:Int))),V.d (D.int .i64 (1:Int))]),[])):=by kernel_rfl
theorem zui(n:Nat)(S:yu)(b:UInt8)(r:List UInt8):OPS cx (CK.plain S) n 141 0 5 3 [(21,V.d (D.int .u8 2)),(20,V.gptr 1 (0+(↑b.toNat:Int).toNat * cx.P.cellsOf 5)),(19,V.d (D.int .u8 (↑b.toNat:Int))),(5,V.d (D.int .u8 (↑b.toNat:Int))),(18,V.d (D.int .u8 (↑b.toNat:Int))),(17,V.d (D.str (b::r))),(16,V.d (D.bool false)),(15,V.d (D.int .i64 (↑(b::r).length:Int))),(4,V.d (D.int .i64 (↑(b::r).length:Int))),(14,V.d (D.int .i64 (↑(b::r).length:Int))),(13,V.d (D.str (b::r))),(3,V.d (D.int .i64 (0:Int))),(2,V.d (D.int IntKind.i32 (0:Int))),(0,V.d (D.str (b::r)))] [] (AR cx (CK.plain S) n 141 0 5 (EK cx 141 0))=bif decide ((↑(b::r).length:Int)<(2:Int)) then some (Out.ret (V.tup [V.d (D.int IntKind.i32 (65533:Int)),V.d (D.int .i64 (1:Int))]),[]) else zh (decide ((1:Int)<(↑(b::r).length:Int))) (za (b::r)[(1:Int).toNat]? λ b_1=>bif decide ((↑b_1.toNat:Int)<(128:Int)) then some (Out.ret (V.tup [V.d (D.int IntKind.i32 (65533:Int)),V.d (D.int .i64 (1:Int))]),[]) else bif decide ((191:Int)<(↑b_1.toNat:Int)) then some (Out.ret (V.tup [V.d (D.int IntKind.i32 (65533:Int)),V.d (D.int .i64 (1:Int))]),[]) else some (Out.ret (V.tup [V.d (D.int IntKind.i32 (xf BinOp.or IntKind.i32 (IntKind.i32.wrap (IntKind.i32.wrap (xf BinOp.and IntKind.u8 (↑b.toNat:Int) (31:Int)) * 2 ^ min (6:Int).toNat IntKind.i32.bits)) (IntKind.i32.wrap (xf BinOp.and IntKind.u8 (↑b_1.toNat:Int) (63:Int))))),V.d (D.int .i64 (2:Int))]),[])):=by kernel_rfl
theorem zk7(n:Nat)(S:yu)(b:UInt8)(r:List UInt8):OPS cx (CK.plain S) n 141 0 5 3 [(21,V.d (D.int .u8 3)),(20,V.gptr 1 (0+(↑b.toNat:Int).toNat * cx.P.cellsOf 5)),(19,V.d (D.int .u8 (↑b.toNat:Int))),(5,V.d (D.int .u8 (↑b.toNat:Int))),(18,V.d (D.int .u8 (↑b.toNat:Int))),(17,V.d (D.str (b::r))),(16,V.d (D.bool false)),(15,V.d (D.int .i64 (↑(b::r).length:Int))),(4,V.d (D.int .i64 (↑(b::r).length:Int))),(14,V.d (D.int .i64 (↑(b::r).length:Int))),(13,V.d (D.str (b::r))),(3,V.d (D.int .i64 (0:Int))),(2,V.d (D.int IntKind.i32 (0:Int))),(0,V.d (D.str (b::r)))] [] (AR cx (CK.plain S) n 141 0 5 (EK cx 141 0))=bif decide ((↑(b::r).length:Int)<(3:Int)) then some (Out.ret (V.tup [V.d (D.int IntKind.i32 (65533:Int)),V.d (D.int .i64 (1:Int))]),[]) else zh (decide ((1:Int)<(↑(b::r).length:Int))) (za (b::r)[(1:Int).toNat]? λ b_1=>bif decide ((↑b_1.toNat:Int)<(128:Int)) then some (Out.ret (V.tup [V.d (D.int IntKind.i32 (65533:Int)),V.d (D.int .i64 (1:Int))]),[]) else bif decide ((191:Int)<(↑b_1.toNat:Int)) then some (Out.ret (V.tup [V.d (D.int IntKind.i32 (65533:Int)),V.d (D.int .i64 (1:Int))]),[]) else zh (decide ((2:Int)<(↑(b::r).length:Int))) (za (b::r)[(2:Int).toNat]? λ b_2=>bif decide ((↑b_2.toNat:Int)<(128:Int)) then some (Out.ret (V.tup [V.d (D.int IntKind.i32 (65533:Int)),V.d (D.int .i64 (1:Int))]),[]) else bif decide ((191:Int)<(↑b_2.toNat:Int)) then some (Out.ret (V.tup [V.d (D.int IntKind.i32 (65533:Int)),V.d (D.int .i64 (1:Int))]),[]) else some (Out.ret (V.tup [V.d (D.int IntKind.i32 (xf BinOp.or IntKind.i32 (xf BinOp.or IntKind.i32 (IntKind.i32.wrap (IntKind.i32.wrap (xf BinOp.and IntKind.u8 (↑b.toNat:Int) (15:Int)) * 2 ^ min (12:Int).toNat IntKind.i32.bits)) (IntKind.i32.wrap (IntKind.i32.wrap (xf BinOp.and IntKind.u8 (↑b_1.toNat:Int) (63:Int)) * 2 ^ min (6:Int).toNat IntKind.i32.bits))) (IntKind.i32.wrap (xf BinOp.and IntKind.u8 (↑b_2.toNat:Int) (63:Int))))),V.d (D.int .i64 (3:Int))]),[]))):=by kernel_rfl
theorem zgq(n:Nat)(S:yu)(b:UInt8)(r:List UInt8):OPS cx (CK.plain S) n 141 0 5 3 [(21,V.d (D.int .u8 4)),(20,V.gptr 1 (0+(↑b.toNat:Int).toNat * cx.P.cellsOf 5)),(19,V.d (D.int .u8 (↑b.toNat:Int))),(5,V.d (D.int .u8 (↑b.toNat:Int))),(18,V.d (D.int .u8 (↑b.toNat:Int))),(17,V.d (D.str (b::r))),(16,V.d (D.bool false)),(15,V.d (D.int .i64 (↑(b::r).length:Int))),(4,V.d (D.int .i64 (↑(b::r).length:Int))),(14,V.d (D.int .i64 (↑(b::r).length:Int))),(13,V.d (D.str (b::r))),(3,V.d (D.int .i64 (0:Int))),(2,V.d (D.int IntKind.i32 (0:Int))),(0,V.d (D.str (b::r)))] [] (AR cx (CK.plain S) n 141 0 5 (EK cx 141 0))=bif decide ((↑(b::r).length:Int)<(4:Int)) then some (Out.ret (V.tup [V.d (D.int IntKind.i32 (65533:Int)),V.d (D.int .i64 (1:Int))]),[]) else zh (decide ((1:Int)<(↑(b::r).length:Int))) (za (b::r)[(1:Int).toNat]? λ b_1=>bif decide ((↑b_1.toNat:Int)<(128:Int)) then some (Out.ret (V.tup [V.d (D.int IntKind.i32 (65533:Int)),V.d (D.int .i64 (1:Int))]),[]) else bif decide ((191:Int)<(↑b_1.toNat:Int)) then some (Out.ret (V.tup [V.d (D.int IntKind.i32 (65533:Int)),V.d (D.int .i64 (1:Int))]),[]) else zh (decide ((2:Int)<(↑(b::r).length:Int))) (za (b::r)[(2:Int).toNat]? λ b_2=>bif decide ((↑b_2.toNat:Int)<(128:Int)) then some (Out.ret (V.tup [V.d (D.int IntKind.i32 (65533:Int)),V.d (D.int .i64 (1:Int))]),[]) else bif decide ((191:Int)<(↑b_2.toNat:Int)) then some (Out.ret (V.tup [V.d (D.int IntKind.i32 (65533:Int)),V.d (D.int .i64 (1:Int))]),[]) else zh (decide ((3:Int)<(↑(b::r).length:Int))) (za (b::r)[(3:Int).toNat]? λ b_3=>bif decide ((↑b_3.toNat:Int)<(128:Int)) then some (Out.ret (V.tup [V.d (D.int IntKind.i32 (65533:Int)),V.d (D.int .i64 (1:Int))]),[]) else bif decide ((191:Int)<(↑b_3.toNat:Int)) then some (Out.ret (V.tup [V.d (D.int IntKind.i32 (65533:Int)),V.d (D.int .i64 (1:Int))]),[]) else some (Out.ret (V.tup [V.d (D.int IntKind.i32 (xf BinOp.or IntKind.i32 (xf BinOp.or IntKind.i32 (xf BinOp.or IntKind.i32 (IntKind.i32.wrap (IntKind.i32.wrap (xf BinOp.and IntKind.u8 (↑b.toNat:Int) (7:Int)) * 2 ^ min (18:Int).toNat IntKind.i32.bits)) (IntKind.i32.wrap (IntKind.i32.wrap (xf BinOp.and IntKind.u8 (↑b_1.toNat:Int) (63:Int)) * 2 ^ min (12:Int).toNat IntKind.i32.bits))) (IntKind.i32.wrap (IntKind.i32.wrap (xf BinOp.and IntKind.u8 (↑b_2.toNat:Int) (63:Int)) * 2 ^ min (6:Int).toNat IntKind.i32.bits))) (IntKind.i32.wrap (xf BinOp.and IntKind.u8 (↑b_3.toNat:Int) (63:Int))))),V.d (D.int .i64 (4:Int))]),[])))):=by kernel_rfl
def cl(n:Nat):Int:=bif Nat.blt n 128 then 240 else bif Nat.blt n 194 then 241 else bif Nat.blt n 224 then 2 else bif Nat.beq n 224 then 19 else bif Nat.beq n 237 then 35 else bif Nat.blt n 240 then 3 else bif Nat.beq n 240 then 52 else bif Nat.blt n 244 then 4 else bif Nat.beq n 244 then 68 else 241
theorem tab:unW Go.Pinned.utf8First=(List.range 256).map λ i=>D.int .u8 (cl i):=by kernel_rfl
theorem cells5:cx.P.cellsOf 5=1:=by kernel_rfl
theorem enter{b:UInt8}{r:List UInt8}{x:Int}(h:cl b.toNat=x):zx cx xx 0 141 [.d (.str (b::r))] []=OPS cx (CK.plain xx) 0 141 0 5 3 [(21,V.d (D.int .u8 x)),(20,V.gptr 1 (0+(↑b.toNat:Int).toNat * cx.P.cellsOf 5)),(19,V.d (D.int .u8 (↑b.toNat:Int))),(5,V.d (D.int .u8 (↑b.toNat:Int))),(18,V.d (D.int .u8 (↑b.toNat:Int))),(17,V.d (D.str (b::r))),(16,V.d (D.bool false)),(15,V.d (D.int .i64 (↑(b::r).length:Int))),(4,V.d (D.int .i64 (↑(b::r).length:Int))),(14,V.d (D.int .i64 (↑(b::r).length:Int))),(13,V.d (D.str (b::r))),(3,V.d (D.int .i64 (0:Int))),(2,V.d (D.int IntKind.i32 (0:Int))),(0,V.d (D.str (b::r)))] [] (AR cx (CK.plain xx) 0 141 0 5 (EK cx 141 0)):=by
 have hb:b.toNat<256:=b.toNat_lt;rw [c58,w5,pb (p:=(b.toNat:Int)<(256:Int)) (by omega)]
 have e:∀ (R:Type) (K:D→Option R),vh (D.agg (unW Go.Pinned.utf8First)).cells (0+(b.toNat:Int).toNat * cx.P.cellsOf 5) K=K (.int .u8 x):=by
  intro R K;show vh (unW Go.Pinned.utf8First) _ K=_;unfold vh;rw [tab,cells5,Nat.zero_add,Nat.mul_one,px,List.getElem?_map,List.getElem?_range hb];simp only [Option.map_some,h]
 simp only [zh,p5];rw [e];simp only [decide_true,p5]
theorem zzg(b:UInt8):xf BinOp.or IntKind.i32 (xf BinOp.andNot IntKind.i32 (IntKind.i32.wrap (b.toNat:Int)) (Int.negSucc 0)) (65533:Int)=65533:=by
 have h:∀ i:_root_.Fin 256,xf BinOp.or IntKind.i32 (xf BinOp.andNot IntKind.i32 (IntKind.i32.wrap (i.val:Int)) (Int.negSucc 0)) (65533:Int)=65533:=by decide +kernel
 exact h ⟨b.toNat,b.toNat_lt⟩
theorem zz5(b:UInt8)(l:List UInt8)(h:cl b.toNat=241)(hu:∀ l,yc (b::l)=0):zm4 (b::l):=by
 refine yk ?_ (hu l);rw [enter h,zzb,w5,zzg];rfl
theorem z13(b:UInt8)(h:cl b.toNat=2)(hu0:yc [b]=0)(hU:∀ c l,yc (b::c::l)=(bif x7 c then 2 else 0)):∀ (l:List UInt8),zm4 (b::l)
 | []=>by
  refine yk ?_ hu0;rw [enter h,zui];rfl
 | c::l=>by
  have hu:=hU c l;by_cases h0a:(c.toNat:Int)<128
  ·exact yk (by rw [enter h,zui]; simp only [w5,vp,vo,vn,ge2,ge3,ge4,at1,at2,at3,zh,za,p5,p6,pb h0a]) (by rw [hu,zav (c:=c) (.inl h0a)]; simp only [Bool.and_false,Bool.false_and,p6])
  by_cases h0b:(191:Int)<(c.toNat:Int)
  ·exact yk (by rw [enter h,zui]; simp only [w5,vp,vo,vn,ge2,ge3,ge4,at1,at2,at3,zh,za,p5,p6,pd h0a,pb h0b]) (by rw [hu,zav (c:=c) (.inr h0b)]; simp only [Bool.and_false,Bool.false_and,p6])
  exact zen (k:=2) (by rw [enter h,zui]; simp only [w5,vp,vo,vn,ge2,ge3,ge4,at1,at2,at3,zh,za,p5,p6,pd h0a,pd h0b]; rfl) (by rw [hu,zgt (c:=c) h0a h0b]; first | done | rfl) (by omega)
theorem z12(b:UInt8)(h:cl b.toNat=3)(hu0:yc [b]=0)(hu1:∀ c,yc [b,c]=0)(hU:∀ c d l,yc (b::c::d::l)=(bif decide (128≤c.toNat)&&decide (c.toNat≤191)&&x7 d then 3 else 0)):∀ (l:List UInt8),zm4 (b::l)
 | []=>by
  refine yk ?_ hu0;rw [enter h,zk7];rfl
 | [c]=>yk (by rw [enter h,zk7]; rfl) (hu1 c)
 | c::d::l=>by
  have hu:=hU c d l;by_cases h0a:(c.toNat:Int)<128
  ·exact yk (by rw [enter h,zk7]; simp only [w5,vp,vo,vn,ge2,ge3,ge4,at1,at2,at3,zh,za,p5,p6,pb h0a]) (by rw [hu,pd (p:=128≤c.toNat) (by omega)]; simp only [Bool.false_and,p6])
  by_cases h0b:(191:Int)<(c.toNat:Int)
  ·exact yk (by rw [enter h,zk7]; simp only [w5,vp,vo,vn,ge2,ge3,ge4,at1,at2,at3,zh,za,p5,p6,pd h0a,pb h0b]) (by rw [hu,pd (p:=c.toNat≤191) (by omega)]; simp only [Bool.and_false,Bool.false_and,p6])
  by_cases h1a:(d.toNat:Int)<128
  ·exact yk (by rw [enter h,zk7]; simp only [w5,vp,vo,vn,ge2,ge3,ge4,at1,at2,at3,zh,za,p5,p6,pd h0a,pd h0b,pb h1a]) (by rw [hu,zav (c:=d) (.inl h1a)]; simp only [Bool.and_false,Bool.false_and,p6])
  by_cases h1b:(191:Int)<(d.toNat:Int)
  ·exact yk (by rw [enter h,zk7]; simp only [w5,vp,vo,vn,ge2,ge3,ge4,at1,at2,at3,zh,za,p5,p6,pd h0a,pd h0b,pd h1a,pb h1b]) (by rw [hu,zav (c:=d) (.inr h1b)]; simp only [Bool.and_false,Bool.false_and,p6])
  exact zen (k:=3) (by rw [enter h,zk7]; simp only [w5,vp,vo,vn,ge2,ge3,ge4,at1,at2,at3,zh,za,p5,p6,pd h0a,pd h0b,pd h1a,pd h1b]; rfl) (by rw [hu,pb (p:=128≤c.toNat) (by omega),pb (p:=c.toNat≤191) (by omega),zgt (c:=d) h1a h1b]; first | done | rfl) (by omega)
theorem z11(b:UInt8)(h:cl b.toNat=4)(hu0:yc [b]=0)(hu1:∀ c,yc [b,c]=0)(hu2:∀ c d,yc [b,c,d]=0)(hU:∀ c d e l,yc (b::c::d::e::l)=(bif decide (128≤c.toNat)&&decide (c.toNat≤191)&&x7 d&&x7 e then 4 else 0)):∀ (l:List UInt8),zm4 (b::l)
 | []=>by
  refine yk ?_ hu0;rw [enter h,zgq];rfl
 | [c]=>yk (by rw [enter h,zgq]; rfl) (hu1 c)
 | [c,d]=>yk (by rw [enter h,zgq]; rfl) (hu2 c d)
 | c::d::e::l=>by
  have hu:=hU c d e l;by_cases h0a:(c.toNat:Int)<128
  ·exact yk (by rw [enter h,zgq]; simp only [w5,vp,vo,vn,ge2,ge3,ge4,at1,at2,at3,zh,za,p5,p6,pb h0a]) (by rw [hu,pd (p:=128≤c.toNat) (by omega)]; simp only [Bool.false_and,p6])
  by_cases h0b:(191:Int)<(c.toNat:Int)
  ·exact yk (by rw [enter h,zgq]; simp only [w5,vp,vo,vn,ge2,ge3,ge4,at1,at2,at3,zh,za,p5,p6,pd h0a,pb h0b]) (by rw [hu,pd (p:=c.toNat≤191) (by omega)]; simp only [Bool.and_false,Bool.false_and,p6])
  by_cases h1a:(d.toNat:Int)<128
  ·exact yk (by rw [enter h,zgq]; simp only [w5,vp,vo,vn,ge2,ge3,ge4,at1,at2,at3,zh,za,p5,p6,pd h0a,pd h0b,pb h1a]) (by rw [hu,zav (c:=d) (.inl h1a)]; simp only [Bool.and_false,Bool.false_and,p6])
  by_cases h1b:(191:Int)<(d.toNat:Int)
  ·exact yk (by rw [enter h,zgq]; simp only [w5,vp,vo,vn,ge2,ge3,ge4,at1,at2,at3,zh,za,p5,p6,pd h0a,pd h0b,pd h1a,pb h1b]) (by rw [hu,zav (c:=d) (.inr h1b)]; simp only [Bool.and_false,Bool.false_and,p6])
  by_cases h2a:(e.toNat:Int)<128
  ·exact yk (by rw [enter h,zgq]; simp only [w5,vp,vo,vn,ge2,ge3,ge4,at1,at2,at3,zh,za,p5,p6,pd h0a,pd h0b,pd h1a,pd h1b,pb h2a]) (by rw [hu,zav (c:=e) (.inl h2a)]; simp only [Bool.and_false,Bool.false_and,p6])
  by_cases h2b:(191:Int)<(e.toNat:Int)
  ·exact yk (by rw [enter h,zgq]; simp only [w5,vp,vo,vn,ge2,ge3,ge4,at1,at2,at3,zh,za,p5,p6,pd h0a,pd h0b,pd h1a,pd h1b,pd h2a,pb h2b]) (by rw [hu,zav (c:=e) (.inr h2b)]; simp only [Bool.and_false,Bool.false_and,p6])
  exact zen (k:=4) (by rw [enter h,zgq]; simp only [w5,vp,vo,vn,ge2,ge3,ge4,at1,at2,at3,zh,za,p5,p6,pd h0a,pd h0b,pd h1a,pd h1b,pd h2a,pd h2b]; rfl) (by rw [hu,pb (p:=128≤c.toNat) (by omega),pb (p:=c.toNat≤191) (by omega),zgt (c:=d) h1a h1b,zgt (c:=e) h2a h2b]; first | done | rfl) (by omega)
theorem z16:∀ i:_root_.Fin 256,128≤i.val→(cl i.val=241∧(i.val<194∨244<i.val))∨(cl i.val=2∧194≤i.val∧i.val≤223)∨i.val=224∨i.val=237∨(cl i.val=3∧225≤i.val∧i.val≤239∧i.val ≠ 237)∨i.val=240∨(cl i.val=4∧241≤i.val∧i.val≤243)∨i.val=244:=by decide +kernel
theorem d20(b:UInt8)(l:List UInt8)(h:128≤b.toNat):zm4 (b::l):=by
 have f0:decide (b.toNat<128)=false:=pd (by omega)
 rcases z16 ⟨b.toNat,b.toNat_lt⟩ h with ⟨hc,hr⟩ | ⟨hc,h1,h2⟩ | hb | hb | ⟨hc,h1,h2,h3⟩ | hb | ⟨hc,h1,h2⟩ | hb
 ·simp only at hc hr;refine zz5 b l hc λ l=>?_;have g1:(decide (194≤b.toNat)&&decide (b.toNat≤223))=false:=by rcases hr with hr | hr <;> simp <;> omega
  have g2:(decide (224≤b.toNat)&&decide (b.toNat≤239))=false:=by rcases hr with hr | hr <;> simp <;> omega
  have g3:(decide (240≤b.toNat)&&decide (b.toNat≤244))=false:=by rcases hr with hr | hr <;> simp <;> omega
  simp only [yc,f0,g1,g2,g3,p6]
 ·simp only at hc h1 h2;have g1:(decide (194≤b.toNat)&&decide (b.toNat≤223))=true:=by simp; omega
  exact z13 b hc (by simp only [yc,f0,g1,p6,p5]) (λ c l=>by simp only [yc,f0,g1,p6,p5]) l
 ·obtain rfl:b=224:=UInt8.toNat_inj.1 hb;exact zz9 l
 ·obtain rfl:b=237:=UInt8.toNat_inj.1 hb;exact zz8 l
 ·simp only at hc h1 h2 h3;have g1:(decide (194≤b.toNat)&&decide (b.toNat≤223))=false:=by simp; omega
  have g2:(decide (224≤b.toNat)&&decide (b.toNat≤239))=true:=by simp; omega
  have g3:decide (b.toNat=224)=false:=pd (by omega)
  have g4:decide (b.toNat=237)=false:=pd h3;exact z12 b hc (by simp only [yc,f0,g1,g2,p6,p5]) (λ c=>by simp only [yc,f0,g1,g2,p6,p5]) (λ c d l=>by simp only [yc,f0,g1,g2,g3,g4,p6,p5]) l
 ·obtain rfl:b=240:=UInt8.toNat_inj.1 hb;exact zz7 l
 ·simp only at hc h1 h2;have g1:(decide (194≤b.toNat)&&decide (b.toNat≤223))=false:=by simp; omega
  have g2:(decide (224≤b.toNat)&&decide (b.toNat≤239))=false:=by simp; omega
  have g5:(decide (240≤b.toNat)&&decide (b.toNat≤244))=true:=by simp; omega
  have g3:decide (b.toNat=240)=false:=pd (by omega)
  have g4:decide (b.toNat=244)=false:=pd (by omega)
  exact z11 b hc (by simp only [yc,f0,g1,g2,g5,p6,p5]) (λ c=>by simp only [yc,f0,g1,g2,g5,p6,p5]) (λ c d=>by simp only [yc,f0,g1,g2,g5,p6,p5]) (λ c d e l=>by simp only [yc,f0,g1,g2,g3,g4,g5,p6,p5]) l
 ·obtain rfl:b=244:=UInt8.toNat_inj.1 hb;exact zz6 l
noncomputable def vt(s:List UInt8):Int×Int:=match zl cx 141 [.d (.str s)] [] with | some (.ret (.tup [.d (.int _ r),.d (.int _ n)]),_)=>(r,n) | _=>(0,0)
noncomputable def zxa:List V→Option Out | [.d (.str (b::r))]=>some (.ret (.tup [.d (.int .i32 (vt (b::r)).1),.d (.int .i64 (vt (b::r)).2)])) | _=>none
noncomputable def S12:yu:=zgm 141 zxa xx
theorem b12(n:Nat)(b:UInt8)(r:List UInt8):zx cx S12 n 100 [.d (.str (b::r))] []=zh (decide ((0:Int)<(↑(b::r).length:Int))) (bif decide ((↑b.toNat:Int)<(128:Int)) then zh (decide ((0:Int)<(↑(b::r).length:Int))) (some (Out.ret (V.tup [V.d (D.int IntKind.i32 (IntKind.i32.wrap (↑b.toNat:Int))),V.d (D.int .i64 (1:Int))]),[])) else zh (decide (128≤b.toNat)) (some (Out.ret (V.tup [V.d (D.int IntKind.i32 (vt (b::r)).fst),V.d (D.int .i64 (vt (b::r)).snd)]),[]))):=by kernel_rfl
theorem zu3{args:List V}{o:Out}(h:zxa args=some o):∃ b r,args=[.d (.str (b::r))]∧o=.ret (.tup [.d (.int .i32 (vt (b::r)).1),.d (.int .i64 (vt (b::r)).2)]):=by
 unfold zxa at h;split at h
 ·cases h; exact ⟨_,_,rfl,rfl⟩
 ·cases h
theorem zud{b:UInt8}{r:List UInt8}(h:128≤b.toNat):zl cx 141 [.d (.str (b::r))] []=some (.ret (.tup [.d (.int .i32 (vt (b::r)).1),.d (.int .i64 (vt (b::r)).2)]),[]) ∧
  (yc (b::r)=0→(vt (b::r)).1=65533∧(vt (b::r)).2<2)∧(yc (b::r) ≠ 0→(vt (b::r)).2=yc (b::r)∧((vt (b::r)).2<2→(vt (b::r)).1 ≠ 65533)):=by
 obtain ⟨x,n,h1,h2,h3⟩:=d20 b r h;have e:vt (b::r)=(x,n):=by unfold vt; rw [h1]
 rw [e];exact ⟨h1,h2,h3⟩
theorem zo5:knows cx S12 (zl cx):=qo (wg cx) λ args o hd h=>by
 obtain ⟨b,r,rfl,rfl⟩:=zu3 h;exact (zud (ph hd)).1
theorem zxu(b:UInt8)(r:List UInt8):∃ x n:Int,zl cx 100 [.d (.str (b::r))] []=some (.ret (.tup [.d (.int .i32 x),.d (.int .i64 n)]),[]) ∧
  (yc (b::r)=0→x=65533∧n<2)∧(yc (b::r) ≠ 0→n=yc (b::r)∧(n<2→x ≠ 65533)):=by
 by_cases h:b.toNat<128
 ·have hu:yc (b::r)=1:=by simp only [yc,pb h,p5]
  refine ⟨IntKind.i32.wrap b.toNat,1,vd (N:=0) zo5 ?_,λ h0=>by omega,λ _=>⟨by rw [hu]; rfl,λ _ he=>?_⟩⟩
  ·rw [b12,w5,pb (p:=(b.toNat:Int)<128) (by omega)]
   rfl
  ·have:IntKind.i32.wrap (b.toNat:Int)=b.toNat:=by rw [IntKind.wrap_i32]; omega
   omega
 ·obtain ⟨h1,h2,h3⟩:=zud (r:=r) (Nat.le_of_not_lt h);refine ⟨_,_,vd (N:=0) zo5 ?_,h2,h3⟩;rw [b12,w5,pd (p:=(b.toNat:Int)<128) (by omega),pb (p:=128≤b.toNat) (by omega)]
  rfl
theorem zxt:zl cx 100 [.d (.str [])] []=some (.ret (.tup [.d (.int .i32 65533),.d (.int .i64 0)]),[]):=zdf (n:=10) (by kernel_rfl)
theorem z3s:∀ (s:List UInt8),zl cx 100 [.d (.str s)] []=some (.ret (.tup [.d (.int .i32 (wo s).1),.d (.int .i64 (wo s).2)]),[])
 | []=>by
  have e:wo []=(65533,0):=by unfold wo; rw [zxt]
  rw [e]; exact zxt
 | b::r=>by
  obtain ⟨x,n,h,_⟩:=zxu b r;have e:wo (b::r)=(x,n):=by unfold wo; rw [h]
  rw [e]; exact h
theorem z4g:z0t:=by
 intro l hl;cases l with
 | nil=>exact absurd rfl hl
 | cons b r=>
  obtain ⟨x,n,h,h2⟩:=zxu b r;have e:wo (b::r)=(x,n):=by unfold wo; rw [h]
  rw [e]; exact h2
theorem zm3:knows cx S7 (zl cx):=by
 refine qo (qo (qo (wg cx) ?_) ?_) ?_
 ·intro args o hd h;unfold z2v at h;split at h
  ·cases h; exact z3q _ (ph hd)
  ·cases h
 ·intro args o hd h;unfold z0j at h;split at h
  ·cases h;rename_i s a;have hd':(decide (s.length≤big)&&(decide (0≤a)&&decide (a≤(s.length:Int))))=true:=hd;simp only [pq,decide_eq_true_eq] at hd';obtain ⟨h1,h2,h3⟩:=hd';have:=z3r s a.toNat h1 (by omega)
   rw [show ((a.toNat:Nat):Int)=a by omega] at this
   exact this
  ·cases h
 ·intro args o _ h;unfold z4h at h;split at h
  ·cases h; exact z3s _
  ·cases h
theorem z42(s:List UInt8):zl cx 63 [.d (.str s)] [(0,.tok 0)]=zd9 (we s):=by
 unfold we;by_cases h:65536<s.length
 ·rw [pb h,p5];refine vd (N:=0) zm3 ?_;rw [b7,pb (p:=(65536:Int)<(s.length:Int)) (by omega)]
  rfl
 ·rw [pd h,p6];have hl:=zwt z4g (s:=s) (by omega) (n:=s.length+1) (by omega) s.length 0 (s.length+1) (by omega) (by omega) (Nat.zero_le _)
  rw [List.drop_zero] at hl;have:zx cx S7 (s.length+1) 63 [.d (.str s)] [(0,.tok 0)]=zwu s (wy s.length s 0):=by
   rw [b7,pd (p:=(65536:Int)<(s.length:Int)) (by omega),p6]
   exact hl
  cases hu:wy s.length s 0 with
  | none=>rw [hu] at this; exact vd (N:=s.length+1) zm3 this
  | some p=>rw [hu] at this; exact vd (N:=s.length+1) zm3 this
theorem zi3:∀ (r:List UInt8) (j:Nat),j≤y7 r j
 | [],j=>Nat.le_refl _
 | b::r,j=>by
  have:=zi3 r (j+1);simp only [y7];cases (yq b.toNat||(decide (0<j)&&wl b.toNat))
  ·exact Nat.le_refl _
  ·simp only [p5]; omega
theorem zjm(s:List UInt8):∀ l:List (List UInt8),(z6 s l).2=[]∨(z6 s l).1=2
 | []=>.inl rfl
 | x::l=>by
  simp only [z6];cases zn s x
  ·exact zjm s l
  ·exact .inr rfl
theorem zqk{s:List UInt8}:∀ (f j:Nat) (l:List D),(qh f s j l).1.length≤l.length+f
 | 0,_,l=>Nat.zero_le _
 | f+1,j,l=>by
  rw [qh];cases decide (j<s.length)
  ·simp
  ·rw [p5];cases decide ((yg (s.drop j)).2=[])
   ·rw [p6];have:=zqk (s:=s) f (yl s (j+(yg (s.drop j)).2.length)) (l++[zy (yg (s.drop j)).1 (yg (s.drop j)).2 j]);simp at this; omega
   ·exact Nat.zero_le _
theorem zkv(s:List UInt8):(we s).1.length≤s.length+1:=by
 unfold we;cases decide (65536<s.length)
 ·rw [p6];cases wy s.length s 0
  ·simpa using zqk (s:=s) (s.length+1) (yl s 0) []
  ·exact Nat.zero_le _
 ·exact Nat.zero_le _
inductive Cov (s:List UInt8):Nat→List D→Prop
 | fin {e:Nat}:e≤s.length→yl s e=s.length→Cov s e [zy 0 [] (s.length:Int)]
 | tok {e j:Nat} {k:Int} {t:List UInt8} {rest:List D}:e≤s.length→yl s e=j→j<s.length→yg (s.drop j)=(k,t)→t ≠ []→Cov s (j+t.length) rest→Cov s e (zy k t (j:Int)::rest)
theorem Cov.ne{s:List UInt8}{e:Nat}{l:List D}(h:Cov s e l):0<l.length:=by cases h <;> simp
theorem zql{s:List UInt8}:∀ (f e:Nat) (acc:List D),e≤s.length→s.length - yl s e<f →
  (∃ rest,qh f s (yl s e) acc=(acc++rest,0,0)∧Cov s e rest)∨(∃ p:Nat,qh f s (yl s e) acc=([],(p:Int),61)∧p<s.length)
 | 0,_,_,_,hf=>by omega
 | f+1,e,acc,he,hf=>by
  have hb:=wu he;rw [qh];by_cases hlt:yl s e<s.length
  ·rw [pb hlt,p5];have hle:=zsp (s.drop (yl s e));rw [List.length_drop] at hle;by_cases ho:(yg (s.drop (yl s e))).2=[]
   ·rw [pb ho,p5]; exact .inr ⟨_,rfl,hlt⟩
   ·rw [pd ho,p6];have hpos:0<(yg (s.drop (yl s e))).2.length:=List.length_pos_iff.2 ho;have hb2:=wu (s:=s) (j:=yl s e+(yg (s.drop (yl s e))).2.length) (by omega)
    rcases zql (s:=s) f (yl s e+(yg (s.drop (yl s e))).2.length) (acc++[zy (yg (s.drop (yl s e))).1 (yg (s.drop (yl s e))).2 (yl s e:Int)]) (by omega) (by omega) with ⟨rest,h1,h2⟩ | h
    ·exact .inl ⟨_,by rw [h1,List.append_assoc]; rfl,.tok he rfl hlt rfl ho h2⟩
    ·exact .inr h
  ·rw [pd hlt,p6];exact .inl ⟨_,rfl,.fin he (by omega)⟩
theorem zyj{s:List UInt8}{e:Nat}{l:List D}(h:Cov s e l):∀ (f:Nat) (acc:List D),s.length - yl s e<f→qh f s (yl s e) acc=(acc++l,0,0):=by
 induction h with
 | fin he hp=>
  intro f acc hf;obtain ⟨f,rfl⟩:∃ i,f=i+1:=⟨f - 1,by omega⟩
  rw [qh,pd (by omega),p6]
 | @tok e j k t rest he hp hlt ho hne hr ih=>
  intro f acc hf;obtain ⟨f,rfl⟩:∃ i,f=i+1:=⟨f - 1,by omega⟩
  have hle:=zsp (s.drop j);rw [List.length_drop,ho] at hle;have hpos:0<t.length:=List.length_pos_iff.2 hne;have hle':t.length≤s.length - j:=hle;have hb:=wu (s:=s) (j:=j+t.length) (by omega)
  rw [qh,hp,pb hlt,p5,ho];simp only [];rw [pd hne,p6,ih f _ (by omega),List.append_assoc]; rfl
theorem zdo(s:List UInt8):(s.length≤65536∧wy s.length s 0=none∧∃ l,we s=(l,0,0)∧Cov s 0 l)∨(¬ (we s).2.2=0∧(we s).1=[]∧∃ p:Nat,(we s).2.1=(p:Int)∧p≤s.length):=by
 unfold we;by_cases h:65536<s.length
 ·rw [pb h,p5]; exact .inr ⟨by decide,rfl,0,rfl,Nat.zero_le _⟩
 ·rw [pd h,p6];cases hu:wy s.length s 0 with
  | none=>
   have hb:=wu (s:=s) (j:=0) (Nat.zero_le _);rcases zql (s:=s) (s.length+1) 0 [] (Nat.zero_le _) (by omega) with ⟨rest,h1,h2⟩ | ⟨p,h1,h2⟩
   ·exact .inl ⟨by omega,rfl,rest,by simpa using h1,h2⟩
   ·exact .inr (by rw [h1]; exact ⟨λ h=>absurd (show (61:Int)=0 from h) (by decide),rfl,p,rfl,by omega⟩)
  | some p=>
   refine .inr ⟨by simp,rfl,p,rfl,?_⟩
   have hle:∀ (f j p:Nat) (r:List UInt8),r.length+j≤s.length→wy f r j=some p→p≤s.length:=by
    intro f
    induction f with
    | zero=>intro j p r hr h; cases r with | nil=>cases h | cons b r=>cases h; omega
    | succ f ih=>
     intro j p r hr h;cases r with
     | nil=>cases h
     | cons b r=>
      rw [wy] at h;cases hb:Nat.beq (yc (b::r)) 0
      ·rw [hb,p6] at h;have:=zwx (b::r);exact ih _ p _ (by rw [List.length_drop]; omega) h
      ·rw [hb,p5] at h; cases h; omega
   exact hle _ _ _ _ (Nat.le_refl _) hu
def Tk(k:Int)(t:List UInt8):Prop:=(k=1∧∃ b r,t=b::r∧yq (b.toNat:Int)=true∧∀ c∈r,(yq (c.toNat:Int)||wl (c.toNat:Int))=true)∨(k=2∧t∈v6)
def stops(r:List UInt8):Prop:=r=[]∨∃ c r',r=c::r'∧(c=32∨c=10∨c=45)
theorem zjr:∀ (x:List UInt8) (j:Nat),0<j→∀ c∈x.take (y7 x j - j),(yq (c.toNat:Int)||wl (c.toNat:Int))=true
 | [],j,_=>by intro c hc; simp at hc
 | b::x,j,hj=>by
  rw [y7,pb hj,Bool.true_and];cases h:(yq (b.toNat:Int)||wl (b.toNat:Int))
  ·rw [p6,Nat.sub_self]; intro c hc; cases hc
  ·have hge:=zi3 x (j+1);rw [p5,show y7 x (j+1) - j=(y7 x (j+1) - (j+1))+1 by omega,List.take_succ_cons]
   intro c hc;cases hc with
   | head=>exact h
   | tail _ hc=>exact zjr x (j+1) (by omega) c hc
theorem zks(x:List UInt8):∀ l:List (List UInt8),(z6 x l).2=[]∨(z6 x l).2∈l
 | []=>.inl rfl
 | y::l=>by
  simp only [z6];cases zn x y
  ·rw [p6];rcases zks x l with h | h
   ·exact .inl h
   ·exact .inr (p0 _ h)
  ·exact .inr py
theorem zir{x:List UInt8}{k:Int}{t:List UInt8}(h:yg x=(k,t))(ht:t ≠ []):Tk k t:=by
 unfold yg at h;cases hn:decide (0<yt x)
 ·rw [hn,p6] at h;have h1:=zjm x v6;have h2:=zks x v6;rw [h] at h1 h2;exact .inr ⟨h1.resolve_left ht,h2.resolve_left ht⟩
 ·rw [hn,p5] at h;have hn':=ph hn;cases h;refine .inl ⟨rfl,?_⟩;cases x with
  | nil=>exact absurd rfl ht
  | cons b r=>
   have hge:=zi3 r 1;unfold yt at hn' ⊢;rw [y7] at hn' ⊢;cases hb:yq (b.toNat:Int)
   ·rw [hb,pd (p:=0<0) (by omega),Bool.false_and,Bool.false_or,p6] at hn'; omega
   ·rw [Bool.true_or,p5,Nat.zero_add,show y7 r 1=(y7 r 1 - 1)+1 by omega,List.take_succ_cons]
    exact ⟨b,_,rfl,hb,zjr r 1 (by omega)⟩
theorem zlk{b:UInt8}(h:yq (b.toNat:Int)=true):zbb (b.toNat:Int)=false∧¬ (b.toNat:Int)=45∧b.toNat<128:=by
 simp only [yq,Bool.or_eq_true,pq,decide_eq_true_eq] at h;refine ⟨?_,by omega,by omega⟩
 unfold zbb;rw [pd (by omega),pd (by omega),pd (by omega),pd (by omega)]; rfl
theorem zv4{b:UInt8}(h:wl (b.toNat:Int)=true):b.toNat<128:=by
 simp only [wl,pq,decide_eq_true_eq] at h;omega
theorem z0w{k:Int}{t:List UInt8}(h:Tk k t):∀ c∈t,c.toNat<128:=by
 rcases h with ⟨rfl,b,u,rfl,hb,hu⟩ | ⟨rfl,ht⟩
 ·intro c hc;cases hc with
  | head=>exact (zlk hb).2.2
  | tail _ hc=>
   have:=hu c hc;rw [Bool.or_eq_true] at this;rcases this with h | h
   ·exact (zlk h).2.2
   ·exact zv4 h
 ·have:∀ t∈v6,∀ c∈t,c.toNat<128:=by decide
  exact this t ht
theorem zt6:∀ (f:Nat) (r:List UInt8) (j:Nat),r.length≤f→(∀ c∈r,c.toNat<128)→wy f r j=none
 | f,[],j,_,_=>by cases f <;> rfl
 | 0,b::r,j,h,_=>by simp at h
 | f+1,b::r,j,h,hl=>by
  have hu:yc (b::r)=1:=by simp only [yc,pb (hl b py),p5]
  rw [wy,hu];exact zt6 f r (j+1) (by simpa using h) λ c hc=>hl c (p0 _ hc)
inductive LTok:List D→Prop
 | fin {a:Int}:LTok [zy 0 [] a]
 | tok {k:Int} {t:List UInt8} {a:Int} {l:List D}:Tk k t→t.length≤65536→LTok l→LTok (zy k t a::l)
def kt:D→Int×List UInt8 | .agg [.int _ k,.str t,_]=>(k,t) | _=>(0,[])
abbrev R1:=Out×St
def zdq(o:Option R1)(K:Out→St→Option R1):Option R1:=match o with | some (a,s)=>K a s | none=>none
theorem y6{α:Type}(x:Option α)(F:α→Option R1)(K:Out→St→Option R1):zdq (za x F) K=za x λ a=>zdq (F a) K:=by cases x <;> rfl
theorem wi(c:Bool)(a b:Option R1)(K:Out→St→Option R1):zdq (bif c then a else b) K=bif c then zdq a K else zdq b K:=by cases c <;> rfl
theorem vb(o:Out)(s:St)(K:Out→St→Option R1):zdq (some (o,s)) K=K o s:=rfl
abbrev x1(l:List D)(i:Int):St:=[(0,.val 2 (.d (.agg [.sl 3 l,.int .i64 i])))]
structure RF where
 α:Type
 dec:List V→Option α
 go:List D→Int→α→(Out→Int→Option R1)→Option R1
 ok:∀ l i x (K:Out→St→Option R1),go l i x (λ o j=>K o (x1 l j))=zdq (go l i x λ o j=>some (o,x1 l j)) K
def zy7:St→Option (List D×Int) | [(0,.val 2 (.d (.agg [.sl 3 l,.int .i64 i])))]=>some (l,i) | _=>none
def zuf:List V→Option (List V) | .ptr 0 0::r=>some r | _=>none
def z2t(F:RF)(x:F.α)(K:Out→St→Option R1):List D×Int→Option R1 | (l,i)=>F.go l i x λ o j=>K o [(0,.val 2 (.d (.agg [.sl 3 l,.int .i64 j])))]
theorem zu8{σ:St}{q:List D×Int}(h:zy7 σ=some q):σ=x1 q.1 q.2:=by
 unfold zy7 at h;split at h
 ·cases h; rfl
 ·cases h
theorem zsl{a r:List V}(h:zuf a=some r):a=.ptr 0 0::r:=by
 unfold zuf at h;split at h
 ·cases h; rfl
 ·cases h
def rdr(f:Nat)(F:RF)(S:CK R1):CK R1 where
 S:=λ g args σ=>bif Nat.beq g f then za (zy7 σ) λ q=>za (zuf args) λ r=>za (F.dec r) λ x=>z2t F x (λ o s=>some (o,s)) q else S.S g args σ
 run:=λ g args σ K=>bif Nat.beq g f then za (zy7 σ) λ q=>za (zuf args) λ r=>za (F.dec r) λ x=>z2t F x K q else S.run g args σ K
 ok:=λ g a σ K=>by
  show _=zdq _ K;rw [wi,y6];simp only [y6];cases Nat.beq g f
  ·exact S.ok g a σ K
  ·simp only [p5];congr 1;funext q;congr 1;funext r;congr 1;funext x;exact F.ok q.1 q.2 x K
theorem yh{f:Nat}{F:RF}{S:CK R1}(hS:knows cx S.S (zl cx))
  (hF:∀ l i x r args,F.dec args=some x→F.go l i x (λ o j=>some (o,x1 l j))=some r→zl cx f (.ptr 0 0::args) (x1 l i)=some r):knows cx (rdr f F S).S (zl cx):=by
 intro g args σ r hd h;simp only [rdr] at h;cases hg:Nat.beq g f <;> rw [hg] at h
 ·exact hS g args σ r hd h
 ·obtain rfl:=po hg;simp only [p5] at h;obtain ⟨q,hq,h⟩:=zb h;obtain ⟨u,ha,h⟩:=zb h;obtain ⟨x,hx,h⟩:=zb h;rw [zu8 hq,zsl ha];exact hF q.1 q.2 x r u hx h
def zhb:List V→Option Unit | []=>some () | _=>none
def zv6:List V→Option (List UInt8) | [.d (.str s)]=>some s | _=>none
def zke:List V→Option Int | [.d (.int .i64 s)]=>some s | _=>none
theorem zau{a:List V}{x:Unit}(h:zhb a=some x):a=[]:=by
 unfold zhb at h; split at h <;> first | rfl | cases h
theorem zou{a:List V}{x:List UInt8}(h:zv6 a=some x):a=[.d (.str x)]:=by
 unfold zv6 at h; split at h <;> cases h; rfl
theorem zat{a:List V}{x:Int}(h:zke a=some x):a=[.d (.int .i64 x)]:=by
 unfold zke at h; split at h <;> cases h; rfl
abbrev Tk3:=Int×List UInt8×Int
abbrev up(i:Int):Int:=IntKind.i64.wrap (i+1)
def zg(l:List D)(i:Int):Option Tk3:=
 bif decide (0≤i)&&decide (i<4294967296) then (match l[i.toNat]? with | some (.agg [.int .i64 k,.str t,.int .i64 a])=>some (k,t,a) | _=>none) else none
def zr(p:Tk3)(s:List UInt8):Bool:=decide (p.1=2)&&decide (p.2.1=s)
def zbc(p:Tk3):Int:=bif zr p [45,62] then 4 else bif zr p [42] then 5 else 0
def zf4(l:List D)(i:Int):Option Bool:=za (zg l i) λ p=>bif zr p [40] then
  za (zg l (i+1)) λ q=>bif decide (q.1=1) then za (zg l (i+2)) λ r=>some (decide (r.2.1=[58])) else some false
 else some false
theorem qv{l:List D}{i:Int}{p:Tk3}(h:zg l i=some p):0≤i∧i<l.length∧i<4294967296∧l[i.toNat]?=some (zy p.1 p.2.1 p.2.2):=by
 unfold zg at h;cases hc:(decide (0≤i)&&decide (i<4294967296)) <;> rw [hc] at h
 ·cases h
 ·simp only [pq,decide_eq_true_eq] at hc;simp only [p5] at h;split at h
  ·rename_i k t a hg;cases h;have:=(pr.1 hg).1;exact ⟨hc.1,by omega,hc.2,hg⟩
  ·cases h
theorem zwv{l:List D}{i:Int}{p:Tk3}(h:zg l i=some p):IntKind.i64.wrap (i+1)=i+1:=by
 obtain ⟨h1,_,h3,_⟩:=qv h;exact IntWalk.i64_in _ (by omega)
def zcl(a e:Int):V:=.d (.iface 115 (.agg [.int .i64 a,.int .i64 e]))
def F27:RF:=⟨Unit,zhb,λ l i _ K=>za (zg l i) λ p=>K (.ret (.d (zy p.1 p.2.1 p.2.2))) i,by intros; simp only [y6,vb]⟩
def T1:CK R1:=rdr 65 F27 (CK.plain xx)
def F48:RF:=⟨List UInt8,zv6,λ l i s K=>za (zg l i) λ p=>K (.ret (.d (.bool (zr p s)))) i,by intros; simp only [y6,vb]⟩
def F46:RF:=⟨Int,zke,λ l i e K=>za (zg l i) λ p=>K (.pan (zcl p.2.2 e)) i,by intros; simp only [y6,vb]⟩
def F52:RF:=⟨Unit,zhb,λ l i _ K=>za (zg l i) λ p=>K (.ret (.d (zy p.1 p.2.1 p.2.2))) (up i),by intros; simp only [y6,vb]⟩
def T2:CK R1:=rdr 66 F46 (rdr 68 F48 (rdr 72 F52 T1))
def F47:RF:=⟨Int,zke,λ l i v K=>bif decide (200<v) then za (zg l i) λ p=>K (.pan (zcl p.2.2 62)) i else K (.ret (.tup [])) i,by intros; simp only [y6,wi,vb]⟩
def F50:RF:=⟨List UInt8,zv6,λ l i s K=>za (zg l i) λ p=>bif zr p s then K (.ret (.tup [])) (up i) else K (.pan (zcl p.2.2 61)) i,by intros; simp only [y6,wi,vb]⟩
def F57:RF:=⟨Unit,zhb,λ l i _ K=>za (zg l i) λ p=>bif decide (p.1=1) then K (.ret (.d (.str p.2.1))) (up i) else K (.pan (zcl p.2.2 61)) i,by intros; simp only [y6,wi,vb]⟩
def F53:RF:=⟨Unit,zhb,λ l i _ K=>za (zg l i) λ p=>K (.ret (.d (.int .i64 (zbc p)))) i,by intros; simp only [y6,vb]⟩
def F51:RF:=⟨Unit,zhb,λ l i _ K=>za (zf4 l i) λ b=>K (.ret (.d (.bool b))) i,by intros; simp only [y6,vb]⟩
def T3:CK R1:=rdr 67 F47 (rdr 70 F50 (rdr 103 F57 (rdr 73 F53 (rdr 71 F51 T2))))
theorem b27(n:Nat)(S:CK R1)(l:List D)(i:Int):zx cx S n 65 [.ptr 0 0] [(0,.val 2 (.d (.agg [.sl 3 l,.int .i64 i])))]=zh (decide (0≤i)&&decide (i<(↑l.length:Int))) (vh l i.toNat λ y=>DRW cx S n 65 1 1 9 [{ i:=8,fp:=[],w:=[] },{ i:=7,fp:=[0],w:=[] },{ i:=6,fp:=[],w:=[] },{ i:=5,fp:=[],w:=[] },{ i:=4,fp:=[],w:=[] },{ i:=3,fp:=[0],w:=[] },{ i:=2,fp:=[],w:=[] },{ i:=1,fp:=[],w:=[] },{ i:=0,fp:=[],w:=[] }] [(11,V.eptr y 0),(10,V.d (D.int .i64 i)),(9,V.ptr 0 1),(8,V.ptr 0 0),(7,V.ptr 0 0),(6,V.d (D.sl 3 l)),(5,V.ptr 0 0),(4,V.ptr 0 0),(3,V.ptr 0 0),(2,V.ptr 3 0),(0,V.ptr 0 0)] [(0,Ob.val 2 (V.d (D.agg [D.sl 3 l,D.int .i64 i]))),(3,Ob.val 3 (V.d (D.agg [D.int .i64 (0:Int),D.str [],D.int .i64 (0:Int)])))] (AR cx S n 65 1 1 (EK cx 65 1))):=by kernel_rfl
theorem b48(n:Nat)(l:List D)(i:Int)(s:List UInt8):zx cx T1 n 68 [.ptr 0 0,.d (.str s)] [(0,.val 2 (.d (.agg [.sl 3 l,.int .i64 i])))]=za (zg l i) λ p=>bif decide (p.fst=(2:Int)) then za (zg l i) λ p=>some (Out.ret (V.d (D.bool (decide (p.snd.1=s)))),[(0,Ob.val 2 (V.d (D.agg [D.sl 3 l,D.int .i64 i])))]) else some (Out.ret (V.d (D.bool false)),[(0,Ob.val 2 (V.d (D.agg [D.sl 3 l,D.int .i64 i])))]):=by kernel_rfl
theorem b46(n:Nat)(l:List D)(i e:Int):zx cx T1 n 66 [.ptr 0 0,.d (.int .i64 e)] [(0,.val 2 (.d (.agg [.sl 3 l,.int .i64 i])))]=za (zg l i) λ p=>some (Out.pan (V.d (D.iface 115 (D.agg [D.int .i64 p.snd.snd,D.int .i64 e]))),[(0,Ob.val 2 (V.d (D.agg [D.sl 3 l,D.int .i64 i])))]):=by kernel_rfl
theorem b52(n:Nat)(l:List D)(i:Int):zx cx T1 n 72 [.ptr 0 0] [(0,.val 2 (.d (.agg [.sl 3 l,.int .i64 i])))]=za (zg l i) λ p=>some (Out.ret (V.d (D.agg [D.int .i64 p.fst,D.str p.snd.1,D.int .i64 p.snd.snd])),[(0,Ob.val 2 (V.d (D.agg [D.sl 3 l,D.int .i64 (IntKind.i64.wrap (i+(1:Int)))])))]):=by kernel_rfl
theorem b50(n:Nat)(l:List D)(i:Int)(s:List UInt8):zx cx T2 n 70 [.ptr 0 0,.d (.str s)] [(0,.val 2 (.d (.agg [.sl 3 l,.int .i64 i])))]=za (zg l i) λ p=>bif !zr p s then za (zg l i) λ p=>some (Out.pan (V.d (D.iface 115 (D.agg [D.int .i64 p.snd.snd,D.int .i64 (61:Int)]))),[(0,Ob.val 2 (V.d (D.agg [D.sl 3 l,D.int .i64 i])))]) else some (Out.ret (V.tup []),[(0,Ob.val 2 (V.d (D.agg [D.sl 3 l,D.int .i64 (IntKind.i64.wrap (i+(1:Int)))])))]):=by kernel_rfl
theorem b57(n:Nat)(l:List D)(i:Int):zx cx T2 n 103 [.ptr 0 0] [(0,.val 2 (.d (.agg [.sl 3 l,.int .i64 i])))]=za (zg l i) λ p=>bif !decide (p.fst=(1:Int)) then za (zg l i) λ p=>some (Out.pan (V.d (D.iface 115 (D.agg [D.int .i64 p.snd.snd,D.int .i64 (61:Int)]))),[(0,Ob.val 2 (V.d (D.agg [D.sl 3 l,D.int .i64 i])))]) else za (zg l i) λ p=>some (Out.ret (V.d (D.str p.snd.1)),[(0,Ob.val 2 (V.d (D.agg [D.sl 3 l,D.int .i64 (up i)])))]):=by kernel_rfl
theorem b47(n:Nat)(l:List D)(i v:Int):zx cx T2 n 67 [.ptr 0 0,.d (.int .i64 v)] [(0,.val 2 (.d (.agg [.sl 3 l,.int .i64 i])))]=bif decide ((200:Int)<v) then za (zg l i) λ p=>some (Out.pan (V.d (D.iface 115 (D.agg [D.int .i64 p.snd.snd,D.int .i64 (62:Int)]))),[(0,Ob.val 2 (V.d (D.agg [D.sl 3 l,D.int .i64 i])))]) else some (Out.ret (V.tup []),[(0,Ob.val 2 (V.d (D.agg [D.sl 3 l,D.int .i64 i])))]):=by kernel_rfl
theorem b53(n:Nat)(l:List D)(i:Int):zx cx T2 n 73 [.ptr 0 0] [(0,.val 2 (.d (.agg [.sl 3 l,.int .i64 i])))]=za (zg l i) λ p=>bif zr p [45,62] then some (Out.ret (V.d (D.int .i64 (4:Int))),[(0,Ob.val 2 (V.d (D.agg [D.sl 3 l,D.int .i64 i])))]) else za (zg l i) λ p=>bif zr p [42] then some (Out.ret (V.d (D.int .i64 (5:Int))),[(0,Ob.val 2 (V.d (D.agg [D.sl 3 l,D.int .i64 i])))]) else some (Out.ret (V.d (D.int .i64 (0:Int))),[(0,Ob.val 2 (V.d (D.agg [D.sl 3 l,D.int .i64 i])))]):=by kernel_rfl
theorem b51(n:Nat)(l:List D)(i:Int):zx cx T2 n 71 [.ptr 0 0] [(0,.val 2 (.d (.agg [.sl 3 l,.int .i64 i])))]=za (zg l i) λ p=>bif zr p [40] then zh (decide (0≤IntKind.i64.wrap (i+(1:Int)))&&decide (IntKind.i64.wrap (i+(1:Int))<(↑l.length:Int))) (vh l (IntKind.i64.wrap (i+(1:Int))).toNat λ y=>vh y.cells 0 λ c=>match c with
 | D.int k' n=>bif decide (k'=IntKind.i64) then bif decide (n=(1:Int)) then zh (decide (0≤IntKind.i64.wrap (i+(2:Int)))&&decide (IntKind.i64.wrap (i+(2:Int))<(↑l.length:Int))) (vh l (IntKind.i64.wrap (i+(2:Int))).toNat λ y=>vh y.cells 1 λ c=>match c with
  | D.str s=>some (Out.ret (V.d (D.bool (decide (s=[58])))),[(0,Ob.val 2 (V.d (D.agg [D.sl 3 l,D.int .i64 i])))])
  | x=>none) else some (Out.ret (V.d (D.bool false)),[(0,Ob.val 2 (V.d (D.agg [D.sl 3 l,D.int .i64 i])))]) else none
 | x=>none) else some (Out.ret (V.d (D.bool false)),[(0,Ob.val 2 (V.d (D.agg [D.sl 3 l,D.int .i64 i])))]):=by kernel_rfl
theorem d27(n:Nat)(S:CK R1)(l:List D)(i k:Int)(t:List UInt8)(a:Int):DRW cx S n 65 1 1 9 [{ i:=8,fp:=[],w:=[] },{ i:=7,fp:=[0],w:=[] },{ i:=6,fp:=[],w:=[] },{ i:=5,fp:=[],w:=[] },{ i:=4,fp:=[],w:=[] },{ i:=3,fp:=[0],w:=[] },{ i:=2,fp:=[],w:=[] },{ i:=1,fp:=[],w:=[] },{ i:=0,fp:=[],w:=[] }] [(11,V.eptr (zy k t a) 0),(10,V.d (D.int .i64 i)),(9,V.ptr 0 1),(8,V.ptr 0 0),(7,V.ptr 0 0),(6,V.d (D.sl 3 l)),(5,V.ptr 0 0),(4,V.ptr 0 0),(3,V.ptr 0 0),(2,V.ptr 3 0),(0,V.ptr 0 0)] [(0,Ob.val 2 (V.d (D.agg [D.sl 3 l,D.int .i64 i]))),(3,Ob.val 3 (V.d (D.agg [D.int .i64 (0:Int),D.str [],D.int .i64 (0:Int)])))] (AR cx S n 65 1 1 (EK cx 65 1))=some (Out.ret (V.d (D.agg [D.int .i64 k,D.str t,D.int .i64 a])),[(0,Ob.val 2 (V.d (D.agg [D.sl 3 l,D.int .i64 i])))]):=by kernel_rfl
theorem zkg{R:Type}{l:List D}{i:Nat}{x:D}{K:D→Option R}(h:l[i]?=some x):vh l i K=K x:=by unfold vh; rw [h]
theorem z1x{l:List D}{i:Int}{p:Tk3}(h:zg l i=some p):(decide (0≤i)&&decide (i<(l.length:Int)))=true:=by
 obtain ⟨h1,h2,_⟩:=qv h;rw [pb h1,pb h2]; rfl
theorem yj:knows cx (CK.plain (R:=R1) xx).S (zl cx):=wg cx
theorem z3l(l:List D)(i:Int)(x:Unit)(r:R1)(a:List V)(hd:zhb a=some x)(h:F27.go l i x (λ o j=>some (o,x1 l j))=some r):zl cx 65 (.ptr 0 0::a) (x1 l i)=some r:=by
 rw [zau hd];obtain ⟨p,hp,h⟩:=zb h;refine zt (call:=CK.plain xx) yj (N:=0) ?_;rw [b27,z1x hp,zh,p5,zkg (qv hp).2.2.2,d27];exact h
theorem zii:knows cx T1.S (zl cx):=yh yj z3l
theorem z3h(l:List D)(i:Int)(s:List UInt8)(r:R1)(a:List V)(hd:zv6 a=some s)(h:F48.go l i s (λ o j=>some (o,x1 l j))=some r):zl cx 68 (.ptr 0 0::a) (x1 l i)=some r:=by
 rw [zou hd];obtain ⟨p,hp,h⟩:=zb h;refine zt zii (N:=0) ?_;rw [b48,hp];simp only [za,hp];rw [←h];unfold zr;cases decide (p.1=2) <;> rfl
theorem z3j(l:List D)(i:Int)(s:Int)(r:R1)(a:List V)(hd:zke a=some s)(h:F46.go l i s (λ o j=>some (o,x1 l j))=some r):zl cx 66 (.ptr 0 0::a) (x1 l i)=some r:=by
 rw [zat hd];obtain ⟨p,hp,h⟩:=zb h;refine zt zii (N:=0) ?_;rw [b46,hp];exact h
theorem z3e(l:List D)(i:Int)(s:Unit)(r:R1)(a:List V)(hd:zhb a=some s)(h:F52.go l i s (λ o j=>some (o,x1 l j))=some r):zl cx 72 (.ptr 0 0::a) (x1 l i)=some r:=by
 rw [zau hd];obtain ⟨p,hp,h⟩:=zb h;refine zt zii (N:=0) ?_;rw [b52,hp];exact h
theorem zdx:knows cx T2.S (zl cx):=yh (yh (yh zii z3e) z3h) z3j
theorem z3g(l:List D)(i:Int)(s:List UInt8)(r:R1)(a:List V)(hd:zv6 a=some s)(h:F50.go l i s (λ o j=>some (o,x1 l j))=some r):zl cx 70 (.ptr 0 0::a) (x1 l i)=some r:=by
 rw [zou hd];obtain ⟨p,hp,h⟩:=zb h;refine zt zdx (N:=0) ?_;rw [b50,hp];simp only [za,hp];rw [←h];cases zr p s <;> rfl
theorem z3c(l:List D)(i:Int)(s:Unit)(r:R1)(a:List V)(hd:zhb a=some s)(h:F57.go l i s (λ o j=>some (o,x1 l j))=some r):zl cx 103 (.ptr 0 0::a) (x1 l i)=some r:=by
 rw [zau hd];obtain ⟨p,hp,h⟩:=zb h;refine zt zdx (N:=0) ?_;rw [b57,hp];simp only [za,hp];rw [←h];cases decide (p.1=1) <;> rfl
theorem z3i(l:List D)(i:Int)(s:Int)(r:R1)(a:List V)(hd:zke a=some s)(h:F47.go l i s (λ o j=>some (o,x1 l j))=some r):zl cx 67 (.ptr 0 0::a) (x1 l i)=some r:=by
 rw [zat hd];refine zt zdx (N:=0) ?_;rw [b47];exact h
theorem z3d(l:List D)(i:Int)(s:Unit)(r:R1)(a:List V)(hd:zhb a=some s)(h:F53.go l i s (λ o j=>some (o,x1 l j))=some r):zl cx 73 (.ptr 0 0::a) (x1 l i)=some r:=by
 rw [zau hd];obtain ⟨p,hp,h⟩:=zb h;refine zt zdx (N:=0) ?_;rw [b53,hp];simp only [za,hp];rw [←h];unfold zbc;cases zr p [45,62] <;> cases zr p [42] <;> rfl
theorem z3f(l:List D)(i:Int)(s:Unit)(r:R1)(a:List V)(hd:zhb a=some s)(h:F51.go l i s (λ o j=>some (o,x1 l j))=some r):zl cx 71 (.ptr 0 0::a) (x1 l i)=some r:=by
 rw [zau hd];obtain ⟨b,hb,h⟩:=zb h;obtain ⟨p,hp,hb⟩:=zb hb;refine zt zdx (N:=0) ?_;have h0:=qv hp;rw [b51,hp];simp only [za];cases hs:zr p [40] <;> rw [hs] at hb
 ·cases hb; exact h
 ·simp only [p5] at hb ⊢;obtain ⟨q,hq,hb⟩:=zb hb;have e1:IntKind.i64.wrap (i+1)=i+1:=zwv hp;rw [e1,z1x hq,zh,p5,zkg (qv hq).2.2.2];show (bif decide (q.1=1) then _ else _)=_;cases hk:decide (q.1=1) <;> rw [hk] at hb
  ·cases hb; exact h
  ·simp only [p5] at hb ⊢;obtain ⟨t,ht,hb⟩:=zb hb;have e2:IntKind.i64.wrap (i+2)=i+2:=IntWalk.i64_in _ (by have:=qv ht; omega)
   rw [e2,z1x ht,zh,p5,zkg (qv ht).2.2.2];cases hb;exact h
theorem zsa:knows cx T3.S (zl cx):=yh (yh (yh (yh (yh zdx z3f) z3d) z3c) z3g) z3i
end Go.Vai
end

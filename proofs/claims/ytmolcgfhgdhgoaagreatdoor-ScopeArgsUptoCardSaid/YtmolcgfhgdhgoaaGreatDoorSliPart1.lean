/-
  The library's functions that are taken as one step: what they do. To: Scope: what the law's frame asks for.
-/
import Derived.Test.YtmolcgfhgdhgoaaGreatDoorVaiPart6
import Derived.Lib.Join
import Derived.Lib.TrailingZeros
import Derived.RangeFuncBox
import Derived.RangeFuncLeaves
import Derived.RangeFuncNested
import Derived.RangeFuncWrites
import Derived.OwnWalkIn
import Derived.Shelf.Spec.TrailingZeros
import Derived.Test.YtmolcgfhgdhgoaaGreatDoorProg
import Derived.KernelRfl
import Derived.Shelf.Abstract
import Derived.WalkKit
import Derived.TacticsInMore
import Derived.LoopNIn
import Derived.LoopIn
import Derived.Maps.AppendAt
import Derived.Test.YtmolcgfhgdhgoaaGreatDoorCards
import Derived.Test.YtmolcgfhgdhgoaaGreatDoorTie
import Derived.IntWalk
import Derived.Shelf.Spec.SlicesGrow
import Derived.Shelf.Strings.Builder1
import Derived.Shelf.Strings.Builder2
import Derived.Shelf.Strings.OnBuilder
import Derived.Shelf.Strings.BuilderF
import Derived.Shelf.Strings.BuilderK
import Derived.Shelf.Strings.Builder2Cap
import Derived.Shelf.Sort.Plain
import Derived.Shelf.Slices.Clone
set_option linter.all false
noncomputable section
namespace Go.Vai
def zh6(b:UInt8):D:=.int .u8 b.toNat
def zgf:List D→Option (List UInt8)
 | []=>some []
 | .int .u8 n::r=>bif decide (((UInt8.ofNat n.toNat).toNat:Int)=n) then (match zgf r with | some l=>some (UInt8.ofNat n.toNat::l) | none=>none) else none
 | _=>none
theorem zge:∀ (l:List D) (s:List UInt8),zgf l=some s→l=s.map zh6
 | [],s,h=>by simp [zgf] at h; subst h; rfl
 | x::r,s,h=>by
  unfold zgf at h;split at h
  ·rename_i he; cases he
  ·rename_i n q he;cases he;cases hd:decide (((UInt8.ofNat n.toNat).toNat:Int)=n) <;> rw [hd] at h
   ·cases h
   ·simp only [pu] at h;split at h
    ·rename_i l hl;cases h;have:=pc hd;rw [zge r l hl,List.map_cons,zh6,this]
    ·cases h
  ·cases h
def zpw:List V→Option Nat | [.ptr i 0]=>some i | _=>none
def zn4:Option Ob→Option (Nat×List D×Nat) | some (.val _ (.agg (_::.sl sz l id::_)))=>some (sz,l,id) | _=>none
def znz:Option Ob→Option Nat | some (.tok k)=>some k | _=>none
theorem zmv{a:List V}{i:Nat}(h:zpw a=some i):a=[.ptr i 0]:=by
 unfold zpw at h;split at h
 ·cases h; rfl
 ·cases h
theorem zk7{o:Option Ob}{q:Nat×List D×Nat}(h:zn4 o=some q):∃ n p r,o=some (.val n (.agg (p::.sl q.1 q.2.1 q.2.2::r))):=by
 unfold zn4 at h;split at h
 ·cases h; exact ⟨_,_,_,rfl⟩
 ·cases h
theorem zk3{o:Option Ob}{k:Nat}(h:znz o=some k):o=some (.tok k):=by
 unfold znz at h;split at h
 ·cases h; rfl
 ·cases h
def zlc(args:List V)(σ:St):Option (Out×St):=
 ze (zpw args) λ i=>ze (zn4 (zd σ i)) λ q=>ze (znz (zd σ q.2.2)) λ k=>
  zk (Nat.beq q.1 6291457&&decide (k=q.2.1.length)&&decide (q.2.1.length≤4294967296)) (ze (zgf q.2.1) λ s=>some (.ret (.d (.str s)),xh σ q.2.2 (.tok (k+1))))
def zhb:List D→Option (List (List UInt8))
 | []=>some []
 | .str s::r=>(match zhb r with | some l=>some (s::l) | none=>none)
 | _=>none
theorem zdt:∀ (l:List D) (s:List (List UInt8)),zhb l=some s→l=s.map .str
 | [],s,h=>by simp [zhb] at h; subst h; rfl
 | x::r,s,h=>by
  unfold zhb at h;split at h
  ·rename_i he; cases he
  ·rename_i n q he;cases he;split at h
   ·rename_i l hl;cases h;rw [zdt r l hl,List.map_cons]
   ·cases h
  ·cases h
def ziq(args:List V)(σ:St):Option (Out×St):=
 match args with
 | [.d (.sl _ xs),.d (.str sep)]=>ze (zhb xs) λ l=>zk (decide (l.length≤140737488355328)&&decide ((Lib.join l sep).length≤140737488355328)) (some (.ret (.d (.str (Lib.join l sep))),σ))
 | _=>none
def ziy(x:Int):List Int→List Int
 | []=>[x]
 | y::r=>bif decide (x≤y) then x::y::r else y::ziy x r
def zaa:List Int→List Int
 | []=>[]
 | x::r=>ziy x (zaa r)
def zmh:List D→Option (List Int)
 | []=>some []
 | .int .i64 n::r=>(match zmh r with | some l=>some (n::l) | none=>none)
 | _=>none
def zin(args:List V)(σ:St):Option (Out×St):=
 match args with
 | [.slo i 1 k]=>(match zd σ i with
   | some (.row l)=>zk (Nat.beq k l.length&&decide (l.length≤4294967296)&&!l.isEmpty) (ze (zmh l) λ zs=>some (.ret (.tup []),xh σ i (.row ((zaa zs).map (.int .i64)))))
   | _=>none)
 | _=>none
def zfm(args:List V)(σ:St):Option (Out×St):=
 match args with
 | [.d (.sl 1 l)]=>zk (decide (l.length≤4294967296)) (ze (zhb l) λ _=>some (.ret (.d (.sl 1 l)),σ))
 | _=>none
def zky:Nat→Nat→Option (List Nat)
 | 0,s=>bif Nat.beq s 0 then some [] else none
 | k+1,s=>bif Nat.beq s 0 then some [] else ze (zky k (Nat.land s (s - 1))) λ r=>some (Lib.ctz 32 s::r)
def zdp:D:=.agg (Lib.deBruijn32tab.map λ x:Nat=>.int .u8 (x:Int))
def zio(args:List V)(σ:St):Option (Out×St):=
 match args with
 | [.d (.int .u32 s)]=>zk (decide (0≤s)&&decide (s<4294967296)) (ze (zky 25 (Nat.land s.toNat 16777215)) λ l=>some (.ret (.d (.sl 1 (l.map λ x:Nat=>.int .i64 (x:Int)))),σ))
 | _=>none
def nat(f:Nat)(args:List V)(σ:St):Option (Out×St):=
 bif Nat.beq f 164 then zlc args σ else bif Nat.beq f 192 then ziq args σ else bif Nat.beq f 49 then zin args σ else bif Nat.beq f 99 then zfm args σ else bif Nat.beq f 234 then zio args σ else none
end Go.Vai
end
section
namespace Go.Vai
open Go Go.RowKit
variable {F:Fence} {n:Nat} {P:Program}
def zqf{α:Type}(F:Fence)(n:Nat)(P:Program)(g:Nat)(lb:Array Value)(encs:α→Array Value)(Kp:World→World→Prop)(S:List α→Prop)(N:Nat)(w:World)(Bn:Nat):Prop:=
 ∀ (l:Nat) (J:List α→World→Prop) (W:World),Below w.heap.size w W→AbidesFrom W.heap.size J→(∀ pre W' v,J pre W'→J pre (W'.setCell ⟨Bn,0,none⟩ v)) →
  (∀ pre x W1,J pre W1→pre.length<N→YieldAt F (n - 1) P l (encs x) W1 λ e W'=>e=.returned (.bool true)∧J (pre++[x]) W'∧Kp W1 W') →
  J [] W →
  CallsIn F n P g (#[.func (.yield l) #[] #[]]++lb) W λ e W'=>(∃ v,e=.returned v)∧∃ xs,S xs∧J xs W'
theorem zk8{α:Type}{g:Operand}{ps:Array Tmp}{assign body:Code}{Q:Exit→Act→World→Prop}{a:Act}{w:World}
  (hro:F.round=none) (h1:1≤n) {gf:Nat} {lb:Array Value} (hg:a.eval g=.func (.func gf) #[] lb) (hFg:F.fn gf) (eg:∀ args w,(callFunc gf args).run P w=.ok (.enter gf args) w)
  {encs:α→Array Value} {Kp:World→World→Prop} {S:List α→Prop} {N:Nat} {w0:World} {Bn:Nat} (hBn:Bn<w.heap.size) (hseq:zqf F (n - 1) P gf lb encs Kp S N w0 Bn)
  (hKt:∀ {A B C:World},Kp A B→Kp B C→Kp A C) (hKb:∀ (W:World) (l:Nat) (o o':Obj),w.heap.size≤l→W.heap[l]?=some o→o.isCells=false→o.isWalk=false→Kp W (W.putObj l o')) (hb0:Below w0.heap.size w0 w) (hps:∀ x,(encs x).size=ps.size)
  (I:List α→World→Prop) (hI:OwnFrom w.heap.size I) (hIc:∀ pre W v,I pre W→I pre (W.setCell ⟨Bn,0,none⟩ v)) (h0:I [] w) (a₁:α→Act)
  (hassign:∀ (l:Nat) (x:α) (W:World) (K:Act→World→Prop),K (a₁ x) W →
   assign.wpIn (F.inRound l) (n - 1 - 1) P (Exit.then K (λ _ _ _=>False)) { tmps:=(ps.zip (encs x)).foldl (λ t (p,v)=>t.setIfInBounds p v) a.tmps,defers:=[] } W)
  (hbody:∀ (l:Nat) (pre:List α) (x:α) (W:World),I pre W→pre.length<N→body.wpIn (F.inRound l) (n - 1 - 1) P (ownPostG w.heap.size Kp I (λ _ _ _=>False) (pre++[x]) W) (a₁ x) W)
  (hdone:∀ (D:Nat) (xs:List α) (W:World),w.heap.size≤D→S xs→I xs W→W.heap[D]?=some (.deferred (some []))→Q .normal { a with defers:={ target:=.collected D,args:=#[] }::a.defers } W) :
  (Code.rangeFunc g ps assign body).wpIn F n P Q a w:=by
 refine wpIn_rangeFunc ?_;intro fn hfn;rw [hro]
 -- the loop's record,and the block of what is deferred
 obtain ⟨rec,hrec⟩:∃ rec:LoopState→Option Code→Loop,rec=λ st pe=>{ state:=st,pending:=pe,fn,tmps:=a.tmps,params:=ps,assign,body,defers:=w.heap.size }:=⟨_,rfl⟩;obtain ⟨W1,hW1⟩:∃ W1,(w.alloc (.deferred (some []))).alloc (.loop (rec .ready none))=W1:=⟨_,rfl⟩;have hL1:W1.heap[w.heap.size+1]?=some (.loop (rec .ready none)):=by
  rw [←hW1]; have:=World.alloc_heap_new (w.alloc (.deferred (some []))) (.loop (rec .ready none)); rwa [World.size_alloc] at this
 have hK1:W1.heap[w.heap.size]?=some (.deferred (some [])):=by
  rw [←hW1]; exact (Below.heap_alloc _ _ _ (by simp)).trans (World.alloc_heap_new w _)
 have hI1:I [] W1:=by rw [←hW1]; exact hI.alloc _ (hI.alloc _ h0)
 have hb1:Below w0.heap.size w0 W1:=by
  rw [←hW1]; exact hb0.trans ((((Below.refl _ w).alloc (Nat.le_refl _) _).alloc (by simp) _).mono hb0.size)
 refine ⟨w.heap.size+1,[{ target:=.collected w.heap.size,args:=#[] }],W1,{ target:=.fn (.func gf) lb,args:=#[.func (.yield (w.heap.size+1)) #[] #[]] },W1,gf,
  #[.func (.yield (w.heap.size+1)) #[] #[]]++lb,W1,?_,?_,?_,?_,λ _=>h1,?_⟩
 ·rw [←hW1,hrec]; exact run_enterLoop_outer _ _ _ _ _
 ·simp only [resolve,hg];simp [go_sem]
 ·intro f' hf'; simp [Target.leads] at hf'; subst hf'; exact hFg
 ·simp [invoke,go_sem,eg]
 ·have hsz:W1.heap.size=w.heap.size+2:=by rw [←hW1]; simp
  -- what holds between two rounds
  obtain ⟨J,hJ⟩:∃ J:List α→World→Prop,J=λ pre W=>I pre W∧W.heap[w.heap.size+1]?=some (.loop (rec .ready none))∧W.heap[w.heap.size]?=some (.deferred (some [])):=⟨_,rfl⟩;have abides:AbidesFrom W1.heap.size J:=λ s A B row hs hgr hr=>by
   rw [hJ] at hs ⊢;have hr2:∀ r,row=some r→∃ o:Obj,A.heap[r]?=some o∧o.isWalk=true:=λ r e=>(hr r e).2
   exact ⟨hI s A B row hs.1 hgr λ r e=>by obtain ⟨hB,o,ho,hw⟩:=hr r e; exact ⟨by omega,o,ho,Obj.not_cells_of_walk hw⟩,
    (grownBy_keeps hgr hr2 hs.2.1 rfl).trans hs.2.1,(grownBy_keeps hgr hr2 hs.2.2 rfl).trans hs.2.2⟩
  have writes:∀ pre W' v,J pre W'→J pre (W'.setCell ⟨Bn,0,none⟩ v):=λ pre W' v hs=>by
   rw [hJ] at hs ⊢;exact ⟨hIc _ _ _ hs.1,by rw [heap_setCell_other _ _ _ _ (by simp; omega)]; exact hs.2.1,by rw [heap_setCell_other _ _ _ _ (by simp; omega)]; exact hs.2.2⟩
  refine (hseq (w.heap.size+1) J W1 hb1 abides writes ?_ (by rw [hJ]; exact ⟨hI1,hL1,hK1⟩)).mono ?_
  ·-- a round
   intro pre x W hs hlen;rw [hJ] at hs;obtain ⟨hi,hl,hk⟩:=hs;have hlt:w.heap.size+1<W.heap.size:=(Array.getElem?_eq_some_iff.1 hl).1;have hy:=run_yield (P:=P) (args:=encs x) hl (by rw [hrec]; exact hps x)
   rw [hrec] at hy;refine ⟨fn,_,assign,body,hy,roundIn_of_wpIn hfn (hassign _ x W _ ⟨_,run_beginRound hl (by rw [hrec]),?_⟩)⟩
   have hl2:(W.putObj (w.heap.size+1) (.loop { rec .ready none with state:=.busy })).heap[w.heap.size+1]?=some (.loop { rec .ready none with state:=.busy }):=World.putObj_heap_same hlt;have hk2:(W.putObj (w.heap.size+1) (.loop { rec .ready none with state:=.busy })).heap[w.heap.size]?=some (.deferred (some [])):=(World.putObj_heap_other (by omega)).trans hk
   have hw2:Kp W (W.putObj (w.heap.size+1) (.loop { rec .ready none with state:=.busy })):=hKb _ _ _ _ (by omega) hl rfl rfl
   refine wpIn_mono (hbody _ pre x _ (hI.putObj _ hi (by omega) hl rfl) hlen) λ e a3 W3 hp=>?_
   cases e with
   | normal=>
    obtain ⟨hk3,hkp3,hi3⟩:=hp;have hl3:=hk3.same _ _ (by omega) hl2 rfl
    have hr:=run_endRound (P:=P) none hl3;rw [hrec] at hr;refine ⟨_,_,hr,rfl,?_,hKt (hKt hw2 hkp3) (hKb _ _ _ _ (by omega) hl3 rfl rfl)⟩
    rw [hJ];refine ⟨hI.putObj _ hi3 (by omega) hl3 rfl,?_,(World.putObj_heap_other (by omega)).trans (hk3.same _ _ (Nat.le_refl _) hk2 rfl)⟩
    rw [hrec];exact World.putObj_heap_same (Array.getElem?_eq_some_iff.1 hl3).1
   | ret=>exact hp.2.elim
   | exit id=>exact hp.2.elim
   | goto t=>exact hp.2.elim
   | panic ch=>exact hp.elim
   | outgrown=>exact hp.elim
  ·-- behind the iterator
   rintro e W2 ⟨⟨v,rfl⟩,xs,hS,hs⟩;rw [hJ] at hs;obtain ⟨hi,hl,hk⟩:=hs;have hend:=run_endLoop (P:=P) hl (by rw [hrec]; simp)
   rw [hrec] at hend;exact ⟨none,_,hend,hdone _ xs _ (Nat.le_refl _) hS (hI.putObj _ hi (by omega) hl rfl) ((World.putObj_heap_other (by omega)).trans hk)⟩
end Go.Vai
end
section
namespace Go.Proofs
open Go.Shelf
def Tryz.tz_ren:Go.Shelf.Ren:=⟨λ | 28=>249 | n=>n,λ | 25=>140 | 27=>78 | 53=>268 | n=>n,λ | 0=>4 | n=>n⟩
theorem Tryz.tz_lays:Go.Proofs.Lays7.n28 Tryz.prog Tryz.tz_ren where
  mixed:=by kernel_rfl
  f28:=Tryz.func249.trans (congrArg some (by kernel_rfl))
  t0:=Tryz.underlying0
  a0:=Tryz.isAgg0
  z0:=Tryz.sizeOf0
  v0:=Tryz.zeroValue0
  i0:=by kernel_rfl
  t3:=Tryz.underlying3
  a3:=Tryz.isAgg3
  z3:=Tryz.sizeOf3
  v3:=Tryz.zeroValue3
  i3:=by kernel_rfl
  t4:=Tryz.underlying4
  a4:=Tryz.isAgg4
  z4:=Tryz.sizeOf4
  v4:=Tryz.zeroValue4
  i4:=by kernel_rfl
  t5:=Tryz.underlying5
  a5:=Tryz.isAgg5
  z5:=Tryz.sizeOf5
  v5:=Tryz.zeroValue5
  i5:=by kernel_rfl
  t25:=Tryz.underlying140
  a25:=Tryz.isAgg140
  z25:=Tryz.sizeOf140
  v25:=Tryz.zeroValue140
  i25:=by kernel_rfl
  t27:=Tryz.underlying78
  a27:=Tryz.isAgg78
  z27:=Tryz.sizeOf78
  v27:=Tryz.zeroValue78
  i27:=by kernel_rfl
  t53:=Tryz.underlying268
  a53:=Tryz.isAgg268
  z53:=Tryz.sizeOf268
  v53:=Tryz.zeroValue268
  i53:=by kernel_rfl
  g0:=by kernel_rfl
theorem Tryz.tz32(x:Nat)(hx:x<4294967296)(w:World)(hT:x ≠ 0→TabAt 4 Lib.deBruijn32tab w):Calls Tryz.prog 249 #[.int .u32 x] w λ e w'=>e=.returned (.int .i64 (Lib.ctz 32 x))∧w'=w:=Any7.bits_TrailingZeros32 Tryz.tz_lays x hx w hT
end Go.Proofs
end
section
namespace Go.Proofs
open Go.RowKit Go.Shelf Go.Vai
attribute [local go_sem] Oper.semAt_some
theorem Tryz.tz_in(n x:Nat)(hx:x<4294967296)(w:World)(hT:x ≠ 0→TabAt 4 Lib.deBruijn32tab w):CallsIn Fence.wide n Tryz.prog 249 #[.int .u32 x] w λ e w'=>e=.returned (.int .i64 (Lib.ctz 32 x))∧w'=w:=
 callsIn_wide.mpr (Tryz.tz32 x hx w hT)
def x4(s:Nat):List Nat:=if h:s=0 then [] else Lib.ctz 32 s::x4 (s &&& (s - 1))
 termination_by s
 decreasing_by exact Nat.lt_of_le_of_lt Nat.and_le_right (by omega)
def zoz(W:World)(b:Nat):Nat:=match W.cell? ⟨b,0,none⟩ with | some (.int _ n)=>n.toNat | _=>0
theorem zkv{W:World}{b:Nat}{k:IntKind}{s:Nat}(h:W.cell? ⟨b,0,none⟩=some (.int k (s:Int))):zoz W b=s:=by unfold zoz; rw [h]; simp
theorem TabAt.below{n₀:Nat}{A B:World}{tab:List Nat}{g:Nat}(h:Below n₀ A B)(hg:g<n₀)(hT:TabAt g tab A):TabAt g tab B:=λ j hj=>(h.cell (p:=⟨g,j,none⟩) hg).trans (hT j hj)
def KpB(n₀ Bn:Nat)(W W':World):Prop:=Below n₀ W W'∧∀ v,Boxed W Bn 78 v→Boxed W' Bn 78 v
set_option maxRecDepth 100000 in
set_option maxHeartbeats 1000000 in
theorem Tryz.in1_in(n:Nat)(hn:1≤n)(l Bn n₀:Nat)(h4:4<n₀)(hBn₀:n₀≤Bn)(s0:Nat)(hs0:s0<4294967296)(J:List Nat→World→Prop)
  (hJ:∀ pre W' v,J pre W'→J pre (W'.setCell ⟨Bn,0,none⟩ v))
  (hY:∀ pre (x:Nat) W1,J pre W1→pre.length<(x4 (s0 &&& 16777215)).length→YieldAt Fence.wide (n - 1) Tryz.prog l #[.int .i64 (x:Int)] W1 λ e W'=>e=.returned (.bool true)∧J (pre++[x]) W'∧KpB n₀ Bn W1 W')
  (W:World) (hT:TabAt 4 Lib.deBruijn32tab W) (hB:Boxed W Bn 78 (.int .u32 (s0:Int))) (h0:J [] W) :
  CallsIn Fence.wide n Tryz.prog 248 #[.func (.yield l) #[] #[],.pointer (some ⟨Bn,0,none⟩)] W λ e W'=>(∃ v,e=.returned v)∧∃ xs,xs=x4 (s0 &&& 16777215)∧J xs W':=by
 refine callsIn_of_wp Tryz.func248 rfl trivial ?_ rfl;simp only [Tryz.ntmps248,List.size_toArray,px,py,Nat.reduceAdd,Nat.reduceSub,Array.replicate_succ,Array.replicate_zero,List.push_toArray,List.append_toArray,List.nil_append,List.cons_append];have hc:=hB.cell;have hf:=hB.frozen
 gi_wp2
 gi_loopw [] (λ wr=>∃ (pre:List Nat) (s:Nat),s<4294967296∧x4 (s0 &&& 16777215)=pre++x4 s∧Boxed wr Bn 78 (.int .u32 (s:Int))∧TabAt 4 Lib.deBruijn32tab wr∧J pre wr)
  (λ wr=>zoz wr Bn)
 case atStart=>
  refine ⟨[],s0 &&& 16777215,Nat.lt_of_le_of_lt Nat.and_le_left hs0,by simp,?_,?_,hJ _ _ _ h0⟩
  ·have e:=bits_and_u32_nat s0 16777215 hs0 (by decide)
   rw [show ((16777215:Nat):Int)=16777215 from rfl] at e;rw [e];exact hB.set _
  ·intro j hj;have e:∀ v,(W.setCell ⟨Bn,0,none⟩ v).cell? ⟨4,j,none⟩=W.cell? ⟨4,j,none⟩:=λ v=>World.cell?_setCell_other _ _ _ _ (by intro h; injection h; omega)
   rw [e]; exact hT j hj
 case round=>
  obtain ⟨pre,s,hs,hx,hBs,hTs,hJs⟩:=hrel;have hcs:=hBs.cell;have hfs:=hBs.frozen;by_cases h0s:s=0
  ·subst h0s
   gi_wp2
   go_end0
   exact ⟨⟨_,rfl⟩,pre,by rw [hx]; simp [x4],hJs⟩
  ·have h1:((s:Nat):Int) ≠ 0:=by omega
   have hb:x4 s=Lib.ctz 32 s::x4 (s &&& (s - 1)):=by rw [x4]; simp [h0s]
   obtain ⟨fn,tmps,assign,body,hy,hR⟩:=hY pre (Lib.ctz 32 s) wr hJs (by rw [hx,hb]; simp)
   gi_wp2_with first | (refine ⟨trivial,(Tryz.tz_in _ s hs _ λ _=>hTs).mono ?_⟩; rintro e w' ⟨rfl,rfl⟩) | (refine hR.mono ?_; rintro e W3 ⟨rfl,hJ3,hk3,hb3⟩; have hB3:=hb3 _ hBs; have hc3:=hB3.cell; have hf3:=hB3.frozen; have hT3:TabAt 4 Lib.deBruijn32tab W3:=TabAt.below hk3 h4 hTs)
   have e:bits .and .u32 ((s:Nat):Int) (((s:Nat):Int) - 1)=((s &&& (s - 1):Nat):Int):=by
    have h:=bits_and_u32_nat s (s - 1) hs (by omega)
    rwa [show ((s - 1:Nat):Int)=(s:Int) - 1 by omega] at h
   rw [e];have hlt:s &&& (s - 1)<s:=Nat.lt_of_le_of_lt Nat.and_le_right (by omega)
   refine ⟨⟨pre++[Lib.ctz 32 s],s &&& (s - 1),by omega,by rw [hx,hb]; simp,hB3.set _,?_,hJ _ _ _ hJ3⟩,?_⟩
   ·intro j hj;have e:∀ v,(W3.setCell ⟨Bn,0,none⟩ v).cell? ⟨4,j,none⟩=W3.cell? ⟨4,j,none⟩:=λ v=>World.cell?_setCell_other _ _ _ _ (by intro h; injection h; omega)
    rw [e]; exact hT3 j hj
   ·rw [zkv (hB3.set _).cell,zkv hcs]
    exact hlt
theorem Tryz.in_in(n:Nat)(s0:Nat)(w:World):CallsIn Fence.wide n Tryz.prog 243 #[.int .u32 (s0:Int)] w λ e w'=>e=.returned (.func (.func 248) #[] #[.pointer (some ⟨w.heap.size,0,none⟩)])∧w'=w.alloc (.cells #[.int .u32 (s0:Int)] 78):=by
 refine callsIn_of_wp Tryz.func243 rfl trivial ?_ rfl;simp only [Tryz.ntmps243,List.size_toArray,px,py,Nat.reduceAdd,Nat.reduceSub,Array.replicate_succ,Array.replicate_zero,List.push_toArray,List.append_toArray,List.nil_append,List.cons_append]
 gi_wp2
 go_ret
 exact ⟨rfl,rfl⟩
theorem znt(s:Nat):(x4 s).length≤s:=by
 induction s using Nat.strongRecOn with
 | _ s ih=>
  rw [x4];split
  ·simp
  ·rename_i h;have hlt:s &&& (s - 1)<s:=Nat.lt_of_le_of_lt Nat.and_le_right (by omega)
   have:=ih _ hlt;simp only [px];omega
theorem zey{W:World}{base:Nat}{e:TypeId}{size:Nat}{v:Value}{k:Nat}{xs:List Value}(h:W.ownsRow base e size v k xs){B:Nat}{t:TypeId}{u:Value}(hu:Boxed W B t u)(hte:t ≠ e)(x:Value) :
  (W.setCell ⟨B,0,none⟩ x).ownsRow base e size v k xs:=h.kept (grownBy_setCell' W B x) (.inr (hu.not_row hte h).symm)
theorem zby{W:World}{B B':Nat}{t:TypeId}{u:Value}(h:Boxed W B t u)(hne:B ≠ B')(x:Value):Boxed (W.setCell ⟨B',0,none⟩ x) B t u:=
 (heap_setCell_other W _ _ _ (by simpa using hne)).trans h
theorem zp8{n₀ Bn:Nat}{A B C:World}(h1:KpB n₀ Bn A B)(h2:KpB n₀ Bn B C):KpB n₀ Bn A C:=⟨h1.1.trans h2.1,λ v h=>h2.2 v (h1.2 v h)⟩
def LsI(w:World)(B0 B1:Nat)(pre:List Nat)(W:World):Prop:=
 (∃ v,Boxed W B0 47 v∧W.ownsRow w.heap.size 3 1 v pre.length (pre.map λ x:Nat=>Value.int .i64 (x:Int))∧(v=.slice none 0 0↔pre=[]))∧(∃ u,Boxed W B1 78 u)∧Below w.heap.size w W
set_option maxRecDepth 100000 in
set_option maxHeartbeats 2000000 in
theorem Tryz.List_in(n:Nat)(hn:3≤n)(s0:Nat)(hs0:s0<4294967296)(w:World)(h4:4<w.heap.size)(hT:TabAt 4 Lib.deBruijn32tab w) :
  CallsIn Fence.wide n Tryz.prog 234 #[.int .u32 (s0:Int)] w λ e W'=>∃ v,e=.returned v∧W'.ownsRow w.heap.size 3 1 v (x4 (s0 &&& 16777215)).length ((x4 (s0 &&& 16777215)).map λ x:Nat=>Value.int .i64 (x:Int))∧(v=.slice none 0 0↔x4 (s0 &&& 16777215)=[])∧Below w.heap.size w W':=by
 have h1:1≤n:=by omega
 have hlen:(x4 (s0 &&& 16777215)).length≤16777215:=Nat.le_trans (znt _) Nat.and_le_right;obtain ⟨i0,hi,hz0,hz1,hz2⟩:=info_parts (show (Tryz.prog.info? 3).map (λ i=>(i.zero,i.size,i.bytes))=some (some (.int .i64 0),1,8) by kernel_rfl)
 refine callsIn_of_wp_marks Tryz.func234 rfl trivial ?_ rfl;simp only [Tryz.ntmps234,List.size_toArray,px,py,Nat.reduceAdd,Nat.reduceSub,Array.replicate_succ,Array.replicate_zero,List.push_toArray,List.append_toArray,List.nil_append,List.cons_append]
 gi_wp2_with (refine ⟨trivial,(Tryz.in_in _ _ _).mono ?_⟩; rintro e w' ⟨rfl,rfl⟩)
 have bO:=Boxed.new w 47 (.slice none 0 0);have bN:=Boxed.new (w.alloc (.cells #[.slice none 0 0] 47)) 78 (.int .u32 (s0:Int));rw [World.size_alloc] at bN;have hB0:Below w.heap.size w ((w.alloc (.cells #[.slice none 0 0] 47)).alloc (.cells #[.int .u32 (s0:Int)] 78)):=((Below.refl _ w).alloc (Nat.le_refl _) _).alloc (by simp) _
 refine zk8 (F:=Fence.wide) (gf:=248) (lb:=#[.pointer (some ⟨w.heap.size+1,0,none⟩)]) (Bn:=w.heap.size+1) (encs:=λ x:Nat=>#[.int .i64 (x:Int)]) (Kp:=KpB w.heap.size (w.heap.size+1)) (S:=λ xs=>xs=x4 (s0 &&& 16777215)) (N:=(x4 (s0 &&& 16777215)).length)
  rfl h1 rfl trivial (enters_of Tryz.func248 (by kernel_rfl) rfl) (by simp) ?hseq zp8 ?hKb (Below.refl _ _) (λ _=>rfl) (LsI w w.heap.size (w.heap.size+1)) ?hI ?hIc
  ⟨⟨_,bO.alloc _,World.ownsRow_nil _ _ _ _,by simp⟩,⟨_,bN⟩,hB0⟩
  (λ x=>{ tmps:=#[.int .u32 (s0:Int),undef,.slice none 0 0,.pointer (some ⟨w.heap.size,0,none⟩),.int .i64 (x:Int),.int .u32 (s0:Int),.func (.func 248) #[] #[.pointer (some ⟨w.heap.size+1,0,none⟩)],.int .i64 (x:Int),undef,undef,undef,undef,undef],defers:=[] }) ?assign ?body ?done
 case hseq=>
  intro l J W hW _ hw hY h0;have hsz:((w.alloc (.cells #[.slice none 0 0] 47)).alloc (.cells #[.int .u32 (s0:Int)] 78)).heap.size=w.heap.size+2:=by simp
  exact Tryz.in1_in (n - 1) (by omega) l (w.heap.size+1) w.heap.size h4 (by omega) s0 hs0 J hw hY W (TabAt.below hW (by omega) (TabAt.below hB0 h4 hT)) ((hW.block _ (by omega)).trans bN) h0
 case hKb=>
  intro W l o o' hl hlo h1 h2;simp only [World.size_alloc] at hl;exact ⟨belowK_b (w:=w) (Nat.le_refl _) W l o o' (by omega) hlo h1 h2,λ v h=>(World.putObj_heap_other (by omega)).trans h⟩
 case hI=>
  intro pre X Y row hs hg hr;refine ⟨holdsRow_own w.heap.size w.heap.size 47 3 1 (λ pre:List Nat=>pre.length) (λ pre=>pre.map λ x:Nat=>Value.int .i64 (x:Int)) (λ pre v=>v=.slice none 0 0↔pre=[]) pre X Y row hs.1 hg (λ r e=>(hr r e).2),?_,ownFrom_below (Nat.le_refl _) (by simp; omega) pre X Y row hs.2.2 hg hr⟩
  obtain ⟨u,hu⟩:=hs.2.1;refine ⟨u,hu.kept hg λ e'=>?_⟩;obtain ⟨o,ho,hc⟩:=(hr _ e'.symm).2;rw [show X.heap[_]?=_ from hu] at ho; cases ho; cases hc
 case hIc=>
  rintro pre W x ⟨⟨v,hv,hrow,hnil⟩,⟨u,hu⟩,hB⟩;exact ⟨⟨v,zby hv (by omega) x,zey hrow hu (by decide) x,hnil⟩,⟨x,hu.set x⟩,hB.setCell (p:=⟨w.heap.size+1,0,none⟩) (by simp) x⟩
 case assign=>
  intro l x W K hK
  gi_wp2
  exact hK
 case body=>
  rintro l pre x W ⟨⟨v,hv,hrow,hnil⟩,⟨u,hu⟩,hB⟩ hlt;have hc:=hv.cell
  gi_wp2_with (gi_at_builtin; refine wpListIn_append_own _ rfl _ _ 47 rfl w.heap.size 3 i0 (.int .i64 0) 1 8 Tryz.underlying47 hi hz0 hz1 hz2 rfl (by decide) _ _ _ rfl (hrow.alloc _) ⟨W.heap.size,0,none⟩ 1 1 [.int .i64 (x:Int)] rfl rfl (cell_one_new _ _ _) (by simp [Value.oneCell']) (by simp [maxLen]; omega) (by omega) (by have:=hB.size; simp; omega) ?_; intro v' w1 hown' hgrow hnil'; obtain ⟨g',cap',rfl⟩:=ownsRow_succ hown'; obtain ⟨hv1,hv2,hr2,hk2,hb2⟩:=hv.appended (by decide) hrow hB.size (Nat.le_refl _) hown' hgrow; have hc1:=hv1.cell; have hf1:=hv1.frozen)
  exact ⟨hk2.from _,⟨hb2,λ v' h=>zby (((h.alloc _).kept hgrow (h.not_row (by decide) hrow))) (by omega) _⟩,⟨_,hv2,by simpa using hr2,by simp⟩,⟨u,zby ((hu.alloc _).kept hgrow (hu.not_row (by decide) hrow)) (by omega) _⟩,hB.trans hb2⟩
 case done=>
  rintro D ys W hD rfl ⟨⟨v,hv,hrow,hnil⟩,hu,hB⟩ hK;have hc:=hv.cell
  gi_wp2
  refine ⟨by simp,.inl ⟨_,_,rfl,run_takeDeferred hK,?_⟩⟩
  exact ⟨_,results_tmp rfl _ _ _,v,rfl,ownsRow_putObj hrow _ hK rfl,hnil,hB.trans (belowK_b (w:=w) (Nat.le_refl _) W D _ _ (by simp at hD; omega) hK rfl rfl)⟩
end Go.Proofs
end
section
set_option linter.unusedVariables false
namespace Go.Vai
open Go.Proofs Go.Shelf Go.RowKit
section
variable {cx:Cx} {w w':World} {σ:St} {μ:Mu}
theorem zl7{w w':World}(h:RowKit.Below w.heap.size w w'){b i:Nat}{x:Value}(hc:w.cell? ⟨b,i,none⟩=some x):w'.cell? ⟨b,i,none⟩=some x:=by
 have:=h.block b (lt_of_cell hc);unfold World.cell? at hc ⊢;simp only at hc ⊢;rw [this];exact hc
theorem qt(hi:Inv cx w σ μ)(h:RowKit.Below w.heap.size w w'):After cx w σ μ w' σ μ:=by
 have hu:Upd cx w σ μ w' σ μ []:=⟨h.os,h.output,h.size,λ b hb _=>h.block b hb,λ b i x _ hc=>zl7 h hc,rfl,λ _ _=>⟨rfl,rfl⟩,λ _ h=>by simp at h,λ _ h=>by simp at h,λ _ h=>by simp at h⟩
 exact hu.after hi (λ _ h=>by simp at h)
theorem zkx:∀ (k s:Nat) (l:List Nat),zky k s=some l→l=x4 s
 | 0,s,l,h=>by
  unfold zky at h;cases hs:Nat.beq s 0 <;> rw [hs] at h
  ·cases h
  ·cases h;obtain rfl:=pi hs;simp [x4]
 | k+1,s,l,h=>by
  unfold zky at h;cases hs:Nat.beq s 0 <;> rw [hs] at h
  ·rw [pw] at h;obtain ⟨r,hr,h⟩:=zb h;cases h;have h0:s ≠ 0:=λ e=>by subst e; cases hs
   have e:s &&& (s - 1)=Nat.land s (s - 1):=rfl;rw [x4,dif_neg h0,e,←zkx k _ r hr]
  ·cases h;obtain rfl:=pi hs;simp [x4]
theorem zj1{n:Nat}{l:List Nat}{v:Value}(hi:Inv cx w σ μ)(h:w'.ownsRow w.heap.size 3 1 v n (l.map λ x:Nat=>Value.int .i64 (x:Int)))(hn:l.length=n)(haf:After cx w σ μ w' σ μ):RD w' (zg σ μ) v (.sl 1 (l.map λ x:Nat=>D.int .i64 (x:Int))):=by
 obtain ⟨hlen,h⟩:=h;rcases h with ⟨rfl,h0⟩ | ⟨g,cap,cur,rfl,hg,hh,hcap,_,hsize,htake⟩
 ·have:l=[]:=List.eq_nil_of_length_eq_zero (by omega)
  subst this;exact .sl0 _ _ _
 ·have hfree:∀ i,¬ zg σ μ g i:=λ i ho=>by
   rcases ho with hf | ⟨id,o,ho,hown⟩
   ·exact absurd (hi.frLt _ _ hf) (by omega)
   ·exact absurd (vq hi ho hown) (by omega)
  refine RD.ofRow (cs:=cur) hh (by simp [hn]) hcap (λ y hy=>by obtain ⟨s,_,rfl⟩:=List.mem_map.1 hy; rfl) (λ k c hk=>?_) λ k _=>by rw [Nat.zero_add]; exact hfree k
  have hfl:zn (l.map λ x:Nat=>D.int .i64 (x:Int))=l.map λ x:Nat=>D.int .i64 (x:Int):=by
   unfold zn;clear hlen htake hn hk
   induction l with
   | nil=>rfl
   | cons a q ih=>simp only [List.map_cons,List.flatMap_cons,ih]; rfl
  rw [hfl,List.getElem?_map,Option.map_eq_some_iff] at hk;obtain ⟨s,hs,rfl⟩:=hk;have hklt:=(pm.1 hs).1;have:(cur.toList.take (n * 1))[k]?=some (.int .i64 (s:Int)):=by rw [htake,List.getElem?_map,hs]; rfl
  rw [List.getElem?_take,if_pos (by omega)] at this
  exact ⟨_,by simpa using this,RD.int _ _,rfl⟩
theorem zpu(hG:cx.glob 4=some zdp)(hi:Inv cx w σ μ):TabAt 4 Lib.deBruijn32tab w:=by
 obtain ⟨xs,h1,h2⟩:=hi.glob 4 _ hG;intro j hj;have hc:zdp.cells=Lib.deBruijn32tab.map λ x:Nat=>D.int .u8 (x:Int):=rfl;have hr:=h2 j (.int .u8 ((Lib.deBruijn32tab.getD j 0:Nat):Int)) (by rw [hc,List.getElem?_map,pz hj]; simp [List.getD_eq_getElem?_getD,hj])
 rw [(h1 j (by rw [hc,ph]; exact hj)).1]
 generalize xs j=z at hr;cases hr;rfl
theorem zle(hP:cx.P=Tryz.prog)(hG:cx.glob 4=some zdp){args:List V}{out:Out}{σ':St}(h:zio args σ=some (out,σ')){vs:List Value}(hi:Inv cx w σ μ)(hcan:Canon σ)(hv:RVs w σ μ vs args) :
  ∃ u,out=.ret u∧(∀ k o,zd σ' k=some o→k<σ.length∧∀ i∈o.ids,i<σ.length)∧(∀ i∈u.ids,i<σ.length) ∧
  Calls cx.P 234 vs.toArray w λ e w'=>∃ μ' x,e=.returned x∧After cx w σ μ w' σ' μ'∧RV w' σ' μ' x u:=by
 unfold zio at h;split at h
 case h_2=>cases h
 rename_i s;obtain ⟨hc,h1⟩:=za h;clear h;rw [pj] at hc;have hs0:=pc hc.1;have hs1:=pc hc.2;obtain ⟨l,hl,h⟩:=zb h1;clear h1;cases h;have hxl:=zkx _ _ l hl;obtain ⟨m,rfl⟩:∃ m:Nat,s=(m:Int):=⟨s.toNat,by omega⟩
 rw [show Nat.land ((m:Int).toNat) 16777215=m &&& 16777215 from rfl] at hxl;refine ⟨_,rfl,hcan,by simp [V.ids],?_⟩
 obtain ⟨v,rfl⟩:∃ v,vs=[v]:=List.length_eq_one_iff.1 (by simpa using hv.1)
 have hv0:=hv.2 0 v _ rfl rfl;cases hv0 with | d _ _ hd=>?_
 cases hd;rw [hP];have hT:=zpu hG hi;have h4:4<w.heap.size:=by
  have:=hT 0 (by decide)
  unfold World.cell? at this;cases hh:w.heap[4]? with
  | none=>rw [hh] at this; cases this
  | some o=>exact (Array.getElem?_eq_some_iff.1 hh).1
 refine (callsIn_wide.mp (Tryz.List_in 3 (by omega) m (by omega) w h4 hT)).mono ?_
 rintro e w' ⟨v',rfl,ho,_,hb⟩;have haf:=qt hi hb;rw [←hxl] at ho;exact ⟨μ,_,rfl,haf,.d _ _ (zj1 hi ho rfl haf)⟩
end
end Go.Vai
end
noncomputable section
namespace Go.Vai
open Go.Proofs
def zp7:List (Nat×List (Nat×List Nat)):=[(3,[(0,[0,1,2,3]),(2,[0,1,2,3,39,40,41]),(13,[0,1,2,3,39,40,41])]),
 (7,[(0,[5]),(2,[0,1,5,7,59,60,61]),(4,[0,1,5,7,10,11,59,60,61]),(6,[0,1,5,7,10,11,59,60,61,80,81,82]),(8,[0,1,5,7,59,60,61]),(10,[0,1,5,7,59,60,61,111,112,113]),(21,[0,1,5,7,59,60,61]),(33,[0,1,5,7,10,11,59,60,61,80,81,82]),(47,[0,1,5,7,59,60,61,111,112,113])]),
 (8,[(0,[0,7]),(2,[0,5,7,51,52,53]),(4,[0,5,7,9,51,52,53]),(6,[0,5,7,9,51,52,53,73,74,75]),(27,[0,5,7,51,52,53]),(37,[0,5,7,9,51,52,53,73,74,75])]),
 (13,[(0,[]),(2,[0,3,4,5]),(9,[0,3,4,5])]),
 (15,[(0,[1,2,3])]),
 (16,[(0,[2,3]),(2,[2,3,5]),(4,[]),(6,[2,3,6]),(9,[2,3,5]),(19,[2,3,6])]),
 (19,[(0,[9]),(2,[6,9,10,11]),(4,[6,9,10,11]),(6,[6,9,10,11,42,43,44]),(21,[6,9,10,11]),(27,[6,9,10,11,42,43,44])]),
 (20,[(0,[0,6,8,9]),(2,[0,1,6,8,9,10]),(4,[0,8]),(6,[0,6,8,11]),(8,[0,6,8,11]),(10,[0,6,8,11,12]),(12,[0,6,8,11,12]),(14,[0,6,8,11,12,13]),(15,[0,1,6,8,9,10]),(16,[14]),(18,[0,8,14,15]),(29,[0,6,8,11]),(35,[0,6,8,11,12]),(41,[0,6,8,11,12,13]),(55,[0,8,14,15])]),
 (21,[(0,[6]),(2,[4,6,20,21]),(4,[4,6,7,8,20,21]),(6,[4,6,7,8,20,21,24,25,26]),(13,[4,6,20,21]),(21,[4,6,7,8,20,21,24,25,26])]),
 (22,[(0,[6]),(2,[0,4,6,7]),(4,[0,4,6,7,8]),(6,[0,4,6,7,8,9]),(13,[0,4,6,7]),(21,[0,4,6,7,8,9])]),
 (23,[(0,[]),(2,[0,1,5]),(9,[0,1,5])]),
 (24,[(0,[6]),(2,[4,6,22,23,24]),(4,[4,6,9,22,23,24]),(6,[4,6,9,22,23,24,30,31,32]),(13,[4,6,22,23,24]),(21,[4,6,9,22,23,24,30,31,32])]),
 (25,[(0,[]),(2,[1,7,8,9]),(5,[1,7,8,9])]),
 (26,[(0,[6]),(2,[0,6,7,8]),(15,[0,6,7,8])]),
 (27,[(0,[]),(2,[0,11,12]),(4,[0,3,4,11,12]),(5,[0,11,12]),(6,[0,3,4,11,12,19,20,21]),(8,[0,11,12]),(10,[0,3,4,7,11,12]),(12,[0,3,4,7,11,12]),(13,[0,3,4,11,12,19,20,21]),(14,[0,3,4,7,11,12,48,49,50]),(23,[0,3,4,7,11,12]),(33,[0,3,4,7,11,12,48,49,50])]),
 (28,[(0,[1,2,5]),(2,[1,2,5,6]),(4,[5]),(6,[1,2,5,7]),(11,[1,2,5,6]),(23,[1,2,5,7])]),
 (29,[(0,[5]),(2,[0,5,6]),(4,[0,5,6,7]),(6,[0,5,6,7,8]),(13,[0,5,6]),(21,[0,5,6,7,8])]),
 (32,[(0,[]),(2,[0,1,5]),(4,[0,1,5]),(6,[0,1,5,6]),(9,[0,1,5]),(19,[0,1,5,6])]),
 (33,[(0,[]),(2,[0,1,12,13]),(9,[0,1,12,13])]),
 (34,[(0,[6]),(2,[0,4,6]),(4,[0,4,6,7]),(6,[0,4,6,7,8]),(8,[0,4,6,7,8,9]),(10,[0,4,6,7,8,9,10]),(11,[0,4,6]),(17,[0,4,6,7,8]),(25,[0,4,6,7,8,9,10])]),
 (35,[(0,[8]),(2,[0,1,8,19,20,21]),(13,[0,1,8,19,20,21])]),
 (36,[(0,[7]),(2,[0,1,7,8]),(13,[0,1,7,8])]),
 (38,[(0,[]),(2,[0,1,5]),(9,[0,1,5])]),
 (41,[(0,[0,1,4])]),
 (42,[(0,[3,4,8,9,10,11]),(2,[3,4,8,9,10,11,22,23,24]),(7,[3,4,8,9,10,11,22,23,24])]),
 (45,[(0,[]),(2,[0,1,7,8]),(5,[0,1,7,8])]),
 (50,[(0,[]),(2,[0,1,5]),(5,[0,1,5])]),
 (51,[(0,[6]),(2,[6,20,21,22]),(13,[6,20,21,22])]),
 (52,[(0,[3]),(2,[3,6,7,8]),(7,[3,6,7,8])]),
 (53,[(0,[]),(2,[1,5,6,7]),(5,[1,5,6,7])]),
 (56,[(0,[]),(2,[0,5]),(4,[0,5]),(6,[0,5,6]),(11,[0,5]),(17,[0,5,6])]),
 (59,[(0,[]),(2,[3]),(4,[1,3,4,5]),(45,[1,3,4,5])]),
 (60,[(0,[0]),(2,[0,2,4,7]),(13,[0,2,4,7])]),
 (61,[(0,[1,2]),(2,[1,2,13,14,15]),(9,[1,2,13,14,15])]),
 (62,[(0,[2,3,4]),(2,[2,3,4,7]),(4,[]),(6,[2,3,4,8]),(9,[2,3,4,7]),(19,[2,3,4,8])]),
 (63,[(0,[0]),(2,[0,5]),(4,[0,8]),(6,[0,8,9]),(9,[0,5]),(23,[0,8,9])]),
 (69,[(0,[3]),(2,[0,3]),(5,[0,3])]),
 (73,[(0,[])]),
 (74,[(0,[6]),(2,[0,1,5,6]),(4,[0,1,5,6]),(13,[0,1,5,6])]),
 (76,[(0,[0,1,4,5]),(2,[0,4,6])]),
 (81,[(0,[3,4])]),
 (82,[(0,[]),(1,[0,1]),(2,[0,1])]),
 (84,[(0,[]),(2,[0,1,7,8]),(5,[0,1,7,8])]),
 (85,[(0,[]),(2,[0,1,2,3,8,9]),(5,[0,1,2,3,8,9])]),
 (87,[(0,[0]),(2,[0,9,10,11]),(4,[6]),(5,[0,9,10,11]),(6,[6,55,56,57]),(19,[6,55,56,57])]),
 (88,[(0,[]),(2,[]),(4,[1,2,13,14,15]),(6,[]),(7,[1,2,13,14,15]),(8,[1,2,88,89,90]),(41,[1,2,88,89,90])]),
 (91,[(0,[]),(2,[0,1,7,8]),(5,[0,1,7,8])]),
 (92,[(0,[4]),(2,[0,4,5]),(7,[0,4,5])]),
 (93,[(0,[]),(2,[0,1,5]),(5,[0,1,5])]),
 (94,[(0,[])]),
 (95,[(0,[])]),
 (96,[(0,[]),(2,[0,3]),(5,[0,3])]),
 (97,[(0,[]),(2,[1,3]),(9,[1,3])]),
 (101,[(0,[1]),(2,[0,1]),(3,[0,1]),(4,[0,1]),(6,[0,1]),(8,[0,1]),(21,[0,1])]),
 (102,[(0,[2]),(2,[0,2,14,15]),(11,[0,2,14,15])]),
 (104,[(0,[0,1,4])]),
 (105,[(0,[0,4,5]),(2,[0,1,4,5]),(5,[0,1,4,5])]),
 (106,[(0,[]),(2,[0,1,7,8]),(5,[0,1,7,8])]),
 (112,[(0,[4,10]),(2,[2,4,10,72,73,74]),(21,[2,4,10,72,73,74])]),
 (113,[(0,[2,3,4,7])]),
 (115,[(0,[]),(2,[0,1,2,6]),(3,[0,1,2,6]),(4,[0,1,2,6]),(6,[0,1,2,6,7]),(9,[0,1,2,6,7])]),
 (116,[(0,[0,6,7,8]),(2,[0,6,7,8,9]),(4,[]),(6,[0,6,7,10]),(9,[0,6,7,8,9]),(17,[0,6,7,10])]),
 (117,[(0,[]),(2,[0,1,6,7,8,9]),(11,[0,1,6,7,8,9])]),
 (118,[(0,[6,7])]),
 (119,[(0,[]),(2,[0,6,7]),(5,[0,6,7])]),
 (120,[(0,[]),(2,[0,1,2,7,8]),(4,[0,1,2,7,8]),(6,[0,1,2,7,8]),(7,[0,1,2,7,8]),(8,[0,1,2,7,8]),(10,[0,1,2,7,8,9]),(11,[0,1,2,7,8]),(12,[0,1,2,7,8]),(14,[0,1,2,7,8,10]),(29,[0,1,2,7,8,9]),(41,[0,1,2,7,8,10])]),
 (122,[(0,[9]),(2,[0,1,9,10]),(4,[0,1,9,10]),(6,[0,1,9,10]),(7,[0,1,9,10]),(8,[0,1,9,10]),(10,[0,1,9,10]),(11,[0,1,9,10])]),
 (123,[(0,[0,1,10,11]),(2,[0,1,10,11]),(4,[0,1,10,11]),(6,[0,1,10,11]),(7,[0,1,10,11]),(8,[0,1,11]),(10,[0,1,10,11]),(11,[0,1,10,11]),(12,[0,1,10,11]),(14,[0,1,10,11]),(16,[0,1,10,11]),(18,[0,1,10,11]),(27,[0,1,10,11]),(31,[0,1,10,11])]),
 (127,[(0,[]),(2,[0,6,7,8]),(3,[0,6,7,8])]),
 (131,[(0,[0,3]),(2,[0,3,9,10,11]),(4,[6]),(6,[6,25,26,27]),(7,[0,3,9,10,11]),(23,[6,25,26,27])]),
 (132,[(0,[]),(2,[0,1,7,8]),(5,[0,1,7,8])]),
 (134,[(0,[1,5,6])]),
 (137,[(0,[])]),
 (143,[(0,[3]),(2,[0,3]),(5,[0,3])]),
 (144,[(0,[4,5]),(2,[0,1,4,5]),(5,[0,1,4,5])]),
 (145,[(0,[2]),(2,[0,2,3]),(11,[0,2,3])]),
 (149,[(0,[1,2,4]),(2,[1,2,4]),(5,[1,2,4])]),
 (150,[(0,[2,3,6,7]),(2,[6,7]),(4,[3,6,7,135,136,137]),(69,[3,6,7,135,136,137])]),
 (151,[(0,[3,5,6])]),
 (152,[(0,[]),(2,[0,2,3,8]),(3,[0,2,3,8])]),
 (161,[(0,[])]),
 (163,[(0,[])]),
 (166,[(0,[0,6]),(2,[0,6,7]),(4,[0,6,7]),(6,[0,6,7]),(8,[0,6,7,8,9]),(10,[0,6,7,8,9]),(17,[0,6,7]),(25,[0,6,7]),(37,[0,6,7,8,9])]),
 (167,[(0,[5]),(2,[0,1,5,6]),(7,[0,1,5,6])]),
 (169,[(0,[3]),(2,[1,3,4]),(4,[1,3,4,5,6]),(6,[1,3,4,5,6,7]),(7,[1,3,4]),(17,[1,3,4,5,6,7])]),
 (175,[(0,[4,5]),(2,[0,1,4,5]),(5,[0,1,4,5])]),
 (176,[(0,[]),(2,[0,2,3]),(3,[0,2,3])]),
 (192,[(0,[0,1]),(2,[0,1,5]),(4,[0,1,5,39,40,41]),(6,[8]),(8,[1,8,63,64,65]),(25,[0,1,5,39,40,41]),(45,[1,8,63,64,65])]),
 (196,[(0,[0]),(2,[0,12,13,14]),(4,[0,5,12,13,14]),(6,[0,5,12,13,14,38,39,40]),(7,[0,12,13,14]),(21,[0,5,12,13,14,38,39,40])]),
 (197,[(0,[]),(2,[0,3]),(4,[0,3,4,5,7]),(5,[0,3]),(6,[0,3,4,5,7,8]),(19,[0,3,4,5,7,8])]),
 (201,[(0,[]),(2,[0,1,6,7]),(15,[0,1,6,7])]),
 (203,[(0,[]),(2,[1,2,14,15,16]),(9,[1,2,14,15,16])]),
 (205,[(0,[3,4,5]),(2,[2,3,4,5,10,11,12]),(7,[2,3,4,5,10,11,12])]),
 (210,[(0,[]),(2,[5,6,7]),(5,[5,6,7])]),
 (212,[(0,[6]),(2,[1,6,11,12,13]),(4,[1,6,11,12,13]),(6,[1,6,8,11,12,13,17,18,19]),(7,[1,6,11,12,13]),(13,[1,6,8,11,12,13,17,18,19])]),
 (217,[(0,[])]),
 (218,[(0,[])]),
 (221,[(0,[]),(2,[5,6,7]),(5,[5,6,7])]),
 (226,[(0,[1]),(2,[1,2,13,14,15]),(5,[1,2,13,14,15])]),
 (228,[(0,[1,4]),(2,[1,4,11,12,13]),(4,[4]),(6,[4,26,27,28]),(7,[1,4,11,12,13]),(17,[4,26,27,28])]),
 (230,[(0,[5]),(2,[4,5,13,14,15]),(4,[9]),(6,[8,9,34,35,36]),(9,[4,5,13,14,15]),(31,[8,9,34,35,36])]),
 (233,[(0,[]),(2,[0,1,12,13]),(9,[0,1,12,13])]),
 (234,[(0,[3])]),
 (245,[(0,[]),(2,[0,1,7,8]),(5,[0,1,7,8])]),
 (246,[(0,[]),(2,[0,1,2,3,4,10,11]),(5,[0,1,2,3,4,10,11])]),
 (248,[(0,[]),(2,[0,1]),(3,[0,1])]),
 (250,[(0,[]),(2,[0,1,2,3,8]),(3,[0,1,2,3,8]),(4,[0,1,2,3,8]),(6,[0,1,2,3,8,9]),(9,[0,1,2,3,8,9])]),
 (251,[(0,[0,3,8,9,10]),(2,[0,3,8,9,10,11]),(4,[]),(6,[0,3,8,9,12]),(9,[0,3,8,9,10,11]),(17,[0,3,8,9,12])]),
 (252,[(0,[]),(2,[0,1,8,9,10,11]),(11,[0,1,8,9,10,11])]),
 (253,[(0,[8,9])]),
 (254,[(0,[]),(2,[0,8,9]),(5,[0,8,9])]),
 (255,[(0,[]),(2,[0,1,2,3,9,10]),(4,[0,1,2,3,9,10]),(6,[0,1,2,3,9,10]),(7,[0,1,2,3,9,10]),(8,[0,1,2,3,9,10]),(10,[0,1,2,3,9,10,11]),(11,[0,1,2,3,9,10]),(12,[0,1,2,3,9,10]),(14,[0,1,2,3,9,10,12]),(29,[0,1,2,3,9,10,11]),(41,[0,1,2,3,9,10,12])]),
 (256,[(0,[11]),(2,[0,1,4,11,12]),(4,[0,1,4,11,12]),(6,[0,1,4,11,12]),(7,[0,1,4,11,12]),(8,[0,1,4,11,12]),(10,[0,1,4,11,12]),(11,[0,1,4,11,12])]),
 (257,[(0,[0,1,4,12,13]),(2,[0,1,4,12,13]),(4,[0,1,4,12,13]),(6,[0,1,4,12,13]),(7,[0,1,4,12,13]),(8,[0,1,13]),(10,[0,1,4,12,13]),(11,[0,1,4,12,13]),(12,[0,1,4,12,13]),(14,[0,1,4,12,13]),(16,[0,1,4,12,13]),(18,[0,1,4,12,13]),(27,[0,1,4,12,13]),(31,[0,1,4,12,13])]),
 (259,[(0,[]),(2,[0,2,3,4,10]),(3,[0,2,3,4,10])])]
def live(f key:Nat):List Nat:=match zd zp7 f with | some l=>(match zd l key with | some r=>r | none=>[]) | none=>[]
def zn6:D:=.agg [.str [45,62],.str [47,92],.str [92,47],.str [40],.str [41],.str [91],.str [93],.str [44],.str [46],.str [58],.str [59],.str [61],.str [92],.str [60],.str [62],.str [64],.str [126],.str [42],.str [48],.str [49]]
def acc:D:=.agg [.int .u8 128,.int .u8 191,.int .u8 160,.int .u8 191,.int .u8 128,.int .u8 159,.int .u8 144,.int .u8 191,.int .u8 128,.int .u8 143,.int .u8 0,.int .u8 0,.int .u8 0,.int .u8 0,.int .u8 0,.int .u8 0,.int .u8 0,.int .u8 0,.int .u8 0,.int .u8 0,.int .u8 0,.int .u8 0,.int .u8 0,.int .u8 0,.int .u8 0,.int .u8 0,.int .u8 0,.int .u8 0,.int .u8 0,.int .u8 0,.int .u8 0,.int .u8 0]
def unW:DataW Unit→List D
 | .lit (.int k n)=>[.int k n]
 | .agg l=>l.map λ d=>match d with | .lit (.int k n)=>.int k n | _=>.nilIface
 | _=>[]
def glob:Nat→Option D
 | 0=>some zn6
 | 1=>some (.agg (unW Go.Pinned.utf8First))
 | 2=>some acc
 | 4=>some zdp
 | _=>none
def big:Nat:=4611686018427387904
def dom(f:Nat)(args:List V):Bool:=
 bif Nat.beq f 101 then (match args with | [.d (.str s),.d (.int .i64 a)]=>decide (s.length≤big)&&(decide (0≤a)&&decide (a≤(s.length:Int))) | _=>true)
 else bif Nat.beq f 201 then (match args with | [.d (.str s),.d (.int .i64 a)]=>decide (s.length≤big)&&(decide (0≤a)&&decide (a<(s.length:Int))) | _=>true)
 else bif Nat.beq f 141 then (match args with | [.d (.str (b::_))]=>decide (128≤b.toNat) | _=>true)
 else bif Nat.beq f 62 then true
 else (match args with | [.d (.str s)]=>decide (s.length≤big) | _=>true)
def flat(f key:Nat):List Nat:=bif Nat.beq f 74&&Nat.beq key 13 then [6,7] else bif (Nat.beq f 144||Nat.beq f 175)&&Nat.beq key 5 then [5,6] else bif Nat.beq f 145&&Nat.beq key 11 then [3] else bif Nat.beq f 105&&Nat.beq key 5 then [5] else []
def own(nt d:Nat):Bool:=(Nat.beq nt 56&&Nat.beq d 9)||(Nat.beq nt 55&&(Nat.beq d 28||Nat.beq d 9))||(Nat.beq nt 23&&Nat.beq d 4)
def thaw(nt d:Nat):Bool:=Nat.beq nt 56&&Nat.beq d 51
def nils(nt t:Nat):Bool:=Nat.beq nt 28&&Nat.beq t 11
def grow(f:Nat):Option Nat:=bif Nat.beq f 165 then some 9 else none
def cx:Cx:={ dom:=dom,P:=Go.Proofs.Tryz.prog,live:=live,glob:=glob,keep:=λ f=>Nat.beq f 75||Nat.beq f 147,dfr:=λ f=>Nat.beq f 39||Nat.beq f 42,gives:=λ f=>Nat.beq f 63,pend:=λ f r=>bif Nat.beq f 82&&Nat.beq r 1 then some 5 else none,flat:=flat,bare:=λ nt d=>(Nat.beq nt 129&&Nat.beq d 103)||(Nat.beq nt 42&&Nat.beq d 31),typed:=λ nt d=>Nat.beq nt 89&&(Nat.beq d 53||Nat.beq d 54),tagS:=λ nt d=>bif Nat.beq nt 89&&Nat.beq d 53 then 6 else 0,nat:=nat,own:=own,thaw:=thaw,grow:=grow,nils:=nils }
def zo6(c:Int):Bool:=decide (c=32)||decide (c=9)||decide (c=10)||decide (c=13)
def zeg(c:Int):Bool:=(decide (97≤c)&&decide (c≤122))||(decide (65≤c)&&decide (c≤90))||decide (c=95)
def zk1(c:Int):Bool:=decide (48≤c)&&decide (c≤57)
def zib(s p:List UInt8):Bool:=decide (s.take p.length=p)
def zob:yy:=λ _ _ _=>none
def zia:List UInt8→Nat→Nat
 | [],j=>j
 | b::r,j=>bif zeg b.toNat||(decide (0<j)&&zk1 b.toNat) then zia r (j+1) else j
def zgu(s:List UInt8):Nat:=zia s 0
def zcd:Bool→List UInt8→Nat→Nat
 | _,[],j=>j
 | true,b::r,j=>zcd (!decide ((b.toNat:Int)=10)) r (j+1)
 | false,b::r,j=>bif zo6 b.toNat then zcd false r (j+1) else bif decide ((b.toNat:Int)=45)&&zib (b::r) [45,45] then zcd true r (j+1) else j
def zmn(s:List UInt8)(j:Nat):Nat:=zcd false (s.drop j) j
def zk0:List (List UInt8):=[[45,62],[47,92],[92,47],[40],[41],[91],[93],[44],[46],[58],[59],[61],[92],[60],[62],[64],[126],[42],[48],[49]]
def zh9(s:List UInt8):List (List UInt8)→Int×List UInt8
 | []=>(0,[])
 | x::r=>bif zib s x then (2,x) else zh9 s r
def zp1(s:List UInt8):Int×List UInt8:=bif decide (0<zgu s) then (1,s.take (zgu s)) else zh9 s zk0
def zpa(k:Int)(t:List UInt8)(a:Int):D:=.agg [.int .i64 k,.str t,.int .i64 a]
theorem zqc(b:UInt8)(l:List UInt8):decide ((0:Int)<((b::l).length:Int))=true:=pa (by simp only [px]; omega)
theorem c58(n:Nat)(S:yy)(b:UInt8)(r:List UInt8):zd9 cx S n 141 [.d (.str (b::r))] []=zk (decide ((0:Int)<(↑(b::r).length:Int))) (zk (decide ((↑b.toNat:Int)<(↑256:Int))) (qd (D.agg (unW Pinned.utf8First)).cells (0+(↑b.toNat:Int).toNat * cx.P.cellsOf 5) λ c=>match c with
 | D.int k' n_1=>bif decide (k'=IntKind.u8) then OPS cx (CK.plain S) n 141 0 5 3 [(21,V.d (D.int .u8 n_1)),(20,V.gptr 1 (0+(↑b.toNat:Int).toNat * cx.P.cellsOf 5)),(19,V.d (D.int .u8 (↑b.toNat:Int))),(5,V.d (D.int .u8 (↑b.toNat:Int))),(18,V.d (D.int .u8 (↑b.toNat:Int))),(17,V.d (D.str (b::r))),(16,V.d (D.bool false)),(15,V.d (D.int .i64 (↑(b::r).length:Int))),(4,V.d (D.int .i64 (↑(b::r).length:Int))),(14,V.d (D.int .i64 (↑(b::r).length:Int))),(13,V.d (D.str (b::r))),(3,V.d (D.int .i64 (0:Int))),(2,V.d (D.int IntKind.i32 (0:Int))),(0,V.d (D.str (b::r)))] [] (AR cx (CK.plain S) n 141 0 5 (EK cx 141 0)) else none
 | x=>none)):=by kernel_rfl
def cl(n:Nat):Int:=bif Nat.blt n 128 then 240 else bif Nat.blt n 194 then 241 else bif Nat.blt n 224 then 2 else bif Nat.beq n 224 then 19 else bif Nat.beq n 237 then 35 else bif Nat.blt n 240 then 3 else bif Nat.beq n 240 then 52 else bif Nat.blt n 244 then 4 else bif Nat.beq n 244 then 68 else 241
theorem tab:unW Go.Pinned.utf8First=(List.range 256).map λ i=>D.int .u8 (cl i):=by kernel_rfl
theorem cells5:cx.P.cellsOf 5=1:=by kernel_rfl
theorem enter{b:UInt8}{r:List UInt8}{x:Int}(h:cl b.toNat=x):zd9 cx zob 0 141 [.d (.str (b::r))] []=OPS cx (CK.plain zob) 0 141 0 5 3 [(21,V.d (D.int .u8 x)),(20,V.gptr 1 (0+(↑b.toNat:Int).toNat * cx.P.cellsOf 5)),(19,V.d (D.int .u8 (↑b.toNat:Int))),(5,V.d (D.int .u8 (↑b.toNat:Int))),(18,V.d (D.int .u8 (↑b.toNat:Int))),(17,V.d (D.str (b::r))),(16,V.d (D.bool false)),(15,V.d (D.int .i64 (↑(b::r).length:Int))),(4,V.d (D.int .i64 (↑(b::r).length:Int))),(14,V.d (D.int .i64 (↑(b::r).length:Int))),(13,V.d (D.str (b::r))),(3,V.d (D.int .i64 (0:Int))),(2,V.d (D.int IntKind.i32 (0:Int))),(0,V.d (D.str (b::r)))] [] (AR cx (CK.plain zob) 0 141 0 5 (EK cx 141 0)):=by
 have hb:b.toNat<256:=b.toNat_lt;rw [c58,zqc,pa (p:=(b.toNat:Int)<(256:Int)) (by omega)]
 have e:∀ (R:Type) (K:D→Option R),qd (D.agg (unW Go.Pinned.utf8First)).cells (0+(b.toNat:Int).toNat * cx.P.cellsOf 5) K=K (.int .u8 x):=by
  intro R K;show qd (unW Go.Pinned.utf8First) _ K=_;unfold qd;rw [tab,cells5,Nat.zero_add,Nat.mul_one,pn,List.getElem?_map,List.getElem?_range hb];simp only [Option.map_some,h]
 simp only [zk,pu];rw [e];simp only [decide_true,pu]
inductive Cov (s:List UInt8):Nat→List D→Prop
 | fin {e:Nat}:e≤s.length→zmn s e=s.length→Cov s e [zpa 0 [] (s.length:Int)]
 | tok {e j:Nat} {k:Int} {t:List UInt8} {rest:List D}:e≤s.length→zmn s e=j→j<s.length→zp1 (s.drop j)=(k,t)→t ≠ []→Cov s (j+t.length) rest→Cov s e (zpa k t (j:Int)::rest)
def Tk(k:Int)(t:List UInt8):Prop:=(k=1∧∃ b r,t=b::r∧zeg (b.toNat:Int)=true∧∀ c∈r,(zeg (c.toNat:Int)||zk1 (c.toNat:Int))=true)∨(k=2∧t∈zk0)
inductive LTok:List D→Prop
 | fin {a:Int}:LTok [zpa 0 [] a]
 | tok {k:Int} {t:List UInt8} {a:Int} {l:List D}:Tk k t→t.length≤65536→LTok l→LTok (zpa k t a::l)
def kt:D→Int×List UInt8 | .agg [.int _ k,.str t,_]=>(k,t) | _=>(0,[])
abbrev R1:=Out×St
def zii(o:Option R1)(K:Out→St→Option R1):Option R1:=match o with | some (a,s)=>K a s | none=>none
theorem zd1{α:Type}(x:Option α)(F:α→Option R1)(K:Out→St→Option R1):zii (ze x F) K=ze x λ a=>zii (F a) K:=by cases x <;> rfl
theorem zhi(c:Bool)(a b:Option R1)(K:Out→St→Option R1):zii (bif c then a else b) K=bif c then zii a K else zii b K:=by cases c <;> rfl
abbrev zp4(l:List D)(i:Int):St:=[(0,.val 2 (.d (.agg [.sl 3 l,.int .i64 i])))]
structure RF where
 α:Type
 dec:List V→Option α
 go:List D→Int→α→(Out→Int→Option R1)→Option R1
 ok:∀ l i x (K:Out→St→Option R1),go l i x (λ o j=>K o (zp4 l j))=zii (go l i x λ o j=>some (o,zp4 l j)) K
abbrev up(i:Int):Int:=IntKind.i64.wrap (i+1)
structure Tr where
 k:Int
 nm:List UInt8
 kids:List D
 nms:List D
 pl:Int
instance:Inhabited Tr:=⟨⟨0,[],[],[],0⟩⟩
inductive PR where
 | ok (t:Tr) (j:Int)
 | bad (a e j:Int)
inductive PN where
 | ok (l:List D) (j:Int)
 | bad (a e j:Int)
structure Tb where
 names:List D→Int→Option PN
 face:List D→Int→Option PR
 term:List D→Int→Int→Option PR
 after:List D→Int→Int→Tr→Option PR
 atom:List D→Int→Int→Option PR
 box:List D→Int→Int→Option PR
 join:List D→Int→Int→Option PR
 meet:List D→Int→Int→Option PR
 dim:List D→Int→Int→Option PR
def more{α:Type}(f:Nat)(dec:List V→St→Option α)(go:(Out→St→Option R1)→α→Option R1)(ok:∀ K q,go K q=zii (go (λ o s=>some (o,s)) q) K)(S:CK R1):CK R1 where
 S:=λ g args σ=>bif Nat.beq g f then ze (dec args σ) λ q=>go (λ o s=>some (o,s)) q else S.S g args σ
 run:=λ g args σ K=>bif Nat.beq g f then ze (dec args σ) λ q=>go K q else S.run g args σ K
 ok:=λ g a σ K=>by
  show _=zii _ K;rw [zhi,zd1];cases Nat.beq g f
  ·exact S.ok g a σ K
  ·simp only [pu];congr 1;funext q;exact ok K q
inductive T where
 | mk (k:Int) (nm:List UInt8) (kids:List T) (nms:List (List UInt8)) (pl:Int)
instance:Inhabited T:=⟨.mk 0 [] [] [] 0⟩
def zjx{α β:Type}(f:Nat)(dec:List V→Option α)(sp:α→Option β)(mk:β→V)(S:CK R1):CK R1 where
 S:=λ g args σ=>bif Nat.beq g f&&σ.isEmpty then ze (dec args) λ q=>ze (sp q) λ b=>some (.ret (mk b),[]) else S.S g args σ
 run:=λ g args σ K=>bif Nat.beq g f&&σ.isEmpty then ze (dec args) λ q=>ze (sp q) λ b=>K (.ret (mk b)) [] else S.run g args σ K
 ok:=λ g a σ K=>by
  show _=zii _ K;rw [zhi,zd1];cases Nat.beq g f&&σ.isEmpty
  ·exact S.ok g a σ K
  ·simp only [pu,zd1];rfl
theorem zbk{α β:Type}{f:Nat}{dec:List V→Option α}{sp:α→Option β}{mk:β→V}{S:CK R1}(hS:knows cx S.S (yw cx))
  (hf:∀ a q b,cx.dom f a=true→dec a=some q→sp q=some b→yw cx f a []=some (.ret (mk b),[])):knows cx (zjx f dec sp mk S).S (yw cx):=by
 intro g args σ r hd h;simp only [zjx] at h;cases hg:(Nat.beq g f&&σ.isEmpty) <;> rw [hg] at h
 ·exact hS g args σ r hd h
 ·rw [pj] at hg;obtain rfl:=pi hg.1;obtain rfl:=List.isEmpty_iff.1 hg.2;simp only [pu] at h;obtain ⟨q,hq,h⟩:=zb h;obtain ⟨b,hb,h⟩:=zb h;cases h;exact hf args q b hd hq hb
end Go.Vai
end
section
namespace Go.Proofs
open Go.Shelf
def Tryz.growS_ren:Go.Shelf.Ren:=⟨λ | 4=>165 | n=>n,λ | 22=>23 | 25=>9 | 3=>3 | 4=>4 | 9=>9 | 20=>20 | 0=>0 | n=>n,λ | n=>n⟩
theorem Tryz.growS:Go.Proofs.Lays8.n4 Tryz.prog Tryz.growS_ren:={
 mixed:=by kernel_rfl
 f4:=⟨Tryz.f165.name,by decide,Tryz.func165.trans (congrArg some (by kernel_rfl))⟩
 t0:=Tryz.underlying0
 a0:=Tryz.isAgg0
 z0:=Tryz.sizeOf0
 v0:=Tryz.zeroValue0
 t3:=Tryz.underlying3
 a3:=Tryz.isAgg3
 z3:=Tryz.sizeOf3
 v3:=Tryz.zeroValue3
 t4:=Tryz.underlying4
 a4:=Tryz.isAgg4
 z4:=Tryz.sizeOf4
 v4:=Tryz.zeroValue4
 t9:=Tryz.underlying9
 a9:=Tryz.isAgg9
 z9:=Tryz.sizeOf9
 v9:=Tryz.zeroValue9
 t20:=Tryz.underlying20
 a20:=Tryz.isAgg20
 z20:=Tryz.sizeOf20
 v20:=Tryz.zeroValue20
 t22:=Tryz.underlying23
 a22:=Tryz.isAgg23
 z22:=Tryz.sizeOf23
 v22:=Tryz.zeroValue23 }
def Tryz.lays169_ren:Go.Shelf.Ren:=⟨λ | 169=>164 | n=>n,λ | 70=>173 | 9=>9 | 0=>0 | 72=>176 | 37=>174 | 127=>232 | 3=>3 | 5=>5 | n=>n,λ | n=>n⟩
theorem Tryz.lays169:Go.Proofs.Lays.n169 Tryz.prog Tryz.lays169_ren:={
 mixed:=by kernel_rfl
 f169:=Tryz.func164.trans (congrArg some (by kernel_rfl))
 t0:=Tryz.underlying0
 a0:=Tryz.isAgg0
 z0:=Tryz.sizeOf0
 v0:=Tryz.zeroValue0
 t3:=Tryz.underlying3
 a3:=Tryz.isAgg3
 z3:=Tryz.sizeOf3
 v3:=Tryz.zeroValue3
 t9:=Tryz.underlying9
 a9:=Tryz.isAgg9
 z9:=Tryz.sizeOf9
 v9:=Tryz.zeroValue9
 t37:=Tryz.underlying174
 a37:=Tryz.isAgg174
 z37:=Tryz.sizeOf174
 v37:=Tryz.zeroValue174
 t70:=Tryz.underlying173
 a70:=Tryz.isAgg173
 z70:=Tryz.sizeOf173
 v70:=Tryz.zeroValue173
 t72:=Tryz.underlying176
 a72:=Tryz.isAgg176
 z72:=Tryz.sizeOf176
 v72:=Tryz.zeroValue176
 t127:=Tryz.underlying232
 a127:=Tryz.isAgg232
 z127:=Tryz.sizeOf232
 v127:=Tryz.zeroValue232 }
theorem Tryz.Builder_Extra_169:Builder.Extra Tryz.prog Tryz.lays169_ren:={
 sizeBuilder:=by kernel_rfl
 liesBuilder:=by kernel_rfl
 t5:=Tryz.underlying5
 a5:=Tryz.isAgg5
 z5:=Tryz.sizeOf5
 v5:=Tryz.zeroValue5
 infoByte:=by kernel_rfl
 cellsByte:=by kernel_rfl
 sizeByte:=by kernel_rfl
 neB5:=by decide }
open Go.RowKit in
def Tryz.lays156_ren:Go.Shelf.Ren:=⟨λ | 156=>192 | 165=>215 | 166=>159 | 169=>164 | 240=>191 | 241=>231 | 276=>214 | 277=>242 | n=>n,λ | 31=>23 | 9=>9 | 3=>3 | 4=>4 | 0=>0 | 20=>20 | 72=>176 | 76=>204 | 70=>173 | 37=>174 | 75=>203 | 127=>232 | 164=>237 | 5=>5 | 80=>155 | n=>n,λ | n=>n⟩
theorem Tryz.lays156:Go.Proofs.Lays.n156 Tryz.prog Tryz.lays156_ren:={
 mixed:=by kernel_rfl
 f156:=Tryz.func192.trans (congrArg some (by kernel_rfl))
 f165:=Tryz.func215.trans (congrArg some (by kernel_rfl))
 f166:=Tryz.func159.trans (congrArg some (by kernel_rfl))
 f169:=Tryz.func164.trans (congrArg some (by kernel_rfl))
 f240:=Tryz.func191.trans (congrArg some (by kernel_rfl))
 f241:=Tryz.func231.trans (congrArg some (by kernel_rfl))
 f276:=Tryz.func214.trans (congrArg some (by kernel_rfl))
 f277:=Tryz.func242.trans (congrArg some (by kernel_rfl))
 t0:=Tryz.underlying0
 a0:=Tryz.isAgg0
 z0:=Tryz.sizeOf0
 v0:=Tryz.zeroValue0
 t3:=Tryz.underlying3
 a3:=Tryz.isAgg3
 z3:=Tryz.sizeOf3
 v3:=Tryz.zeroValue3
 t4:=Tryz.underlying4
 a4:=Tryz.isAgg4
 z4:=Tryz.sizeOf4
 v4:=Tryz.zeroValue4
 t9:=Tryz.underlying9
 a9:=Tryz.isAgg9
 z9:=Tryz.sizeOf9
 v9:=Tryz.zeroValue9
 t20:=Tryz.underlying20
 a20:=Tryz.isAgg20
 z20:=Tryz.sizeOf20
 v20:=Tryz.zeroValue20
 t31:=Tryz.underlying23
 a31:=Tryz.isAgg23
 z31:=Tryz.sizeOf23
 v31:=Tryz.zeroValue23
 t37:=Tryz.underlying174
 a37:=Tryz.isAgg174
 z37:=Tryz.sizeOf174
 v37:=Tryz.zeroValue174
 t70:=Tryz.underlying173
 a70:=Tryz.isAgg173
 z70:=Tryz.sizeOf173
 v70:=Tryz.zeroValue173
 t72:=Tryz.underlying176
 a72:=Tryz.isAgg176
 z72:=Tryz.sizeOf176
 v72:=Tryz.zeroValue176
 t75:=Tryz.underlying203
 a75:=Tryz.isAgg203
 z75:=Tryz.sizeOf203
 v75:=Tryz.zeroValue203
 t76:=Tryz.underlying204
 a76:=Tryz.isAgg204
 z76:=Tryz.sizeOf204
 v76:=Tryz.zeroValue204
 t127:=Tryz.underlying232
 a127:=Tryz.isAgg232
 z127:=Tryz.sizeOf232
 v127:=Tryz.zeroValue232
 t164:=Tryz.underlying237
 a164:=Tryz.isAgg237
 z164:=Tryz.sizeOf237
 v164:=Tryz.zeroValue237 }
theorem Tryz.Builder_Extra_156:Builder.Extra Tryz.prog Tryz.lays156_ren:={
 sizeBuilder:=by kernel_rfl
 liesBuilder:=by kernel_rfl
 t5:=Tryz.underlying5
 a5:=Tryz.isAgg5
 z5:=Tryz.sizeOf5
 v5:=Tryz.zeroValue5
 infoByte:=by kernel_rfl
 cellsByte:=by kernel_rfl
 sizeByte:=by kernel_rfl
 neB5:=by decide }
open Go.RowKit in
theorem Tryz.strings_Join_none(a:Option Addr)(c:Nat)(sep:ByteArray)(w:World) :
  Calls Tryz.prog 192 #[.slice a 0 c,.string sep] w λ e w'=>e=.returned (.string ⟨#[]⟩)∧w'=w:=Any.strings_Join_none Tryz.lays156 Tryz.Builder_Extra_156 a c sep w
open Go.RowKit in
theorem Tryz.strings_Join(bk o c:Nat)(xs:List ByteArray)(sep:ByteArray)(w:World)(hcells:∀ (j:Nat) x,xs[j]?=some x→w.cell? ⟨bk,o+j,none⟩=some (.string x))(hbk:bk<w.heap.size)(hN:xs.length≤140737488355328)(hcap:xs.length≤c)(hlen:(Lib.join (xs.map (·.data.toList)) sep.data.toList).length≤140737488355328) :
  Calls Tryz.prog 192 #[.slice (some ⟨bk,o,none⟩) xs.length c,.string sep] w λ e w'=>e=.returned (.string ⟨(Lib.join (xs.map (·.data.toList)) sep.data.toList).toArray⟩)∧Below w.heap.size w w':=Any.strings_Join Tryz.lays156 Tryz.Builder_Extra_156 bk o c xs sep w hcells hbk hN hcap hlen
def Tryz.lays189_ren:Go.Shelf.Ren:=⟨λ | 189=>49 | 125=>86 | 257=>85 | 128=>124 | 129=>125 | 294=>115 | 295=>116 | 296=>117 | 297=>118 | 298=>119 | 299=>120 | 216=>121 | 300=>122 | 301=>123 | 328=>152 | 329=>153 | 330=>154 | 331=>155 | 332=>156 | 215=>157 | 343=>190 | n=>n,λ | 28=>47 | 3=>3 | 46=>140 | 0=>0 | 51=>78 | 53=>44 | 4=>4 | 183=>164 | 182=>163 | 131=>102 | 5=>5 | 9=>9 | 218=>196 | 222=>200 | 228=>229 | 229=>230 | n=>n,λ | n=>n⟩
theorem Tryz.lays189:Go.Proofs.Lays.n189 Tryz.prog Tryz.lays189_ren:={
 mixed:=by kernel_rfl
 f125:=Tryz.func86.trans (congrArg some (by kernel_rfl))
 f128:=Tryz.func124.trans (congrArg some (by kernel_rfl))
 f129:=Tryz.func125.trans (congrArg some (by kernel_rfl))
 f189:=Tryz.func49.trans (congrArg some (by kernel_rfl))
 f215:=Tryz.func157.trans (congrArg some (by kernel_rfl))
 f216:=Tryz.func121.trans (congrArg some (by kernel_rfl))
 f257:=Tryz.func85.trans (congrArg some (by kernel_rfl))
 f294:=Tryz.func115.trans (congrArg some (by kernel_rfl))
 f295:=Tryz.func116.trans (congrArg some (by kernel_rfl))
 f296:=Tryz.func117.trans (congrArg some (by kernel_rfl))
 f297:=Tryz.func118.trans (congrArg some (by kernel_rfl))
 f298:=Tryz.func119.trans (congrArg some (by kernel_rfl))
 f299:=Tryz.func120.trans (congrArg some (by kernel_rfl))
 f300:=Tryz.func122.trans (congrArg some (by kernel_rfl))
 f301:=Tryz.func123.trans (congrArg some (by kernel_rfl))
 f328:=Tryz.func152.trans (congrArg some (by kernel_rfl))
 f329:=Tryz.func153.trans (congrArg some (by kernel_rfl))
 f330:=Tryz.func154.trans (congrArg some (by kernel_rfl))
 f331:=Tryz.func155.trans (congrArg some (by kernel_rfl))
 f332:=Tryz.func156.trans (congrArg some (by kernel_rfl))
 f343:=Tryz.func190.trans (congrArg some (by kernel_rfl))
 t0:=Tryz.underlying0
 a0:=Tryz.isAgg0
 z0:=Tryz.sizeOf0
 v0:=Tryz.zeroValue0
 t3:=Tryz.underlying3
 a3:=Tryz.isAgg3
 z3:=Tryz.sizeOf3
 v3:=Tryz.zeroValue3
 t4:=Tryz.underlying4
 a4:=Tryz.isAgg4
 z4:=Tryz.sizeOf4
 v4:=Tryz.zeroValue4
 t5:=Tryz.underlying5
 a5:=Tryz.isAgg5
 z5:=Tryz.sizeOf5
 v5:=Tryz.zeroValue5
 t9:=Tryz.underlying9
 a9:=Tryz.isAgg9
 z9:=Tryz.sizeOf9
 v9:=Tryz.zeroValue9
 t28:=Tryz.underlying47
 a28:=Tryz.isAgg47
 z28:=Tryz.sizeOf47
 v28:=Tryz.zeroValue47
 t46:=Tryz.underlying140
 a46:=Tryz.isAgg140
 z46:=Tryz.sizeOf140
 v46:=Tryz.zeroValue140
 t51:=Tryz.underlying78
 a51:=Tryz.isAgg78
 z51:=Tryz.sizeOf78
 v51:=Tryz.zeroValue78
 t53:=Tryz.underlying44
 a53:=Tryz.isAgg44
 z53:=Tryz.sizeOf44
 v53:=Tryz.zeroValue44
 t131:=Tryz.underlying102
 a131:=Tryz.isAgg102
 z131:=Tryz.sizeOf102
 v131:=Tryz.zeroValue102
 t182:=Tryz.underlying163
 a182:=Tryz.isAgg163
 z182:=Tryz.sizeOf163
 v182:=Tryz.zeroValue163
 t183:=Tryz.underlying164
 a183:=Tryz.isAgg164
 z183:=Tryz.sizeOf164
 v183:=Tryz.zeroValue164
 t218:=Tryz.underlying196
 a218:=Tryz.isAgg196
 z218:=Tryz.sizeOf196
 v218:=Tryz.zeroValue196
 t222:=Tryz.underlying200
 a222:=Tryz.isAgg200
 z222:=Tryz.sizeOf200
 v222:=Tryz.zeroValue200
 t228:=Tryz.underlying229
 a228:=Tryz.isAgg229
 z228:=Tryz.sizeOf229
 v228:=Tryz.zeroValue229
 t229:=Tryz.underlying230
 a229:=Tryz.isAgg230
 z229:=Tryz.sizeOf230
 v229:=Tryz.zeroValue230 }
open Go.Sort Go.RowKit in
theorem Tryz.slices_Sort_int(blk off cap:Nat)(zs:List Int)(w:World)(hH:Holds (Value.int .i64) w blk off zs.toArray)(hblk:blk<w.heap.size)(hsz:zs.length<4611686018427387904) :
  Calls Tryz.prog 49 #[.slice (some ⟨blk,off,none⟩) zs.length cap] w λ e w'=>
   e=.returned (.tuple #[])∧∃ n os,w'=grow (putRow (Value.int .i64) (Sort.ahead w n) blk off (zs.mergeSort λ x y=>decide (x≤y)).toArray) os:=Any.slices_Sort_int Tryz.lays189 blk off cap zs w hH hblk hsz
def Tryz.laysNm216_ren:Go.Shelf.Ren:=⟨λ | 16=>99 | n=>n,λ | 24=>23 | 9=>9 | 4=>4 | n=>n,λ | n=>n⟩
theorem Tryz.laysNm216:Go.Proofs.Lays2.n16 Tryz.prog Tryz.laysNm216_ren:={
 mixed:=by kernel_rfl
 f16:=Tryz.func99.trans (congrArg some (by kernel_rfl))
 t4:=Tryz.underlying4
 a4:=Tryz.isAgg4
 z4:=Tryz.sizeOf4
 v4:=Tryz.zeroValue4
 t9:=Tryz.underlying9
 a9:=Tryz.isAgg9
 z9:=Tryz.sizeOf9
 v9:=Tryz.zeroValue9
 t24:=Tryz.underlying23
 a24:=Tryz.isAgg23
 z24:=Tryz.sizeOf23
 v24:=Tryz.zeroValue23
 i9:=by kernel_rfl }
open Go.RowKit Go.Lib in
theorem Tryz.slices_Clone_string(b off n c:Nat)(zs:List ByteArray)(w:World)(hz:n≤zs.length)(hbig:n * 16≤140737488355328)(hc:∀ j,j<zs.length→w.cell? ⟨b,off+j,none⟩=some (.string (zs.getD j ByteArray.empty))) :
  Calls Tryz.prog 99 #[.slice (some ⟨b,off,none⟩) n c] w λ e w'=>∃ v',e=.returned v'∧w'.ownsRow w.heap.size 9 1 v' n ((zs.take n).map (Value.string))∧v' ≠ .slice none 0 0∧Below w.heap.size w w':=Any.slices_Clone_string Tryz.laysNm216 b off n c zs w hz hbig hc
open Go.RowKit Go.Lib in
theorem Tryz.slices_Clone_string_nil(n c:Nat)(w:World) :
  Calls Tryz.prog 99 #[.slice none n c] w λ e w'=>e=.returned (.slice none 0 0)∧w'=w:=Any.slices_Clone_string_nil Tryz.laysNm216 n c w
open Go.RowKit Go.Lib in
theorem Tryz.slices_Clone_string_zero(a:Addr)(c:Nat)(w:World) :
  Calls Tryz.prog 99 #[.slice (some a) 0 c] w λ e w'=>∃ v',e=.returned v'∧w'.ownsRow w.heap.size 9 1 v' 0 []∧v' ≠ .slice none 0 0∧Below w.heap.size w w':=Any.slices_Clone_string_zero Tryz.laysNm216 a c w
end Go.Proofs
end
section
set_option linter.unusedVariables false
namespace Go.Proofs
open Go.Shelf Go.RowKit
variable {P:Program} {ρ:Ren}
set_option maxHeartbeats 2000000 in
set_option maxRecDepth 100000 in
theorem Any.String_core(L:Lays.n169 P ρ)(X:Builder.Extra P ρ)(b:Nat)(w w2:World)(ao p:Option Addr)(n cap:Nat)(s:ByteArray)
  (c1:w.drew.cell? ⟨b,1,none⟩=some (.slice ao n cap))
  (hSD:(Builtin.unsafeSliceData_ #[(ρ.t 37)] (ρ.t 127) #[.slice ao n cap]).run P w.drew=.ok (.pointer p) w.drew)
  (hUS:(Builtin.unsafeString_ #[(ρ.t 127),(ρ.t 3)] (ρ.t 9) #[.pointer p,.int .i64 n]).run P w.drew=.ok (.string s) w2) :
  Calls P (ρ.f 169) #[.pointer (some ⟨b,0,none⟩)] w λ e w'=>e=.returned (.string s)∧w'=w2:=by
 have mixed:=L.mixed;have t72:=L.t72; have a72:=L.a72; have z72:=L.z72; have v72:=L.v72; have u72:=run_underlying L.t72;have t70:=L.t70; have a70:=L.a70; have z70:=L.z70; have v70:=L.v70; have u70:=run_underlying L.t70;have t37:=L.t37; have a37:=L.a37; have z37:=L.z37; have v37:=L.v37; have u37:=run_underlying L.t37;have t127:=L.t127; have a127:=L.a127; have z127:=L.z127; have v127:=L.v127; have u127:=run_underlying L.t127;have t3:=L.t3; have a3:=L.a3; have z3:=L.z3; have v3:=L.v3; have u3:=run_underlying L.t3;have t9:=L.t9; have a9:=L.a9; have z9:=L.z9; have v9:=L.v9; have u9:=run_underlying L.t9;have t5:=X.t5; have a5:=X.a5; have z5:=X.z5; have v5:=X.v5; have u5:=run_underlying X.t5
 go_enter L.f169,Body.n169_ntmps ρ
 go_wp2
 go_region_o
 all_goals (go_wp2; go_ret; exact ⟨rfl,rfl⟩)
theorem Tryz.String_core(b:Nat)(w w2:World)(ao p:Option Addr)(n cap:Nat)(s:ByteArray)
  (c1:w.drew.cell? ⟨b,1,none⟩=some (.slice ao n cap))
  (hSD:(Builtin.unsafeSliceData_ #[174] 232 #[.slice ao n cap]).run Tryz.prog w.drew=.ok (.pointer p) w.drew)
  (hUS:(Builtin.unsafeString_ #[232,3] 9 #[.pointer p,.int .i64 n]).run Tryz.prog w.drew=.ok (.string s) w2) :
  Calls Tryz.prog 164 #[.pointer (some ⟨b,0,none⟩)] w λ e w'=>e=.returned (.string s)∧w'=w2:=
 Any.String_core Tryz.lays169 Tryz.Builder_Extra_169 b w w2 ao p n cap s c1 hSD hUS
end Go.Proofs
namespace Go.Vai
open Go.Proofs Go.Sort
section
variable {cx:Cx} {w w':World} {σ:St} {μ:Mu}
theorem zeq(w:World)(g n:Nat):∀ b,b ≠ g→(w.freeze ⟨g,0,none⟩ n).heap[b]?=w.heap[b]?:=λ b hb=>by
 unfold World.freeze;split
 ·rfl
 ·simp [Array.getElem?_modify,Ne.symm hb]
theorem zkg(w:World)(g n:Nat)(b k:Nat):(w.freeze ⟨g,0,none⟩ n).cell? ⟨b,k,none⟩=w.cell? ⟨b,k,none⟩:=by
 by_cases hbg:b=g
 ·subst hbg;unfold World.freeze;split
  ·rfl
  ·unfold World.cell?;simp only [Array.getElem?_modify,if_true];cases h:w.heap[b]? with
   | none=>rfl
   | some o=>cases o <;> rfl
 ·unfold World.cell?;simp only;rw [zeq w g n b hbg]
theorem zos{id k:Nat}(ho:zd σ id=some (.tok k))(hos:w'.os=w.os)(hout:w'.output=w.output)(hsize:w.heap.size≤w'.heap.size)
  (hblk:∀ b,b<w.heap.size→(μ id).blk ≠ some b→w'.heap[b]?=w.heap[b]?) (hcell:∀ b i x,w.cell? ⟨b,i,none⟩=some x→w'.cell? ⟨b,i,none⟩=some x) :
  Upd cx w σ μ w' (xh σ id (.tok (k+1))) (setMu μ id ⟨none,0,0,0⟩) [id] where
 os:=hos
 output:=hout
 size:=hsize
 blk:=λ b hb h=>hblk b hb λ e=>h id (by simp) _ ho (μ id).f ⟨e,Nat.le_refl _⟩
 cell:=λ b i x _ h=>hcell b i x h
 fr:=rfl
 same:=λ j hj=>by
  have:id ≠ j:=λ e=>hj (by simp [e])
  exact ⟨by simp [zf,this],by simp [setMu,Ne.symm this]⟩
 own:=λ j hj q hq b i hown _=>by
  simp at hj; subst hj;simp only [zf,if_true] at hq;cases hq;have:=hown.1;simp [setMu] at this
 still:=λ j hj q hq=>by
  simp at hj; subst hj;rw [ho] at hq; cases hq;simp only [zf,if_true];exact ⟨by omega,λ h=>by omega⟩
 apart:=λ j hj j' hj' _ _ _ _ _ _ _ _ _=>by simp at hj hj'; rw [hj,hj']
theorem zly{id k:Nat}(hi:Inv cx w σ μ)(ho:zd σ id=some (.tok k))(hos:w'.os=w.os)(hout:w'.output=w.output)(hsize:w.heap.size≤w'.heap.size)
  (hblk:∀ b,b<w.heap.size→(μ id).blk ≠ some b→w'.heap[b]?=w.heap[b]?) (hcell:∀ b i x,w.cell? ⟨b,i,none⟩=some x→w'.cell? ⟨b,i,none⟩=some x) :
  After cx w σ μ w' (xh σ id (.tok (k+1))) (setMu μ id ⟨none,0,0,0⟩):=
 (zos ho hos hout hsize hblk hcell).after hi λ j hj o' ho'=>by
  simp at hj; subst hj;simp only [zf,if_true] at ho';cases ho';intro b hb;simp [setMu] at hb
theorem zeh:szN 6291457=1:=by decide
theorem znq{id k:Nat}(hc:Canon σ)(ho:zd σ id=some (.tok k)):∀ j o,zd (xh σ id (.tok (k+1))) j=some o→j<σ.length∧∀ i∈o.ids,i<σ.length:=by
 intro j o hj;rw [zf] at hj;by_cases h:id=j
 ·subst h;rw [if_pos rfl] at hj;cases hj;exact ⟨(hc id _ ho).1,by simp [Ob.ids]⟩
 ·rw [if_neg h] at hj;exact hc j o hj
theorem zm2(hP : cx.P = Tryz.prog){args : List V}{out : Out}{σ' : St}(h : zlc args σ = some (out, σ')){vs : List Value}(hi : Inv cx w σ μ)(hcan : Canon σ)(hv : RVs w σ μ vs args) :
    ∃ u, out = .ret u ∧ (∀ k o, zd σ' k = some o → k < σ.length ∧ ∀ i ∈ o.ids, i < σ.length) ∧ (∀ i ∈ u.ids, i < σ.length) ∧
    Calls cx.P 164 vs.toArray w λ e w' => ∃ μ' x, e = .returned x ∧ After cx w σ μ w' σ' μ' ∧ RV w' σ' μ' x u := by
  unfold zlc at h;obtain ⟨i, hargs, h1⟩ := zb h;clear h;obtain rfl := zmv hargs;obtain ⟨⟨sz, l, id⟩, hq, h2⟩ := zb h1;clear h1;obtain ⟨n, p, r, ho⟩ := zk7 hq;obtain ⟨k, hk, h3⟩ := zb h2;clear h2;have ht := zk3 hk;obtain ⟨hc, h4⟩ := za h3;clear h3;obtain ⟨s, hs, h⟩ := zb h4;clear h4;cases h;clear hk hq hargs;simp only at hs hc ht ho;simp only [pj, decide_eq_true_eq] at hc;obtain ⟨⟨hsz, hk⟩, hlen⟩ := hc;have hsz := pi hsz;subst hsz;subst hk;have hl := zge l s hs;refine ⟨_, rfl, znq hcan ht, by simp [V.ids], ?_⟩
  -- the argument
  obtain ⟨v, rfl⟩ : ∃ v, vs = [v] := List.length_eq_one_iff.1 (by simpa using hv.1)
  have hv0 := hv.2 0 v _ rfl rfl;cases hv0 with | ptr _ _ b _ hb => ?_
  obtain ⟨b', cs, el, hb', hh, _, _, _, hrs, _⟩ := hi.ob i _ ho;obtain rfl : b = b' := by rw [hb] at hb'; exact Option.some.inj hb'
  obtain ⟨v1, hv1⟩ : ∃ v1, cs.toList[1]? = some v1 := zq (by rw [hrs.1]; simp [V.cells])
  have hr1 := hrs.2 1 v1 (.sl 6291457 l id) hv1 rfl;cases hr1 with | sl _ _ _ _ n' hrd ht' hn' htail => ?_
  rw [ht] at ht'; cases ht';have htail := htail rfl;rw [zeh] at hrd;obtain ⟨base, cap, rfl⟩ := hrd.slice_inv;have c1 : w.drew.cell? ⟨b, 1, none⟩ = some (.slice base l.length cap) := by
    show w.cell? ⟨b, 1, none⟩ = _;rw [cell_of_heap hh];simpa using hv1
  rw [hP]
  have fin : ∀ w', w'.os = w.os → w'.output = w.output → w.heap.size ≤ w'.heap.size → (∀ b, b < w.heap.size → (μ id).blk ≠ some b → w'.heap[b]? = w.heap[b]?) →
      (∀ b i x, w.cell? ⟨b, i, none⟩ = some x → w'.cell? ⟨b, i, none⟩ = some x) →
      ∃ μ' x, Ending.returned (.string ⟨s.toArray⟩) = .returned x ∧ After cx w σ μ w' (xh σ id (.tok (l.length + 1))) μ' ∧ RV w' (xh σ id (.tok (l.length + 1))) μ' x (.d (.str s)) :=
    λ w' h1 h2 h3 h4 h5 => ⟨_, _, rfl, zly hi ht h1 h2 h3 h4 h5, .d _ _ (.str s)⟩
  by_cases he : l = []
  · subst he;have hs0 : s = [] := by cases s with | nil => rfl | cons a b => simp at hl
    subst hs0;rcases htail with ⟨h1, _, _, h2⟩ | ⟨b2, o, _, _, _, _, _, h2⟩
    · subst h1
      obtain rfl : base = none := by rcases h2 with h2 | h2; · exact absurd h2 (by decide)
                                     · exact h2
      refine (Tryz.String_core b w w.drew none none 0 0 .empty c1 rfl (Lib.run_unsafeString_none w.drew 232 3 9 none)).mono ?_;rintro e w' ⟨rfl, rfl⟩;exact fin _ rfl rfl (Nat.le_refl _) (λ _ _ _ => rfl) (λ _ _ _ h => h)
    · rcases h2 with h2 | h2
      · exact absurd h2 (by decide)
      · exact absurd h2.2.2 (by simp)
  · have hpos : 0 < l.length := List.length_pos_iff.2 he;rcases htail with ⟨_, h1, _⟩ | ⟨g, o, hbase, hg, hf, hend, hnc, h2⟩
    · omega
    rcases h2 with h2 | ⟨hel, ho0, _⟩
    · exact absurd h2 (by decide)
    subst hbase;subst ho0;obtain ⟨cs', el', fr', hh', hel', hcs', _⟩ := hi.ob id _ ht g hg;have h6 : (6291457 : Nat) / 1048576 = 6 := by decide
    have hel5 : el' = 5 := by rw [hel']; rw [h6] at hel; exact (Nat.succ.inj hel).symm
    rw [zeh] at hend;subst hel5;have hsl : s.length = l.length := by rw [hl]; simp
    have hs0 : s ≠ [] := λ e => by rw [e] at hsl; simp at hsl; omega
    have hcell : ∀ j x, s[j]? = some x → w.drew.cell? ((⟨g, 0, none⟩ : Addr).add j) = some (.int .u8 x.toNat) := by
      intro j x hx;have hj := (pm.1 hx).1;generalize hnl : l.length = nl at hrd;cases hrd with
      | sl0 => exact absurd rfl he
      | sl _ _ _ _ _ _ xs hn hcap hszs hcells hels =>
        have hlx : l[j]? = some (zh6 x) := by rw [hl, List.getElem?_map, hx]; rfl
        have h1 := hcells j (by omega)
        have h2 := hels j 0 (zh6 x) (zh6 x) hlx rfl;simp only [Nat.mul_one, Nat.add_zero] at h2;rw [show (⟨g, 0, none⟩ : Addr).add j = ⟨g, 0 + j, none⟩ from by by_cases hj0 : j = 0 <;> simp [Addr.add, hj0]]
        have h3 : w.cell? ⟨g, 0 + j, none⟩ = some (xs j) := h1.1;generalize xs j = q at h2 h3;unfold zh6 at h2;cases h2;exact h3
    have hUS := Lib.run_unsafeString_row (P := Tryz.prog) w.drew 232 3 9 5 (by kernel_rfl) (by kernel_rfl) g cs'.size (by show w.shape? g = _; simp [World.shape?, hh']) s hs0 (by rw [hsl, hcs']; omega) (by omega) hcell
    rw [hsl] at hUS;refine (Tryz.String_core b w _ (some ⟨g, 0, none⟩) (some ⟨g, 0, none⟩) l.length cap ⟨s.toArray⟩ c1 (Lib.run_unsafeSliceData_row w.drew _ _ _ _ _ (by omega)) hUS).mono ?_
    rintro e w' ⟨rfl, rfl⟩;refine fin _ ?_ ?_ ?_ (λ b' _ hb' => ?_) (λ b' i' x hx => ?_)
    · unfold World.freeze; split <;> rfl
    · unfold World.freeze; split <;> rfl
    · unfold World.freeze; split
      · exact Nat.le_refl _
      · simp
    · rw [zeq w.drew g _ b' (λ e => hb' (by rw [e]; exact hg))]
      rfl
    · rw [zkg];exact hx
theorem zlf(hP:cx.P=Tryz.prog){args:List V}{out:Out}{σ':St}(h:ziq args σ=some (out,σ')){vs:List Value}(hi:Inv cx w σ μ)(hcan:Canon σ)(hv:RVs w σ μ vs args) :
  ∃ u,out=.ret u∧(∀ k o,zd σ' k=some o→k<σ.length∧∀ i∈o.ids,i<σ.length)∧(∀ i∈u.ids,i<σ.length) ∧
  Calls cx.P 192 vs.toArray w λ e w'=>∃ μ' x,e=.returned x∧After cx w σ μ w' σ' μ'∧RV w' σ' μ' x u:=by
 unfold ziq at h;split at h
 case h_2=>cases h
 rename_i sz xs sep;obtain ⟨l,hl,h1⟩:=zb h;clear h;obtain ⟨hc,h⟩:=za h1;clear h1;cases h;simp only [pj,decide_eq_true_eq] at hc;refine ⟨_,rfl,hcan,by simp [V.ids],?_⟩
 obtain ⟨v1,v2,rfl⟩:∃ v1 v2,vs=[v1,v2]:=by
  have:=hv.1
  match vs,this with
  | [a,b],_=>exact ⟨a,b,rfl⟩
 have h1:=hv.2 0 v1 _ rfl rfl;have h2:=hv.2 1 v2 _ rfl rfl;cases h2 with | d _ _ h2=>?_
 cases h2;cases h1 with | d _ _ h1=>?_
 have hxs:=zdt xs l hl;rw [hP];have fin:∀ (q:ByteArray) (w':World),q=z6 (Lib.join l sep)→RowKit.Below w.heap.size w w'→∃ μ' x,Ending.returned (.string q)=.returned x∧After cx w σ μ w' σ μ'∧RV w' σ μ' x (.d (.str (Lib.join l sep))):=by
  rintro q w' rfl hb;exact ⟨μ,_,rfl,qt hi hb,.d _ _ (.str _)⟩
 cases h1 with
 | sl0 base cap _=>
  have hl0:l=[]:=by cases l with | nil=>rfl | cons a b=>simp at hxs
  subst hl0;refine (Tryz.strings_Join_none base cap (z6 sep) w).mono ?_;rintro e w' ⟨rfl,rfl⟩;exact fin _ _ (by simp [Lib.join,List.intercalate,z6]) (RowKit.Below.refl _ _)
 | sl b o n cap _ _ ys hn hcap hsz hcell hels=>
  subst hn;by_cases h0:l=[]
  ·subst h0;have hx0:xs=[]:=by simpa using hxs
   subst hx0;refine (Tryz.strings_Join_none (some ⟨b,o,none⟩) cap (z6 sep) w).mono ?_;rintro e w' ⟨rfl,rfl⟩;exact fin _ _ (by simp [Lib.join,List.intercalate,z6]) (RowKit.Below.refl _ _)
  have hlen:xs.length=(l.map z6).length:=by rw [hxs]; simp
  have hsz1:sz=1:=by
   have hne:xs ≠ []:=by rw [hxs]; simpa using h0
   obtain ⟨y,hy⟩:=List.exists_mem_of_ne_nil xs hne;have:=hsz y hy;rw [hxs] at hy;obtain ⟨q,_,rfl⟩:=List.mem_map.1 hy;exact this.symm
  subst hsz1;have hmap:(l.map z6).map (·.data.toList)=l:=by
   rw [List.map_map]
   conv=>rhs; rw [←List.map_id l]
   exact List.map_congr_left λ a _=>by simp [z6]
  have hsep:(z6 sep).data.toList=sep:=by simp [z6]
  have hj:=Tryz.strings_Join b o cap (l.map z6) (z6 sep) w (λ j x hx=>?_) ?_ (by rw [←hlen,hxs]; simpa using hc.1) (by rw [←hlen]; exact hcap) (by rw [hmap,hsep]; exact hc.2)
  ·rw [hmap,hsep,←hlen] at hj;refine hj.mono ?_;rintro e w' ⟨rfl,hb⟩;exact fin _ _ rfl hb
  ·rw [List.getElem?_map,Option.map_eq_some_iff] at hx;obtain ⟨q,hq,rfl⟩:=hx;have hjl:j<xs.length:=by rw [hlen]; simpa using (pm.1 hq).1
   have g1:=(hcell j (by omega)).1
   have hlx:xs[j]?=some (.str q):=by rw [hxs,List.getElem?_map,hq]; rfl
   have g2:=hels j 0 (.str q) (.str q) hlx rfl;simp only [Nat.mul_one,Nat.add_zero] at g2;generalize ys j=z at g1 g2;cases g2;exact g1
  ·have hpos:0<xs.length:=by rw [hlen]; simpa using List.length_pos_iff.2 h0
   exact lt_of_cell (hcell 0 (by omega)).1
theorem zcn:∀ l:List Int,(zaa l).Perm l
 | []=>.refl _
 | x::l=>by
  have ins:∀ (x:Int) (l:List Int),(ziy x l).Perm (x::l):=by
   intro x l
   induction l with
   | nil=>exact .refl _
   | cons y r ih=>
    unfold ziy;cases decide (x≤y)
    ·exact (ih.cons y).trans (.swap x y r)
    ·exact .refl _
  exact (ins x _).trans ((zcn l).cons x)
theorem zjs:∀ l:List Int,(zaa l).Pairwise (·≤·)
 | []=>by simp [zaa]
 | x::l=>by
  have ins:∀ (x:Int) (l:List Int),l.Pairwise (·≤·)→(ziy x l).Pairwise (·≤·):=by
   intro x l
   induction l with
   | nil=>intro _; simp [ziy]
   | cons y r ih=>
    intro h;rw [List.pairwise_cons] at h;unfold ziy;by_cases hxy:x≤y
    ·rw [pa hxy];simp only [pu,List.pairwise_cons,List.mem_cons];refine ⟨λ z hz=>?_,h⟩;rcases hz with rfl | hz
     ·exact hxy
     ·exact Int.le_trans hxy (h.1 z hz)
    ·rw [pb hxy];simp only [pw,List.pairwise_cons];refine ⟨λ z hz=>?_,ih h.2⟩;have hz:z=x∨z∈r:=by
      have hp:(ziy x r).Perm (x::r):=by
       clear ih h hz hxy
       induction r with
       | nil=>exact .refl _
       | cons y r ih=>
        unfold ziy;cases decide (x≤y)
        ·exact (ih.cons y).trans (.swap x y r)
        ·exact .refl _
      simpa using hp.mem_iff.1 hz
     rcases hz with rfl | hz
     ·omega
     ·exact h.1 z hz
  exact ins x _ (zjs l)
theorem zjr(l:List Int):(l.mergeSort λ x y=>decide (x≤y))=zaa l:=by
 have h1:(l.mergeSort λ x y=>decide (x≤y)).Pairwise (·≤·):=by
  have:=List.pairwise_mergeSort (le:=λ x y:Int=>decide (x≤y)) (by intro a b c; simp; omega) (by intro a b; simp; omega) l
  exact this.imp λ h=>by simpa using h
 exact ((List.mergeSort_perm l _).trans (zcn l).symm).eq_of_pairwise (λ a b _ _ h1 h2=>by omega) h1 (zjs l)
theorem zhs:∀ {l:List D} {zs:List Int},zmh l=some zs→l=zs.map (.int .i64)
 | [],zs,h=>by cases h; rfl
 | x::r,zs,h=>by
  unfold zmh at h;split at h
  ·rename_i he; cases he
  ·rename_i n q he;cases he;split at h
   ·rename_i l hl; cases h; rw [zhs hl]; rfl
   ·cases h
  ·cases h
theorem zld(hP:cx.P=Tryz.prog){args:List V}{out:Out}{σ':St}(h:zin args σ=some (out,σ')){vs:List Value}(hi:Inv cx w σ μ)(hcan:Canon σ)(hv:RVs w σ μ vs args) :
  ∃ u,out=.ret u∧(∀ k o,zd σ' k=some o→k<σ.length∧∀ i∈o.ids,i<σ.length)∧(∀ i∈u.ids,i<σ.length) ∧
  Calls cx.P 49 vs.toArray w λ e w'=>∃ μ' x,e=.returned x∧After cx w σ μ w' σ' μ'∧RV w' σ' μ' x u:=by
 unfold zin at h;split at h
 case h_2=>cases h
 rename_i id k;split at h
 case h_2=>cases h
 rename_i l ho;obtain ⟨hc,h1⟩:=za h;clear h;obtain ⟨zs,hz,h⟩:=zb h1;clear h1;cases h;simp only [pj,decide_eq_true_eq,Bool.not_eq_true'] at hc;obtain ⟨⟨hk,hle⟩,hne⟩:=hc;obtain rfl:=pi hk;have hl:=zhs hz;have hlen:l.length=zs.length:=by rw [hl]; simp
 have hpos:0<l.length:=by cases l with | nil=>simp at hne | cons=>simp
 refine ⟨_,rfl,λ j o hj=>?_,by simp [V.ids,V.idsL],?_⟩
 ·rw [zf] at hj;by_cases h:id=j
  ·subst h;rw [if_pos rfl] at hj;cases hj;exact ⟨(hcan id _ ho).1,by simp [Ob.ids]⟩
  ·rw [if_neg h] at hj;exact hcan j o hj
 obtain ⟨v,rfl⟩:∃ v,vs=[v]:=List.length_eq_one_iff.1 (by simpa using hv.1)
 have hv0:=hv.2 0 v _ rfl rfl;cases hv0 with | slo _ _ _ cap base l' hl' hkl hcap hn hat=>?_
 rw [ho] at hl'; cases hl';rcases hat rfl with ⟨_,_,hc0⟩ | ⟨b,rfl,hb,hf,hend⟩
 ·omega
 obtain ⟨cs,el,hh,hcs,h2,h3,h4,h5⟩:=hi.ob id _ ho b hb;rw [hf] at h2 h4 h5;have hget:∀ (j:Nat) z,zs[j]?=some z→cs[j]?=some (.int .i64 z):=λ j z hj=>by
  have hlj:l[j]?=some (.int .i64 z):=by rw [hl,List.getElem?_map,hj]; rfl
  obtain ⟨v,hv,hvc⟩:=h5 j 0 _ (.int .i64 z) hlj rfl;cases hvc;simpa using hv
 have hH:Holds (Value.int .i64) w b 0 zs.toArray:=λ j hj=>by
  have hj':j<zs.length:=by simpa using hj
  refine ⟨?_,?_⟩
  ·rw [cell_of_heap hh,Nat.zero_add,hget j zs[j] (pz hj')];rw [getElem!_pos zs.toArray j hj];simp
  ·simp [World.frozen?,hh]
 rw [hP,show ([Value.slice (some ⟨b,0,none⟩) l.length cap]).toArray = #[.slice (some ⟨b,0,none⟩) zs.length cap] by rw [hlen]]
 refine (Tryz.slices_Sort_int b 0 cap zs w hH (lt_of_heap hh) (by omega)).mono ?_
 rintro e w' ⟨rfl,n,os,hw'⟩;rw [zjr] at hw';have hsl:(zaa zs).length=zs.length:=(zcn zs).length_eq;have hlt:=lt_of_heap hh;have hother:∀ b',b' ≠ b→b'<w.heap.size→w'.heap[b']?=w.heap[b']?:=λ b' hb' hlt'=>by
  rw [hw',heap_grow_old _ _ (by simpa [putRow,mapBlock,Sort.ahead] using hlt')]
  simp [putRow,mapBlock,Sort.ahead,Array.getElem?_modify,Ne.symm hb']
 have hnew:w'.heap[b]?=some (.cells (putCells (Value.int .i64) 0 (zaa zs).toArray cs) el (0,0)):=by
  rw [hw',heap_grow_old _ _ (by simpa [putRow,mapBlock,Sort.ahead] using hlt)]
  simp [putRow,mapBlock,Sort.ahead,Array.getElem?_modify,hh,onCells]
 have hsize:w.heap.size≤w'.heap.size:=by rw [hw']; simp [grow,putRow,mapBlock,Sort.ahead]
 have hup:Upd cx w σ μ w' (xh σ id (.row ((zaa zs).map (.int .i64)))) μ [id]:={
  os:=by rw [hw']; rfl,output:=by rw [hw']; rfl,size:=hsize,
  blk:=λ b' hb' hno=>hother b' (λ e=>hno id (by simp) _ ho 0 (by rw [e]; exact hb)) hb',
  cell:=λ b' i x hno hc=>by
   have hne:b' ≠ b:=λ e=>hno id (by simp) _ ho (by rw [e]; exact hb)
   have:=hother b' hne (lt_of_cell hc);unfold World.cell? at hc ⊢;simp only at hc ⊢;rw [this]; exact hc,
  fr:=rfl,same:=λ j hj=>⟨by rw [zf,if_neg (Ne.symm (by simpa using hj))],rfl⟩,
  own:=λ j hj q hq b' i hown _=>by
   simp at hj; subst hj;rw [zf,if_pos rfl] at hq; cases hq;exact ⟨_,ho,hown⟩,
  still:=λ j hj q hq=>by
   simp at hj; subst hj;rw [ho] at hq; cases hq;rw [zf,if_pos rfl];exact ⟨by simp [hsl,hlen],λ _=>rfl⟩,
  apart:=λ j hj j' hj' _ _ _ _ _ _ _ _ _=>by simp at hj hj'; rw [hj,hj'] }
 refine ⟨μ,_,rfl,hup.after hi λ j hj o' ho'=>?_,.tup #[] [] rfl (by simp)⟩
 simp at hj; subst hj;rw [zf,if_pos rfl] at ho'; cases ho';refine y7.of hb hnew (by simp [putCells,hcs]) (by rw [hf]; simp [putCells,hsl]; omega) (λ x hx=>?_) (λ y hy=>?_) λ k c hk=>?_
 ·simp only [putCells,Array.toList_mapIdx,List.mem_mapIdx] at hx;obtain ⟨i,hi',hx⟩:=hx;rw [←hx];split
  ·rfl
  ·exact h3 _ (List.getElem_mem _)
 ·rw [hf];obtain ⟨z,_,rfl⟩:=List.mem_map.1 hy;rfl
 ·have hfl:zn ((zaa zs).map (.int .i64))=(zaa zs).map (.int .i64):=by
   unfold zn;generalize zaa zs=q
   induction q with
   | nil=>rfl
   | cons a q ih=>simp only [List.map_cons,List.flatMap_cons,ih]; rfl
  rw [hfl,List.getElem?_map,Option.map_eq_some_iff] at hk;obtain ⟨z,hz',rfl⟩:=hk;have hklt:=(pm.1 hz').1;refine ⟨.int .i64 z,?_,.int _ _⟩;have hkc:k<cs.size:=by omega
  simp only [putCells,Array.getElem?_mapIdx,Array.getElem?_eq_getElem hkc,Option.map_some];rw [if_pos ⟨Nat.zero_le _,by simpa using hklt⟩]
  rw [getElem!_pos _ _ (by simpa using hklt)]
  have:(zaa zs)[k]=z:=(pm.1 hz').2;simp [this]
theorem zfg{n:Nat}{l:List (List UInt8)}{v:Value}(hi:Inv cx w σ μ)(h:w'.ownsRow w.heap.size 9 1 v n (l.map λ s=>Value.string (z6 s)))(hn:l.length=n)(haf:After cx w σ μ w' σ μ):RD w' (zg σ μ) v (.sl 1 (l.map .str)):=by
 obtain ⟨hlen,h⟩:=h;rcases h with ⟨rfl,h0⟩ | ⟨g,cap,cur,rfl,hg,hh,hcap,_,hsize,htake⟩
 ·have:l=[]:=List.eq_nil_of_length_eq_zero (by omega)
  subst this;exact .sl0 _ _ _
 ·have hfree:∀ i,¬ zg σ μ g i:=λ i ho=>by
   rcases ho with hf | ⟨id,o,ho,hown⟩
   ·exact absurd (hi.frLt _ _ hf) (by omega)
   ·exact absurd (vq hi ho hown) (by omega)
  refine RD.ofRow (cs:=cur) hh (by simp [hn]) hcap (λ y hy=>by obtain ⟨s,_,rfl⟩:=List.mem_map.1 hy; rfl) (λ k c hk=>?_) λ k _=>by rw [Nat.zero_add]; exact hfree k
  have hfl:zn (l.map .str)=l.map .str:=by
   unfold zn;clear hlen htake hn hk
   induction l with
   | nil=>rfl
   | cons a q ih=>simp only [List.map_cons,List.flatMap_cons,ih]; rfl
  rw [hfl,List.getElem?_map,Option.map_eq_some_iff] at hk;obtain ⟨s,hs,rfl⟩:=hk;have hklt:=(pm.1 hs).1;have:(cur.toList.take (n * 1))[k]?=some (.string (z6 s)):=by rw [htake,List.getElem?_map,hs]; rfl
  rw [List.getElem?_take,if_pos (by omega)] at this
  exact ⟨_,by simpa using this,.str s,rfl⟩
theorem zj5(hP:cx.P=Tryz.prog){args:List V}{out:Out}{σ':St}(h:zfm args σ=some (out,σ')){vs:List Value}(hi:Inv cx w σ μ)(hcan:Canon σ)(hv:RVs w σ μ vs args) :
  ∃ u,out=.ret u∧(∀ k o,zd σ' k=some o→k<σ.length∧∀ i∈o.ids,i<σ.length)∧(∀ i∈u.ids,i<σ.length) ∧
  Calls cx.P 99 vs.toArray w λ e w'=>∃ μ' x,e=.returned x∧After cx w σ μ w' σ' μ'∧RV w' σ' μ' x u:=by
 unfold zfm at h;split at h
 case h_2=>cases h
 rename_i xs;obtain ⟨hc,h1⟩:=za h;clear h;obtain ⟨l,hl,h⟩:=zb h1;clear h1;cases h;have hc:=pc hc;have hxs:=zdt xs l hl;subst hxs;rw [ph] at hc;refine ⟨_,rfl,hcan,by simp [V.ids],?_⟩
 obtain ⟨v,rfl⟩:∃ v,vs=[v]:=List.length_eq_one_iff.1 (by simpa using hv.1)
 have hv0:=hv.2 0 v _ rfl rfl;cases hv0 with | d _ _ hd=>?_
 rw [hP];have e0:∀ zs:List (List UInt8),(zs.map z6).map (Value.string)=zs.map λ s=>Value.string (z6 s):=λ zs=>by rw [List.map_map]; rfl
 by_cases hne:l=[]
 ·subst hne;obtain ⟨base,cap,rfl⟩:=hd.slice_inv;cases base with
  | none=>
   refine (Tryz.slices_Clone_string_nil 0 cap w).mono ?_;rintro e w' ⟨rfl,rfl⟩;exact ⟨μ,_,rfl,After.refl hi,.d _ _ (.sl0 _ _ _)⟩
  | some a=>
   refine (Tryz.slices_Clone_string_zero a cap w).mono ?_;rintro e w' ⟨v',rfl,ho,_,hb⟩;have haf:=qt hi hb;exact ⟨μ,_,rfl,haf,.d _ _ (zfg (l:=[]) hi ho rfl haf)⟩
 ·generalize hnl:(l.map D.str)=q at hd;cases hd with
  | sl0=>exact absurd (by simpa using hnl) hne
  | sl b o n cap _ _ ys hn hcap hsz hcell hels=>
   subst hnl;have hn:n=l.length:=by simpa using hn
   subst hn;have hj:=Tryz.slices_Clone_string b o l.length cap (l.map z6) w (by simp) (by omega) (λ j hj=>by
    have hj':j<l.length:=by simpa using hj
    have g1:=(hcell j (by omega)).1
    have hlx:(l.map D.str)[j]?=some (.str l[j]):=by rw [List.getElem?_map,pz hj']; rfl
    have g2:=hels j 0 (.str l[j]) (.str l[j]) hlx rfl;simp only [Nat.mul_one,Nat.add_zero] at g2;generalize ys j=z at g1 g2;cases g2;rw [g1];simp [List.getD_eq_getElem?_getD,hj'])
   refine hj.mono ?_;rintro e w' ⟨v',rfl,ho,_,hb⟩;have haf:=qt hi hb;rw [List.take_of_length_le (by simp),e0] at ho
   exact ⟨μ,_,rfl,haf,.d _ _ (zfg hi ho rfl haf)⟩
theorem zph(hP : cx.P = Tryz.prog)(hg : ∀ g e, cx.grow g = some e → g = 165 ∧ e = 9) : zo8 cx := by
  intro g e h n w h0 h1;obtain ⟨rfl, rfl⟩ := hg g e h;refine ⟨⟨_, by rw [hP]; exact Tryz.func165, by kernel_rfl⟩, ?_⟩
  obtain ⟨m, rfl⟩ : ∃ m : Nat, n = (m : Int) := ⟨n.toNat, by omega⟩
  rw [hP];by_cases hm : m = 0
  · subst hm;refine (Any8.slices_Grow_room Tryz.growS none 0 0 0 w (by omega) (by omega) (by omega) (by omega)).mono ?_
    rintro x w' ⟨rfl, rfl⟩;exact ⟨none, 0, rfl, .inl ⟨rfl, rfl, rfl⟩⟩
  · have hi9 : Tryz.prog.info? 9 = Tryz.prog.info? 9 := rfl;obtain ⟨i, hi⟩ : ∃ i, Tryz.prog.info? 9 = some i := by
      cases hq : Tryz.prog.info? 9 with
      | some i => exact ⟨i, rfl⟩
      | none => have : (Tryz.prog.info? 9).isSome = true := by kernel_rfl
                rw [hq] at this; cases this
    have hs : (Tryz.prog.info? 9).map (λ i => (i.zero.isSome, i.size, i.bytes)) = some (true, 1, 16) := by kernel_rfl
    rw [hi] at hs;simp only [Option.map_some, Option.some.injEq, Prod.mk.injEq] at hs;obtain ⟨hz, hsz, hby⟩ := hs;obtain ⟨z, hz⟩ := Option.isSome_iff_exists.1 hz;have hzc : z.cells.size = 1 := by
      have : (Tryz.prog.info? 9).bind (λ i => i.zero.map λ z => z.cells.size) = some 1 := by kernel_rfl
      rw [hi] at this;simp only [Option.bind_some, hz, Option.map_some, Option.some.injEq] at this;exact this
    refine (Any8.slices_Grow_grow Tryz.growS i z hi hz (by omega) none 0 0 m [] w (by omega) (by omega) (by rw [hby]; omega) (by omega) (by simp) (λ _ => rfl) (λ a h => by cases h)).mono ?_
    rintro x w' ⟨rfl, rfl⟩;refine ⟨_, _, rfl, .inr ⟨_, _, rfl, rfl, ?_⟩⟩;have hc1 : Tryz.prog.cellsOf 9 = 1 := by kernel_rfl
    have hge := grownCap_ge w (0 + m) 0 9;simp only [Array.size_append, yr, hzc, hc1];show ([] : List Value).toArray.size + (0 + m - 0) * 1 + (_ - (0 + m)) * 1 = _ * 1;simp only [List.size_toArray, py];have hge : 0 + m ≤ grownCap w (0 + m) 0 (Tryz.growS_ren.t 25) := hge;omega
theorem zdd{f g : Nat}{out : Out}{σ' : St}{vs : List Value}(hfg : f = g)(hfn : ∃ fn, cx.P.funcs[g]? = some fn ∧ fn.body.isNone = false) : (∃ u, out = .ret u ∧ (∀ k o, zd σ' k = some o → k < σ.length ∧ ∀ i ∈ o.ids, i < σ.length) ∧ (∀ i ∈ u.ids, i < σ.length) ∧
      Calls cx.P g vs.toArray w λ e w' => ∃ μ' x, e = .returned x ∧ After cx w σ μ w' σ' μ' ∧ RV w' σ' μ' x u) →
    (∃ fn, cx.P.funcs[f]? = some fn ∧ fn.body.isNone = false) ∧ (∀ k o, zd σ' k = some o → k < σ.length ∧ ∀ i ∈ o.ids, i < σ.length) ∧ (∀ i ∈ (match out with | .ret v => v.ids | .pan v => v.ids), i < σ.length) ∧
    Calls cx.P f vs.toArray w λ e w' => ∃ μ', After cx w σ μ w' σ' μ' ∧
      match out, e with
      | .ret v, .returned x => RV w' σ' μ' x v
      | .pan v, .panicked chain => ∃ x, chain = [{ v := x, recovered := false }] ∧ RV w' σ' μ' x v
      | _, _ => False := by
  intro h;subst hfg;obtain ⟨u, rfl, h1, h2, h3⟩ := h;refine ⟨hfn, h1, h2, h3.mono ?_⟩;rintro e w' ⟨μ', x, rfl, ha, hr⟩;exact ⟨μ', ha, hr⟩
theorem nat_ok(hP:cx.P=Tryz.prog)(hg:∀ g e,cx.grow g=some e→g=165∧e=9)(hG:cx.glob 4=some zdp):xe cx nat:=by
 refine ⟨zph hP hg,?_⟩;intro f args σ out σ' h w μ vs hi hcan hids hall hv;unfold nat at h;cases h1:Nat.beq f 164 <;> rw [h1] at h
 ·rw [pw] at h;cases h2:Nat.beq f 192 <;> rw [h2] at h
  ·rw [pw] at h;cases h3:Nat.beq f 49 <;> rw [h3] at h
   ·rw [pw] at h;cases h4:Nat.beq f 99 <;> rw [h4] at h
    ·rw [pw] at h;cases h5:Nat.beq f 234 <;> rw [h5] at h
     ·cases h
     ·exact zdd (pi h5) ⟨_,by rw [hP]; exact Tryz.func234,by kernel_rfl⟩ (zle hP hG h hi hcan hv)
    ·exact zdd (pi h4) ⟨_,by rw [hP]; exact Tryz.func99,by kernel_rfl⟩ (zj5 hP h hi hcan hv)
   ·exact zdd (pi h3) ⟨_,by rw [hP]; exact Tryz.func49,by kernel_rfl⟩ (zld hP h hi hcan hv)
  ·exact zdd (pi h2) ⟨_,by rw [hP]; exact Tryz.func192,by kernel_rfl⟩ (zlf hP h hi hcan hv)
 ·exact zdd (pi h1) ⟨_,by rw [hP]; exact Tryz.func164,by kernel_rfl⟩ (zm2 hP h hi hcan hv)
end
end Go.Vai
end
noncomputable section
namespace Go.Vai
open Go.Proofs
def zov:List V→Option (List UInt8×D) | [.d (.str s),.d x]=>some (s,x) | _=>none
def zqb(r:D×Int×Int):V:=.tup [.d r.1,.d (.int .i64 r.2.1),.d (.int .i64 r.2.2)]
def zpz:List V→Option Unit | []=>some () | _=>none
def zow:List V→Option (D×D) | [.d a,.d b]=>some (a,b) | _=>none
def zis(b:Bool):V:=.d (.bool b)
def no5:yy:=λ _ _ _=>none
def K5(p:List UInt8×D→Option (D×Int×Int))(q:D×D→Option Bool):CK R1:=zjx 14 zov p zqb (zjx 16 zow q zis (zjx 11 zpz (λ _=>some ()) (λ _=>zis true) (CK.plain no5)))
noncomputable def L5(p : List UInt8 × D → Option (D × Int × Int))(q : D × D → Option Bool)(a : Int)(y : D) : Option (Out × St) :=
  OPS cx (K5 p q) 20 5 0 4 6
        [(23, V.eptr y 0), (22, V.d (D.int .i64 (IntKind.i64.wrap ((IntKind.u64.wrap a).tmod (4 : Int))))),
          (21, V.d (D.int IntKind.u64 ((IntKind.u64.wrap a).tmod (4 : Int)))),
          (20, V.d (D.int IntKind.u64 (IntKind.u64.wrap a))), (19, V.d (D.int .i64 a)),
          (18,
            V.sl 1
              [D.str [102, 115, 116], D.str [115, 110, 100], D.str [83, 117, 115, 112],
                D.str [117, 110, 103, 108, 117, 101]]
              17),
          (3,
            V.sl 1
              [D.str [102, 115, 116], D.str [115, 110, 100], D.str [83, 117, 115, 112],
                D.str [117, 110, 103, 108, 117, 101]]
              17),
          (17,
            V.sl 1
              [D.str [102, 115, 116], D.str [115, 110, 100], D.str [83, 117, 115, 112],
                D.str [117, 110, 103, 108, 117, 101]]
              17),
          (16, V.d (D.bool false)), (15, V.d (D.bool true)), (2, V.d (D.bool false)), (0, V.d (D.int .i64 a))]
        [(17, Ob.tok 4)] (AR cx (K5 p q) 20 5 0 4 (EK cx 5 0))
theorem x5(p:List UInt8×D→Option (D×Int×Int))(q:D×D→Option Bool)(a:Int) :
    zd9 cx (K5 p q) 20 5 [.d (.int .i64 a)] [] =
  zk
    (decide (0≤IntKind.i64.wrap ((IntKind.u64.wrap a).tmod (4:Int))) &&
      decide
        (IntKind.i64.wrap ((IntKind.u64.wrap a).tmod (4:Int)) <
          (↑[D.str [102,115,116],D.str [115,110,100],D.str [83,117,115,112],
                  D.str [117,110,103,108,117,101]].length :
            Int)))
    (qd
      [D.str [102,115,116],D.str [115,110,100],D.str [83,117,115,112],D.str [117,110,103,108,117,101]]
      (IntKind.i64.wrap ((IntKind.u64.wrap a).tmod (4:Int))).toNat λ y=>L5 p q a y):=by kernel_rfl
noncomputable def pE(r:List UInt8×D):Option (D×Int×Int):=match yq cx 200 14 [.d (.str r.1),.d r.2] [] with | some (.ret (.tup [.d x,.d (.int .i64 i),.d (.int .i64 j)]),[])=>some (x,i,j) | _=>none
noncomputable def qE(r:D×D):Option Bool:=match yq cx 200 16 [.d r.1,.d r.2] [] with | some (.ret (.d (.bool b)),[])=>some b | _=>none
theorem o0(a:Int):L5 pE qE a (.str [102,115,116])=some (.ret (zis true),[]):=by kernel_rfl
theorem o1(a:Int):L5 pE qE a (.str [115,110,100])=some (.ret (zis true),[]):=by kernel_rfl
theorem o2(a:Int):L5 pE qE a (.str [83,117,115,112])=some (.ret (zis true),[]):=by kernel_rfl
theorem o3(a:Int):L5 pE qE a (.str [117,110,103,108,117,101])=some (.ret (zis true),[]):=by kernel_rfl
theorem e11:yq cx 200 11 [] []=some (.ret (zis true),[]):=by kernel_rfl
theorem m11:yw cx 11 [] []=some (.ret (zis true),[]):=ziv e11
theorem zlz{a:List V}{q:List UInt8×D}(h:zov a=some q):a=[.d (.str q.1),.d q.2]:=by
 unfold zov at h;split at h
 ·cases h; rfl
 ·cases h
theorem znj{a:List V}{q:Unit}(h:zpz a=some q):a=[]:=by
 unfold zpz at h;split at h
 ·rfl
 ·cases h
theorem zl0{a:List V}{q:D×D}(h:zow a=some q):a=[.d q.1,.d q.2]:=by
 unfold zow at h;split at h
 ·cases h; rfl
 ·cases h
theorem zo7:knows cx (K5 pE qE).S (yw cx):=
 zbk (zbk (zbk (λ _ _ _ _ _ h=>by cases h) λ a q b hd h hb=>by
   cases hb;rw [znj h];exact m11) λ a q b hd h hb=>by
   rw [zl0 h];unfold qE at hb;split at hb
   ·rename_i bb he;cases hb;exact ziv he
   ·cases hb) λ a q b hd h hb=>by
   rw [zlz h];unfold pE at hb;split at hb
   ·rename_i x i j he;cases hb;exact ziv he
   ·cases hb
theorem zqd(a:Int):∃ k:Nat,k<4∧IntKind.i64.wrap ((IntKind.u64.wrap a).tmod 4)=(k:Int):=by
 have h0:(0:Int)≤IntKind.u64.wrap a:=by unfold IntKind.wrap; simp [IntKind.signed,IntKind.bits]; omega
 have h1:(IntKind.u64.wrap a).tmod 4=(IntKind.u64.wrap a) % 4:=Int.tmod_eq_emod_of_nonneg h0;rw [h1];refine ⟨(IntKind.u64.wrap a % 4).toNat,by omega,?_⟩
 rw [wrap_small (by omega) (by omega)]
 omega
theorem zmf{R:Type}(l:List D)(k:Nat)(y:D)(h:l[k]?=some y)(K:D→Option R):zk (decide (0≤(k:Int))&&decide ((k:Int)<(l.length:Int))) (qd l (k:Int).toNat K)=K y:=by
 have hk:=(pm.1 h).1;rw [pa (by omega),pa (by omega),pn]
 unfold qd;rw [h];rfl
theorem m5(a:Int):yw cx 5 [.d (.int .i64 a)] []=some (.ret (zis true),[]):=by
 refine zm5 zo7 (N:=20) ?_;rw [x5];obtain ⟨k,hk,e⟩:=zqd a;rw [e]
 match k,hk with
 | 0,_=>exact (zmf _ 0 _ rfl _).trans (o0 a)
 | 1,_=>exact (zmf _ 1 _ rfl _).trans (o1 a)
 | 2,_=>exact (zmf _ 2 _ rfl _).trans (o2 a)
 | 3,_=>exact (zmf _ 3 _ rfl _).trans (o3 a)
 | k+4,hk=>omega
theorem pure_scopeArgs(a:Int):yw cx 5 [.d (.int .i64 a)] []=some (.ret (.d (.bool true)),[]):=m5 a
open Go.Proofs.YtmolcgfhgdhgoaaGreatDoor in
theorem glob_says:zkf cx.P cx.glob Rows.sliceUsesRow.laid:=by
 intro g x h
 match g,h with
 | 0, h => cases h; exact ⟨"hypercube/lex.signs", Rows.laid_hypercube_lex_signs, by simp [Rows.sliceUsesRow], by kernel_rfl, by kernel_rfl⟩
 | 1, h => cases h; exact ⟨"unicode/utf8.first", Rows.laid_unicode_utf8_first, by simp [Rows.sliceUsesRow], by kernel_rfl, by kernel_rfl⟩
 | 2, h => cases h; exact ⟨"unicode/utf8.acceptRanges", Rows.laid_unicode_utf8_acceptRanges, by simp [Rows.sliceUsesRow], by kernel_rfl, by kernel_rfl⟩
 | 3,h=>cases h
 | 4, h => cases h; exact ⟨"math/bits.deBruijn32tab", Rows.laid_math_bits_deBruijn32tab, by simp [Rows.sliceUsesRow], by kernel_rfl, by kernel_rfl⟩
 | n+5,h=>cases h
theorem no_routines:zw cx.P:=by
 have h : (cx.P.funcs.all λ fn => fn.name != "runtime.NumGoroutine") = true := by kernel_rfl
 intro f fn hf;have:=Array.all_eq_true_iff_forall_mem.1 h fn (Array.mem_of_getElem? hf);simpa using this
theorem mixed:cx.P.follows .mixedOrders=true:=by kernel_rfl
def lits:D→Value
 | .int k n=>.int k n
 | .str s=>.string (z6 s)
 | _=>undef
def laidWorld(os:Os):World:=
 { World.holding Tryz.prog os ⟨#[],#[],[]⟩ with heap:=(((((World.holding Tryz.prog os ⟨#[],#[],[]⟩).heap.modify 0 fun
   | .cells _ t frozen=>.cells (zn6.cells.map lits).toArray t frozen
   | o=>o).modify 1 fun
   | .cells _ t frozen=>.cells ((unW Go.Pinned.utf8First).map lits).toArray t frozen
   | o=>o).modify 2 fun
   | .cells _ t frozen=>.cells (acc.cells.map lits).toArray t frozen
   | o=>o).modify 4 fun
   | .cells _ t frozen=>.cells ((unW (Go.Proofs.YtmolcgfhgdhgoaaGreatDoor.Rows.laid_math_bits_deBruijn32tab (H:=Unit))).map lits).toArray t frozen
   | o=>o) }
theorem hgrow:∀ g e,cx.grow g=some e→g=165∧e=9:=λ g e h=>by
 have h:grow g=some e:=h;unfold grow at h;cases hg:Nat.beq g 165 <;> rw [hg] at h
 ·cases h
 ·cases h;exact ⟨pi hg,rfl⟩
end Go.Vai
end

/-
  Slice: SliceNeeds, in plain. To: Slice: what the frames of the laws stand on.
-/
import Derived.Test.YtmolcgfhgdhgoaaGreatDoorSliPart6
import Derived.ReadAgain
import Derived.OpenShut
set_option linter.all false
noncomputable section
namespace Go.Vai
open Go.Proofs
theorem ag6(g:D→Option Bool)(u v:D→List UInt8→Option (List D×Int))(c d:D→Option (List D×Int))(p:D→D→Option Bool)(w:Option Bool)(n:Nat)(l:List T)(s:List UInt8):zl cx (K6n g u v c d p w) n 6 [.d (.sl 5 (T.ds l)),.d (.str s)] []=zc (g (D.sl 5 (T.ds l))) λ b=>bif b then zc w λ b=>some (Out.ret (V.d (D.bool b)),[]) else zc (u (D.sl 5 (T.ds l),s).fst (D.sl 5 (T.ds l),s).snd) λ b=>zc (v (D.sl 5 (T.ds l),s).fst (D.sl 5 (T.ds l),s).snd) λ b_1=>zc (c (D.sl 5 (T.ds l))) λ b_2=>zc (d (D.sl 5 (T.ds l))) λ b_3=>zc (p (D.sl 1 b.1,D.sl 1 b_1.1).fst (D.sl 1 b.1,D.sl 1 b_1.1).snd) λ b_4=>bif b_4 then bif decide (b.snd=b_1.snd) then zc (p (D.sl 1 b_2.1,D.sl 1 b_3.1).fst (D.sl 1 b_2.1,D.sl 1 b_3.1).snd) λ b=>bif b then bif decide (b_2.snd=b_3.snd) then zc w λ b=>some (Out.ret (V.d (D.bool b)),[]) else some (Out.ret (V.d (D.bool false)),[]) else some (Out.ret (V.d (D.bool false)),[]) else some (Out.ret (V.d (D.bool false)),[]) else some (Out.ret (V.d (D.bool false)),[]):=by kernel_rfl
def u19(x:D)(s:List UInt8):Option (List D×Int):=zc (zht x) λ l=>some (nI (zav l s).1,(zav l s).2)
def u21(x:D):Option (List D×Int):=zc (zht x) λ l=>some (nI (Sp.free l).1,(Sp.free l).2)
theorem zq4{f:Nat}(hf:∀ l nm,zbg l=true→zh cx f [.d (.sl 5 (T.ds l)),.d (.str nm)] []=some (.ret (mk2 (nI (zav l nm).1,(zav l nm).2)),[])){S:CK R1}(hS:knows cx S.S (zh cx)) :
  knows cx (zt f zdw (λ q=>u19 q.1 q.2) mk2 S).S (zh cx):=zj hS λ a q b hd h hb=>by
 obtain ⟨m,hm,hb⟩:=zd hb;cases hb;obtain ⟨h0,h1⟩:=zdd hm;rw [zes h,h0];exact hf m q.2 h1
theorem zq3{f:Nat}(hf:∀ l,zbg l=true→zh cx f [.d (.sl 5 (T.ds l))] []=some (.ret (mk2 (nI (Sp.free l).1,(Sp.free l).2)),[])){S:CK R1}(hS:knows cx S.S (zh cx)) :
  knows cx (zt f za6 u21 mk2 S).S (zh cx):=zj hS λ a q b hd h hb=>by
 obtain ⟨m,hm,hb⟩:=zd hb;cases hb;obtain ⟨h0,h1⟩:=zdd hm;rw [wh h,h0];exact hf m h1
theorem z3h(l:List T)(nm:List UInt8):(zav l nm).1.length≤l.length:=by
 unfold zav;cases decide (Sp.wr l=0)
 ·exact Nat.zero_le _
 ·rw [cond_true];cases zcr (nmL l) nm with
  | none=>exact Nat.zero_le _
  | some s=>exact ze8 _ _
theorem z39(l:List T):(Sp.free l).1.length≤l.length:=by
 unfold Sp.free;cases decide (Sp.wr l=0)
 ·exact Nat.zero_le _
 ·exact ze8 _ _
theorem pure_sliceNeeds(l:List T)(h1:yd l=true)(h2:T.oks l=true)(nm:List UInt8)(_hn:yd nm=true):zh cx 6 [.d (.sl 5 (T.ds l)),.d (.str nm)] []=some (.ret (mkB true),[]):=by
 have hk:knows cx (K6n g17 u19 u19 u21 u21 p23 (some true)).S (zh cx):=
  zj (zq4 m19 (zq4 m20 (zq3 m21 (zq3 m22 (zj (zj zm
   λ a q b hd h hb=>zz7 h hb) λ a q b hd h hb=>z0n h hb))))) λ a q b hd h hb=>z03 h hb
 refine zk hk (N:=0) ?_;rw [ag6,z97 h1 h2,v6];cases hgr:zex l
 ·obtain ⟨hg,hl,hb⟩:=zxm h1 h2 hgr;have e1:u19 (.sl 5 (T.ds l)) nm=some (nI (zav l nm).1,(zav l nm).2):=by unfold u19; rw [zj7 hg]; rfl
  have e2:u21 (.sl 5 (T.ds l))=some (nI (Sp.free l).1,(Sp.free l).2):=by unfold u21; rw [zj7 hg]; rfl
  have n1:=z3h l nm;have n2:=z39 l;rw [cond_false,e1,v6,v6,e2,v6,v6,z3c (zkc (by omega)),v6,z3c (zkc (by omega)),v6]
  simp only [cond_true,decide_true];rfl
 ·rfl
inductive Way (U:List (List Nat)) (s:Nat):Nat→Prop
 | one {k:Nat} (h:k∈Sp.row U s):Way U s k
 | step {j k:Nat} (h:Way U s j) (hk:k∈Sp.row U j):Way U s k
open Go.Proofs.YtmolcgfhgdhgoaaGreatDoor in
theorem glob_says:zvo cx.P cx.glob Rows.sliceUsesRow.laid:=by
 intro g x h
 match g,h with
 | 0, h => cases h; exact ⟨"hypercube/lex.signs", Rows.laid_hypercube_lex_signs, by simp [Rows.sliceUsesRow], by kernel_rfl, by kernel_rfl⟩
 | 1, h => cases h; exact ⟨"unicode/utf8.first", Rows.laid_unicode_utf8_first, by simp [Rows.sliceUsesRow], by kernel_rfl, by kernel_rfl⟩
 | 2, h => cases h; exact ⟨"unicode/utf8.acceptRanges", Rows.laid_unicode_utf8_acceptRanges, by simp [Rows.sliceUsesRow], by kernel_rfl, by kernel_rfl⟩
 | n+3,h=>cases h
theorem no_routines:xe cx.P:=by
 have h : (cx.P.funcs.all λ fn => fn.name != "runtime.NumGoroutine") = true := by kernel_rfl
 intro f fn hf;have:=Array.all_eq_true_iff_forall_mem.1 h fn (Array.mem_of_getElem? hf);simpa using this
theorem mixed:cx.P.follows .mixedOrders=true:=by kernel_rfl
def lits:D→Value
 | .int k n=>.int k n
 | .str s=>.string (xl s)
 | _=>undef
def laidWorld(os:Os):World:=
 { World.holding Tryz.prog os ⟨#[],#[],[]⟩ with heap:=(((((World.holding Tryz.prog os ⟨#[],#[],[]⟩).heap.modify 0 fun
   | .cells _ t frozen=>.cells (vj.cells.map lits).toArray t frozen
   | o=>o).modify 1 fun
   | .cells _ t frozen=>.cells ((unW Go.Pinned.utf8First).map lits).toArray t frozen
   | o=>o).modify 2 fun
   | .cells _ t frozen=>.cells (acc.cells.map lits).toArray t frozen
   | o=>o).modify 4 fun
   | .cells _ t frozen=>.cells ((unW (Go.Proofs.YtmolcgfhgdhgoaaGreatDoor.Rows.laid_math_bits_deBruijn32tab (H:=Unit))).map lits).toArray t frozen
   | o=>o) }
theorem str_rd{w:World}{own:Own}(s:ByteArray):RD w own (.string s) (.str s.data.toList):=by
 have h:=RD.str (w:=w) (own:=own) s.data.toList;have e:xl s.data.toList=s:=by simp [xl]
 rwa [e] at h
open Go.Proofs Go.Proofs.YtmolcgfhgdhgoaaGreatDoor
theorem bulks_len:∀ l:List T,l.length≤Sp.bulks l
 | []=>Nat.le_refl _
 | .mk k nm kids nms pl::l=>by
  have:=bulks_len l;simp only [List.length_cons,Sp.bulks,yt]; omega
theorem zvd:∀ l:List (List UInt8),l.length≤Sp.lens l
 | []=>Nat.le_refl _
 | x::l=>by have:=zvd l; simp only [List.length_cons,Sp.lens]; omega
theorem zve:∀ l:List (List UInt8),Sp.lens l<4294967296→l.all yd=true
 | [],_=>rfl
 | x::l,h=>by
  simp only [Sp.lens] at h;rw [List.all_cons,zve l (by omega),Bool.and_true]
  exact pa (by omega)
mutual
theorem z58:∀ t:T,yt t<4294967296→t.ok=true
 | .mk k nm kids nms pl,h=>by
  simp only [yt] at h;have h1:=bulks_len kids;have h2:=zvd nms;simp only [T.ok,oks_bulk kids (by omega),zve nms (by omega),Bool.and_true,ph]
  exact ⟨⟨pa (by omega),pa (by omega)⟩,pa (by omega)⟩
theorem oks_bulk:∀ l:List T,Sp.bulks l<4294967296→T.oks l=true
 | [],_=>rfl
 | t::l,h=>by
  simp only [Sp.bulks] at h;simp only [T.oks,z58 t (by omega),oks_bulk l (by omega)]; rfl
end
theorem z1s(t:T):D.agg t.d.cells=t.d:=by cases t; rfl
section
variable {H:Type} {enc:TypeId×Value→H} {W:World} {base:Nat} {spare:Nat→Bool} {held:Bool}
theorem zsi{m:Nat}:∀ (es:List (DataW H×List MemPlace)),(∀ y∈es,∃ t:T,xh Tryz.prog m 26 y.1=some t.d.cells∧yt t≤Rows.uptoBulk y.1) →
  ∃ l:List T,zbm true (xh Tryz.prog m 26) (es.map (·.1))=some (T.ds l)∧Sp.bulks l≤Rows.uptoBulkAll (es.map (·.1))
 | [],_=>⟨[],rfl,Nat.le_refl _⟩
 | y::es,h=>by
  obtain ⟨t,h1,h2⟩:=h y (pn ..);obtain ⟨l,h3,h4⟩:=zsi es λ z hz=>h z (pp _ hz);refine ⟨t::l,?_,?_⟩
  ·simp only [List.map_cons,zbm,h1,h3,T.ds,elemOf,cond_true,z1s]
  ·simp only [List.map_cons,Sp.bulks,Rows.uptoBulkAll]; omega
theorem zv6{m:Nat}:∀ (es:List (DataW H×List MemPlace)),(∀ y∈es,∃ s:List UInt8,y.1=.lit (.string s)) →
  ∃ l:List (List UInt8),zbm false (xh Tryz.prog (m+1) 9) (es.map (·.1))=some (l.map .str)∧Sp.lens l≤Rows.uptoBulkAll (es.map (·.1))
 | [],_=>⟨[],rfl,Nat.le_refl _⟩
 | y::es,h=>by
  obtain ⟨s,h1⟩:=h y (pn ..);obtain ⟨l,h3,h4⟩:=zv6 (m:=m) es λ z hz=>h z (pp _ hz);refine ⟨s::l,?_,?_⟩
  ·have e:xh Tryz.prog (m+1) 9 y.1=some [.str s]:=by rw [h1]; simp only [xh,Tryz.underlying9]
   simp only [List.map_cons,zbm,e,h3];rfl
  ·simp only [List.map_cons,Sp.lens,Rows.uptoBulkAll,h1,Rows.uptoBulk]; omega
theorem zgo{P:Program}{n t e:Nat}{els sp:List (DataW H)}(h:P.underlying t=some (.slice e)) :
  xh P (n+1) t (.slice els sp)=bif Nat.beq (P.cellsOf e) 0 then none else (zbm (x6 P e) (xh P n e) els).map λ l=>[.sl (P.cellsOf e) l]:=by
 simp only [xh,h]
theorem zqm{P:Program}{n t:Nat}{fs:Array Field}{ps:List (DataW H)}(h:P.underlying t=some (.struct fs)) :
  xh P (n+1) t (.agg ps)=bif zfk P 0 fs.toList (P.cellsOf t) then vz (xh P n) fs.toList ps else none:=by
 simp only [xh,h]
theorem ydy:x6 Tryz.prog 26=true:=by kernel_rfl
theorem yft:x6 Tryz.prog 9=false:=by kernel_rfl
theorem cells26:Tryz.prog.cellsOf 26=5:=by kernel_rfl
theorem cells9:Tryz.prog.cellsOf 9=1:=by kernel_rfl
theorem zp2{α β:Type}{o:Option α}{f:α→Option β}{y:β}(h:o.bind f=some y):∃ a,f a=some y:=by
 cases o with
 | none=>cases h
 | some a=>exact ⟨a,h⟩
theorem trod_trees{n:Nat}{cs:List Value}{x:DataW H×List MemPlace}(ih:∀ m,m<n→∀ cs x,DataW.trod enc Tryz.prog W base spare held m 26 cs=some x→∃ t:T,xh Tryz.prog m 26 x.1=some t.d.cells∧yt t≤Rows.uptoBulk x.1)
  (h:DataW.trod enc Tryz.prog W base spare held n 24 cs=some x):∃ l:List T,xh Tryz.prog n 24 x.1=some [.sl 5 (T.ds l)]∧Sp.bulks l+1≤Rows.uptoBulk x.1:=by
 have hn:∃ k,n=k+1:=by
  cases n with
  | zero=>simp [DataW.trod] at h
  | succ k=>exact ⟨k,rfl⟩
 obtain ⟨k,rfl⟩:=hn;rcases DataW.trod_slice Tryz.underlying24 h with ⟨_,rfl⟩ | ⟨a,len,cap,elems,rest,m,hm,_,rfl,_,_,_,hl,he,_⟩
 ·refine ⟨[],?_,Nat.le_refl _⟩;simp only [xh,Tryz.underlying24,cells26];rfl
 ·cases hm;obtain ⟨l,h1,h2⟩:=zsi (m:=k) elems λ y hy=>by
   obtain ⟨i,hi⟩:=List.getElem?_of_mem hy;have:=he i (by have:=(pj.1 hi).1; omega)
   rw [hi] at this;obtain ⟨c,hc⟩:=zp2 this;exact ih k (Nat.lt_succ_self _) c y hc
  refine ⟨l,?_,?_⟩
  ·have e:Nat.beq (Tryz.prog.cellsOf 26) 0=false:=by rw [cells26]; rfl
   rw [zgo Tryz.underlying24,e,cond_false,ydy,h1,cells26];rfl
  ·simp only [Rows.uptoBulk]; omega
theorem z0a{n:Nat}{cs:List Value}{x:DataW H×List MemPlace}(h:DataW.trod enc Tryz.prog W base spare held n 23 cs=some x):∃ l:List (List UInt8),xh Tryz.prog n 23 x.1=some [.sl 1 (l.map .str)]∧Sp.lens l+1≤Rows.uptoBulk x.1:=by
 have hn:∃ k,n=k+1:=by
  cases n with
  | zero=>simp [DataW.trod] at h
  | succ k=>exact ⟨k,rfl⟩
 obtain ⟨k,rfl⟩:=hn;rcases DataW.trod_slice Tryz.underlying23 h with ⟨_,rfl⟩ | ⟨a,len,cap,elems,rest,m,hm,_,rfl,_,_,_,hl,he,_⟩
 ·refine ⟨[],?_,Nat.le_refl _⟩;simp only [xh,Tryz.underlying23,cells9];rfl
 ·cases hm;have hel:∀ y∈elems,∃ c,DataW.trod enc Tryz.prog W base spare held k 9 c=some y:=λ y hy=>by
   obtain ⟨i,hi⟩:=List.getElem?_of_mem hy;have:=he i (by have:=(pj.1 hi).1; omega)
   rw [hi] at this;exact zp2 this
  have e:Nat.beq (Tryz.prog.cellsOf 9) 0=false:=by rw [cells9]; rfl
  cases k with
  | zero=>
   have:elems=[]:=by
    cases elems with
    | nil=>rfl
    | cons y es=>obtain ⟨c,hc⟩:=hel y (pn ..); simp [DataW.trod] at hc
   subst this;refine ⟨[],?_,?_⟩
   ·rw [zgo Tryz.underlying23,e,cond_false,cells9];rfl
   ·simp only [Rows.uptoBulk,Sp.lens]; omega
  | succ k=>
   obtain ⟨l,h1,h2⟩:=zv6 (m:=k) elems λ y hy=>by
    obtain ⟨c,hc⟩:=hel y hy;obtain ⟨s,_,rfl,_⟩:=DataW.trod_string Tryz.underlying9 hc;exact ⟨_,rfl⟩
   refine ⟨l,?_,?_⟩
   ·rw [zgo Tryz.underlying23,e,cond_false,yft,h1,cells9];rfl
   ·simp only [Rows.uptoBulk]; omega
theorem trod_tree:∀ (n:Nat) (cs:List Value) (x:DataW H×List MemPlace),DataW.trod enc Tryz.prog W base spare held n 26 cs=some x→∃ t:T,xh Tryz.prog n 26 x.1=some t.d.cells∧yt t≤Rows.uptoBulk x.1:=by
 intro n
 induction n using Nat.strongRecOn with
 | ind n ih=>
  intro cs x h;obtain ⟨xs,m,rfl,rfl,hlen,hxs,hf⟩:=DataW.trod_struct Tryz.underlying26 h;obtain ⟨x0,x1,x2,x3,x4,rfl⟩:∃ x0 x1 x2 x3 x4,xs=[x0,x1,x2,x3,x4]:=by
   match xs,hxs with
   | [a,b,c,d,e],_=>exact ⟨a,b,c,d,e,rfl⟩
  have f0:=hf 0 _ rfl;have f1:=hf 1 _ rfl;have f2:=hf 2 _ rfl;have f3:=hf 3 _ rfl;have f4:=hf 4 _ rfl;simp only [List.getElem?_cons_zero,List.getElem?_cons_succ] at f0 f1 f2 f3 f4;obtain ⟨k,_,rfl,_⟩:=DataW.trod_int Tryz.underlying3 f0;obtain ⟨s,_,rfl,_⟩:=DataW.trod_string Tryz.underlying9 f1;obtain ⟨l,hl1,hl2⟩:=trod_trees (λ m' hm'=>ih m' (Nat.lt_succ_of_lt hm')) f2;obtain ⟨ns,hn1,hn2⟩:=z0a f3;obtain ⟨p,_,rfl,_⟩:=DataW.trod_int Tryz.underlying3 f4;have hm:∃ q,m=q+1:=by
   cases m with
   | zero=>simp [DataW.trod] at f0
   | succ k=>exact ⟨k,rfl⟩
  obtain ⟨q,rfl⟩:=hm;refine ⟨.mk k s.data.toList l ns p,?_,?_⟩
  ·rw [zqm Tryz.underlying26];have e1:∀ z:Int,xh Tryz.prog (q+1) 3 (DataW.lit (H:=H) (.int .i64 z))=some [.int .i64 z]:=λ z=>by simp only [xh,Tryz.underlying3]
   have e2:∀ z:List UInt8,xh Tryz.prog (q+1) 9 (DataW.lit (H:=H) (.string z))=some [.str z]:=λ z=>by simp only [xh,Tryz.underlying9]
   have e0:∀ fs,zfk Tryz.prog 0 fs (Tryz.prog.cellsOf 26)=true→(bif zfk Tryz.prog 0 fs (Tryz.prog.cellsOf 26) then vz (xh (H:=H) Tryz.prog (q+1)) fs [.lit (.int .i64 k),.lit (.string s.data.toList),x2.1,x3.1,.lit (.int .i64 p)] else none)=vz (xh Tryz.prog (q+1)) fs [.lit (.int .i64 k),.lit (.string s.data.toList),x2.1,x3.1,.lit (.int .i64 p)]:=λ fs h=>by rw [h]; rfl
   refine (e0 _ (by kernel_rfl)).trans ?_
   simp only [vz,e1,e2,hl1,hn1];rfl
  ·simp only [List.map_cons,List.map_nil,Rows.uptoBulk,Rows.uptoBulkAll,yt];omega
end
theorem same_kept{W W':World}(h:Kept W noOwn W'){p:MemPlace}(hp:p.block<W.heap.size):W.sameAt W' p:=by
 cases p with
 | cell b o=>exact World.cell?_of_block (w:=W) (h.blk b hp λ _ h=>h)
 | map b=>exact h.blk b hp λ _ h=>h
theorem hgrow:∀ g e,cx.grow g=some e→g=165∧e=9:=λ g e h=>by
 have h:(bif Nat.beq g 165 then some 9 else none)=some e:=h;cases hb:Nat.beq g 165 <;> rw [hb] at h
 ·cases h
 ·cases h; exact ⟨pg hb,rfl⟩
end Go.Vai
end

/-
  Slice: which nodes of a graph hang on which: plain lists. To: Slice: what each declaration uses.
-/
import Derived.Test.YtmolcgfhgdhgoaaGreatDoorSliPart4
set_option linter.all false
noncomputable section
namespace Go.Vai
theorem zo0:∀ {l l':List Int},l.Pairwise (· < ·)→l'.Pairwise (· < ·)→(∀ x,x∈l↔x∈l')→l=l'
 | [],[],_,_,_=>rfl
 | [],y::r,_,_,h=>by have:=(h y).2 (pp ..); cases this
 | x::r,[],_,_,h=>by have:=(h x).1 (pp ..); cases this
 | x::r,y::q,h1,h2,h=>by
  rw [List.pairwise_cons] at h1 h2;have hxy:x=y:=by
   have a:=(h x).1 (pp ..);have b:=(h y).2 (pp ..);rw [List.mem_cons] at a b;rcases a with a | a
   ·exact a
   ·rcases b with b | b
    ·exact b.symm
    ·have:=h2.1 x a; have:=h1.1 y b; omega
  subst hxy;rw [zo0 h1.2 h2.2 λ z=>?_];constructor
  ·intro hz;have:=(h z).1 (pr _ hz);rw [List.mem_cons] at this;rcases this with rfl | this
   ·have:=h1.1 z hz; omega
   ·exact this
  ·intro hz;have:=(h z).2 (pr _ hz);rw [List.mem_cons] at this;rcases this with rfl | this
   ·have:=h2.1 z hz; omega
   ·exact this
theorem zpm{x y:Int}:∀ {l:List Int},y∈zi9 x l↔y=x∨y∈l
 | []=>by simp [zi9]
 | z::l=>by
  unfold zi9;cases decide (x≤z)
  ·simp only [px,List.mem_cons,zpm (l:=l)];constructor
   ·rintro (h | h | h)
    ·exact .inr (.inl h)
    ·exact .inl h
    ·exact .inr (.inr h)
   ·rintro (h | h | h)
    ·exact .inr (.inl h)
    ·exact .inl h
    ·exact .inr (.inr h)
  ·simp only [pw,List.mem_cons]
theorem zn1{x:Int}:∀ {l:List Int},l.Pairwise (· < ·)→x ∉ l→(zi9 x l).Pairwise (· < ·)
 | [],_,_=>by simp [zi9]
 | z::l,h,hx=>by
  unfold zi9;rw [List.pairwise_cons] at h;simp only [List.mem_cons,not_or] at hx;by_cases hz:x≤z
  ·rw [pa hz];simp only [pw,List.pairwise_cons,List.mem_cons];refine ⟨λ y hy=>?_,h⟩;rcases hy with rfl | hy
   ·omega
   ·have:=h.1 y hy; omega
  ·rw [pb hz];simp only [px,List.pairwise_cons];refine ⟨λ y hy=>?_,zn1 h.2 hx.2⟩;rw [zpm] at hy;rcases hy with rfl | hy
   ·omega
   ·exact h.1 y hy
theorem zm2{y:Int}:∀ {l:List Int},y∈qh l↔y∈l
 | []=>by simp [qh]
 | z::l=>by simp [qh,zpm,zm2 (l:=l)]
theorem zli:∀ {l:List Int},l.Nodup→(qh l).Pairwise (· < ·)
 | [],_=>by simp [qh]
 | z::l,h=>by
  rw [List.nodup_cons] at h;exact zn1 (zli h.2) λ hm=>h.1 (zm2.1 hm)
def zam(p:Nat→Bool)(n:Nat):List Nat:=(List.range n).filter p
theorem zyt(p:Nat→Bool)(n:Nat):((zam p n).map λ k:Nat=>(k:Int)).Pairwise (· < ·):=by
 rw [List.pairwise_map];have:(List.range n).Pairwise (· < ·):=List.pairwise_lt_range;refine (this.sublist List.filter_sublist).imp ?_;intro a b h; omega
theorem zus{p:Nat→Bool}{n k:Nat}:k∈zam p n↔k<n∧p k=true:=by simp [zam]
theorem zlx{l:List Nat}{k:Nat}:((k:Int)∈l.map λ k:Nat=>(k:Int))↔k∈l:=by
 rw [List.mem_map];constructor
 ·rintro ⟨a,ha,he⟩;have:a=k:=by omega
  exact this ▸ ha
 ·intro h; exact ⟨k,h,rfl⟩
theorem z4y{l:List Nat}{n:Nat}{p:Nat→Bool}(hn:l.Nodup)(h:∀ k,k∈l↔k<n∧p k=true):qh (l.map λ k:Nat=>(k:Int))=(zam p n).map λ k:Nat=>(k:Int):=by
 have hnd:(l.map λ k:Nat=>(k:Int)).Nodup:=by
  unfold List.Nodup;rw [List.pairwise_map];exact hn.imp λ hab e=>hab (by omega)
 refine zo0 (zli hnd) (zyt p n) λ x=>?_;rw [zm2];constructor
 ·intro hx;obtain ⟨k,hk,rfl⟩:=List.mem_map.1 hx;exact zlx.2 (zus.2 ((h k).1 hk))
 ·intro hx;obtain ⟨k,hk,rfl⟩:=List.mem_map.1 hx;exact zlx.2 ((h k).2 (zus.1 hk))
def zdk(U:List (List Nat))(k:Nat):List Nat:=U.getD k []
inductive Reach (U:List (List Nat)) (s:Nat):Nat→Prop
 | here:Reach U s s
 | step {j k:Nat} (h:Reach U s j) (hk:k∈zdk U j):Reach U s k
def zii(U:List (List Nat)):Prop:=∀ u∈U,∀ k∈u,k<U.length
theorem zii.row{U:List (List Nat)}(h:zii U){j k:Nat}(hk:k∈zdk U j):k<U.length:=by
 unfold zdk at hk;rw [List.getD_eq_getElem?_getD] at hk;cases hj:U[j]? with
 | none=>rw [hj] at hk; cases hk
 | some u=>rw [hj] at hk; exact h u (pq hj) k hk
open Go.Proofs
def zgz:List V→Option (D×List UInt8) | [.d x,.d (.str s)]=>some (x,s) | _=>none
theorem yf9(n:Nat)(l:List (List UInt8))(s:List UInt8):zn cx (CK.plain zo) n 132 [.d (.sl 1 (l.map .str)),.d (.str s)] []=LP cx (CK.plain zo) n 132 0 2 n [(0,V.d (D.sl 1 (List.map D.str l))),(1,V.d (D.str s)),(7,V.d (D.int .i64 (↑(List.map D.str l).length:Int))),(8,V.d (D.int .i64 (0:Int)))] [] (AK cx (CK.plain zo) n 132 0 2 (EK cx 132 0)):=by kernel_rfl
theorem yac(n k:Nat)(l:List (List UInt8))(s:List UInt8)(i:Int):LP cx (CK.plain zo) n 132 0 2 (k+1) [(0,.d (.sl 1 (l.map .str))),(1,.d (.str s)),(7,.d (.int .i64 (l.length:Int))),(8,.d (.int .i64 i))] [] (AK cx (CK.plain zo) n 132 0 2 (EK cx 132 0))=bif decide (i<(↑l.length:Int)) then zb (decide (0≤i)&&decide (i<(↑(List.map D.str l).length:Int))) (za (List.map D.str l) i.toNat λ y=>za y.cells 0 λ c=>match c with
 | D.str s_1=>bif decide (s=s_1) then some (Out.ret (V.d (D.int .i64 i)),[]) else LP cx (CK.plain zo) n 132 0 2 k [(0,V.d (D.sl 1 (List.map D.str l))),(1,V.d (D.str s)),(7,V.d (D.int .i64 (↑l.length:Int))),(8,V.d (D.int .i64 (IntKind.i64.wrap (i+(1:Int)))))] [] (AK cx (CK.plain zo) n 132 0 2 (EK cx 132 0))
 | x=>none) else some (Out.ret (V.d (D.int .i64 (Int.negSucc 0))),[]):=by kernel_rfl
theorem yhx(n:Nat)(l:List (List UInt8))(s:List UInt8):zn cx (CK.plain zo) n 93 [.d (.sl 1 (l.map .str)),.d (.str s)] []=LP cx (CK.plain zo) n 93 0 2 n [(0,V.d (D.sl 1 (List.map D.str l))),(1,V.d (D.str s)),(5,V.d (D.int .i64 (0:Int)))] [] (AK cx (CK.plain zo) n 93 0 2 (EK cx 93 0)):=by kernel_rfl
theorem yfj(n k:Nat)(l:List (List UInt8))(s:List UInt8)(i:Int):LP cx (CK.plain zo) n 93 0 2 (k+1) [(0,.d (.sl 1 (l.map .str))),(1,.d (.str s)),(5,.d (.int .i64 i))] [] (AK cx (CK.plain zo) n 93 0 2 (EK cx 93 0))=bif decide (i<(↑(List.map D.str l).length:Int)) then zb (decide (0≤i)&&decide (i<(↑(List.map D.str l).length:Int))) (za (List.map D.str l) i.toNat λ y=>za y.cells 0 λ c=>match c with
 | D.str s_1=>bif decide (s_1=s) then some (Out.ret (V.d (D.bool true)),[]) else LP cx (CK.plain zo) n 93 0 2 k [(0,V.d (D.sl 1 (List.map D.str l))),(1,V.d (D.str s)),(5,V.d (D.int .i64 (IntKind.i64.wrap (i+(1:Int)))))] [] (AK cx (CK.plain zo) n 93 0 2 (EK cx 93 0))
 | x=>none) else some (Out.ret (V.d (D.bool false)),[]):=by kernel_rfl
theorem yir(n k:Nat)(l:List Nat)(x i:Int):LP cx (CK.plain zo) n 84 0 2 (k+1) [(0,.d (.sl 1 (l.map λ k:Nat=>D.int .i64 k))),(1,.d (.int .i64 x)),(7,.d (.int .i64 (l.length:Int))),(8,.d (.int .i64 i))] [] (AK cx (CK.plain zo) n 84 0 2 (EK cx 84 0))=bif decide (i<(↑l.length:Int)) then zb (decide (0≤i)&&decide (i<(↑(List.map (λ k:Nat=>D.int .i64 (↑k:Int)) l).length:Int))) (za (List.map (λ k:Nat=>D.int .i64 (↑k:Int)) l) i.toNat λ y=>za y.cells 0 λ c=>match c with
 | D.int k' n_1=>bif decide (k'=IntKind.i64) then bif decide (x=n_1) then some (Out.ret (V.d (D.int .i64 i)),[]) else LP cx (CK.plain zo) n 84 0 2 k [(0,V.d (D.sl 1 (List.map (λ k:Nat=>D.int .i64 (↑k:Int)) l))),(1,V.d (D.int .i64 x)),(7,V.d (D.int .i64 (↑l.length:Int))),(8,V.d (D.int .i64 (IntKind.i64.wrap (i+(1:Int)))))] [] (AK cx (CK.plain zo) n 84 0 2 (EK cx 84 0)) else none
 | x=>none) else some (Out.ret (V.d (D.int .i64 (Int.negSucc 0))),[]):=by kernel_rfl
theorem yia(n:Nat)(l:List Nat)(i:Int):zn cx (CK.plain zo) n 50 [.d (.sl 1 (l.map λ k:Nat=>D.int .i64 k)),.d (.int .i64 i)] []=LP cx (CK.plain zo) n 50 0 2 n [(0,V.d (D.sl 1 (List.map (λ k:Nat=>D.int .i64 (↑k:Int)) l))),(1,V.d (D.int .i64 i)),(5,V.d (D.int .i64 (0:Int)))] [] (AK cx (CK.plain zo) n 50 0 2 (EK cx 50 0)):=by kernel_rfl
theorem yfr(n k:Nat)(l:List Nat)(x i:Int):LP cx (CK.plain zo) n 50 0 2 (k+1) [(0,.d (.sl 1 (l.map λ k:Nat=>D.int .i64 k))),(1,.d (.int .i64 x)),(5,.d (.int .i64 i))] [] (AK cx (CK.plain zo) n 50 0 2 (EK cx 50 0))=bif decide (i<(↑(List.map (λ k:Nat=>D.int .i64 (↑k:Int)) l).length:Int)) then zb (decide (0≤i)&&decide (i<(↑(List.map (λ k:Nat=>D.int .i64 (↑k:Int)) l).length:Int))) (za (List.map (λ k:Nat=>D.int .i64 (↑k:Int)) l) i.toNat λ y=>za y.cells 0 λ c=>match c with
 | D.int k' n_1=>bif decide (k'=IntKind.i64) then bif decide (n_1=x) then some (Out.ret (V.d (D.bool true)),[]) else LP cx (CK.plain zo) n 50 0 2 k [(0,V.d (D.sl 1 (List.map (λ k:Nat=>D.int .i64 (↑k:Int)) l))),(1,V.d (D.int .i64 x)),(5,V.d (D.int .i64 (IntKind.i64.wrap (i+(1:Int)))))] [] (AK cx (CK.plain zo) n 50 0 2 (EK cx 50 0)) else none
 | x=>none) else some (Out.ret (V.d (D.bool false)),[]):=by kernel_rfl
theorem yga(n:Nat)(a b:List (List UInt8)):zn cx (CK.plain zo) n 131 [.d (.sl 1 [.sl 1 (a.map .str),.sl 1 (b.map .str)])] []=LP cx (CK.plain zo) n 131 0 3 n [(0,V.d (D.sl 1 [D.sl 1 (List.map D.str a),D.sl 1 (List.map D.str b)])),(3,V.d (D.int .i64 (0:Int))),(9,V.d (D.sl 1 [D.sl 1 (List.map D.str a),D.sl 1 (List.map D.str b)])),(10,V.d (D.int .i64 (↑[D.sl 1 (List.map D.str a),D.sl 1 (List.map D.str b)].length:Int))),(11,V.d (D.int .i64 (0:Int)))] [] (AK cx (CK.plain zo) n 131 0 3 (EK cx 131 0)):=by kernel_rfl
theorem yci(n k:Nat)(a b:List (List UInt8))(c:Int):LP cx (CK.plain zo) n 131 0 3 (k+1) [(0,.d (.sl 1 [.sl 1 (a.map .str),.sl 1 (b.map .str)])),(3,.d (.int .i64 c)),(9,.d (.sl 1 [.sl 1 (a.map .str),.sl 1 (b.map .str)])),(10,.d (.int .i64 2)),(11,.d (.int .i64 0))] [] (AK cx (CK.plain zo) n 131 0 3 (EK cx 131 0))=bif decide (IntKind.i64.wrap (c+(↑(List.map D.str a).length:Int))<(0:Int)) then some (Out.pan (V.d (D.iface 9 (D.str [108,101,110,32,111,117,116,32,111,102,32,114,97,110,103,101]))),[]) else LP cx (CK.plain zo) n 131 0 3 k [(0,V.d (D.sl 1 [D.sl 1 (List.map D.str a),D.sl 1 (List.map D.str b)])),(3,V.d (D.int .i64 (IntKind.i64.wrap (c+(↑(List.map D.str a).length:Int))))),(9,V.d (D.sl 1 [D.sl 1 (List.map D.str a),D.sl 1 (List.map D.str b)])),(10,V.d (D.int .i64 (2:Int))),(11,V.d (D.int .i64 (1:Int)))] [] (AK cx (CK.plain zo) n 131 0 3 (EK cx 131 0)):=by kernel_rfl
theorem ych(n k:Nat)(a b:List (List UInt8))(c:Int):LP cx (CK.plain zo) n 131 0 3 (k+1) [(0,.d (.sl 1 [.sl 1 (a.map .str),.sl 1 (b.map .str)])),(3,.d (.int .i64 c)),(9,.d (.sl 1 [.sl 1 (a.map .str),.sl 1 (b.map .str)])),(10,.d (.int .i64 2)),(11,.d (.int .i64 1))] [] (AK cx (CK.plain zo) n 131 0 3 (EK cx 131 0))=bif decide (IntKind.i64.wrap (c+(↑(List.map D.str b).length:Int))<(0:Int)) then some (Out.pan (V.d (D.iface 9 (D.str [108,101,110,32,111,117,116,32,111,102,32,114,97,110,103,101]))),[]) else LP cx (CK.plain zo) n 131 0 3 k [(0,V.d (D.sl 1 [D.sl 1 (List.map D.str a),D.sl 1 (List.map D.str b)])),(3,V.d (D.int .i64 (IntKind.i64.wrap (c+(↑(List.map D.str b).length:Int))))),(9,V.d (D.sl 1 [D.sl 1 (List.map D.str a),D.sl 1 (List.map D.str b)])),(10,V.d (D.int .i64 (2:Int))),(11,V.d (D.int .i64 (2:Int)))] [] (AK cx (CK.plain zo) n 131 0 3 (EK cx 131 0)):=by kernel_rfl
theorem ycg(n k:Nat)(a b:List (List UInt8))(c:Int):LP cx (CK.plain zo) n 131 0 3 (k+1) [(0,.d (.sl 1 [.sl 1 (a.map .str),.sl 1 (b.map .str)])),(3,.d (.int .i64 c)),(9,.d (.sl 1 [.sl 1 (a.map .str),.sl 1 (b.map .str)])),(10,.d (.int .i64 2)),(11,.d (.int .i64 2))] [] (AK cx (CK.plain zo) n 131 0 3 (EK cx 131 0))=zb (decide (0≤c)&&decide (c≤4294967296)&&true&&true&&true) (LP cx (CK.plain zo) n 131 0 11 n [(6,V.sl 1 [] 24),(25,V.d (D.sl 1 [D.sl 1 (List.map D.str a),D.sl 1 (List.map D.str b)])),(26,V.d (D.int .i64 (↑[D.sl 1 (List.map D.str a),D.sl 1 (List.map D.str b)].length:Int))),(27,V.d (D.int .i64 (0:Int)))] [(24,Ob.tok 0)] (AK cx (CK.plain zo) n 131 0 11 (EK cx 131 0))):=by kernel_rfl
theorem ycf(n k:Nat)(a b:List (List UInt8))(l:List D):LP cx (CK.plain zo) n 131 0 11 (k+1) [(6,V.sl 1 l 24),(25,V.d (D.sl 1 [D.sl 1 (List.map D.str a),D.sl 1 (List.map D.str b)])),(26,V.d (D.int .i64 2)),(27,V.d (D.int .i64 (0:Int)))] [(24,Ob.tok l.length)] (AK cx (CK.plain zo) n 131 0 11 (EK cx 131 0))=zb (decide (l.length=l.length)&&decide (l.length+(List.map D.str a).length≤4294967296)) (LP cx (CK.plain zo) n 131 0 11 k [(6,V.sl 1 (l++List.map D.str a) 24),(25,V.d (D.sl 1 [D.sl 1 (List.map D.str a),D.sl 1 (List.map D.str b)])),(26,V.d (D.int .i64 (2:Int))),(27,V.d (D.int .i64 (1:Int)))] [(24,Ob.tok (l.length+(List.map D.str a).length))] (AK cx (CK.plain zo) n 131 0 11 (EK cx 131 0))):=by kernel_rfl
theorem yce(n k:Nat)(a b:List (List UInt8))(l:List D):LP cx (CK.plain zo) n 131 0 11 (k+1) [(6,V.sl 1 l 24),(25,V.d (D.sl 1 [D.sl 1 (List.map D.str a),D.sl 1 (List.map D.str b)])),(26,V.d (D.int .i64 2)),(27,V.d (D.int .i64 (1:Int)))] [(24,Ob.tok l.length)] (AK cx (CK.plain zo) n 131 0 11 (EK cx 131 0))=zb (decide (l.length=l.length)&&decide (l.length+(List.map D.str b).length≤4294967296)) (LP cx (CK.plain zo) n 131 0 11 k [(6,V.sl 1 (l++List.map D.str b) 24),(25,V.d (D.sl 1 [D.sl 1 (List.map D.str a),D.sl 1 (List.map D.str b)])),(26,V.d (D.int .i64 (2:Int))),(27,V.d (D.int .i64 (2:Int)))] [(24,Ob.tok (l.length+(List.map D.str b).length))] (AK cx (CK.plain zo) n 131 0 11 (EK cx 131 0))):=by kernel_rfl
theorem ycd(n k:Nat)(a b:List (List UInt8))(l:List D):LP cx (CK.plain zo) n 131 0 11 (k+1) [(6,V.sl 1 l 24),(25,V.d (D.sl 1 [D.sl 1 (List.map D.str a),D.sl 1 (List.map D.str b)])),(26,V.d (D.int .i64 2)),(27,V.d (D.int .i64 (2:Int)))] [(24,Ob.tok l.length)] (AK cx (CK.plain zo) n 131 0 11 (EK cx 131 0))=some (Out.ret (V.d (D.sl 1 l)),[]):=by kernel_rfl
def y4(s:List UInt8)(l:List (List UInt8)):Bool:=l.any λ x=>decide (x=s)
theorem mem_iff{s:List UInt8}{l:List (List UInt8)}:y4 s l=true↔s∈l:=by
 unfold y4;rw [List.any_eq_true];constructor
 ·rintro ⟨x,hx,h⟩; have:=pc h; exact this ▸ hx
 ·intro h; exact ⟨s,h,pa rfl⟩
def ze1(k:Int)(l:List Nat):Bool:=l.any λ x:Nat=>decide ((x:Int)=k)
theorem zwr{k:Nat}{l:List Nat}:ze1 (k:Int) l=true↔k∈l:=by
 unfold ze1;rw [List.any_eq_true];constructor
 ·rintro ⟨x,hx,h⟩;have:=pc h;have:x=k:=by omega
  exact this ▸ hx
 ·intro h; exact ⟨k,h,pa rfl⟩
abbrev nI(l:List Nat):List D:=l.map λ k:Nat=>D.int .i64 k
theorem zhj{R:Type}{l:List Nat}{i:Nat}{K:D→Option R}:za (nI l) i K=zc l[i]? λ t=>K (.int .i64 t):=by
 unfold za;rw [List.getElem?_map];cases l[i]? <;> rfl
theorem yg8(l:List (List UInt8))(s:List UInt8)(hl:yn l=true):zj cx 132 [.d (.sl 1 (l.map .str)),.d (.str s)] []=some (.ret (mkI (wi (λ x=>decide (s=x)) l)),[]):=by
 refine zm zp (N:=l.length+1) ?_;rw [yf9,ph]
 have h:=vr (λ k i=>LP cx (CK.plain zo) (l.length+1) 132 0 2 k [(0,.d (.sl 1 (l.map .str))),(1,.d (.str s)),(7,.d (.int .i64 (l.length:Int))),(8,.d (.int .i64 i))] [] (AK cx (CK.plain zo) (l.length+1) 132 0 2 (EK cx 132 0)))
  l (λ x=>decide (s=x)) (λ j=>some (Out.ret (V.d (D.int .i64 j)),[])) (some (Out.ret (V.d (D.int .i64 (Int.negSucc 0))),[])) (yp hl)
  (λ k j x hj hx=>by
   rw [yac,ph,yf hj,y8,wt,po,hx];rfl) (λ k=>by rw [yac,yw,px]) (Nat.lt_succ_self _)
 refine h.trans ?_;unfold wi;cases xh (λ x=>decide (s=x)) l 0 <;> rfl
theorem m93(l:List (List UInt8))(s:List UInt8)(hl:yn l=true):zj cx 93 [.d (.sl 1 (l.map .str)),.d (.str s)] []=some (.ret (mkB (y4 s l)),[]):=by
 refine zm zp (N:=l.length+1) ?_;rw [yhx]
 have h:=vr (λ k i=>LP cx (CK.plain zo) (l.length+1) 93 0 2 k [(0,.d (.sl 1 (l.map .str))),(1,.d (.str s)),(5,.d (.int .i64 i))] [] (AK cx (CK.plain zo) (l.length+1) 93 0 2 (EK cx 93 0)))
  l (λ x=>decide (x=s)) (λ _=>some (Out.ret (V.d (D.bool true)),[])) (some (Out.ret (V.d (D.bool false)),[])) (yp hl)
  (λ k j x hj hx=>by
   rw [yfj,ph,yf hj,y8,wt,po,hx];rfl) (λ k=>by rw [yfj,ph,yw,px]) (Nat.lt_succ_self _)
 refine h.trans ?_;unfold y4;rw [←zbh l 0];cases xh (λ x=>decide (x=s)) l 0 <;> rfl
theorem m50(l:List Nat)(a:Int)(hl:yn l=true):zj cx 50 [.d (.sl 1 (nI l)),.d (.int .i64 a)] []=some (.ret (mkB (ze1 a l)),[]):=by
 refine zm zp (N:=l.length+1) ?_;rw [yia]
 have h:=vr (λ k i=>LP cx (CK.plain zo) (l.length+1) 50 0 2 k [(0,.d (.sl 1 (nI l))),(1,.d (.int .i64 a)),(5,.d (.int .i64 i))] [] (AK cx (CK.plain zo) (l.length+1) 50 0 2 (EK cx 50 0)))
  l (λ x:Nat=>decide ((x:Int)=a)) (λ _=>some (Out.ret (V.d (D.bool true)),[])) (some (Out.ret (V.d (D.bool false)),[])) (yp hl)
  (λ k j x hj hx=>by
   rw [yfr,ph,yf hj,y8,zhj,po,hx];rfl) (λ k=>by rw [yfr,ph,yw,px]) (Nat.lt_succ_self _)
 refine h.trans ?_;unfold ze1;rw [←zbh l 0];cases xh (λ x:Nat=>decide ((x:Int)=a)) l 0 <;> rfl
theorem yg9(a b:List (List UInt8))(ha:a.length+b.length≤4294967296):zj cx 131 [.d (.sl 1 [.sl 1 (a.map .str),.sl 1 (b.map .str)])] []=some (.ret (.d (.sl 1 ((a++b).map .str))),[]):=by
 refine zm zp (N:=3) ?_;have w1:IntKind.i64.wrap ((0:Int)+(a.length:Int))=((a.length:Nat):Int):=by rw [IntWalk.i64_in _ (by omega)]; omega
 have w2:IntKind.i64.wrap (((a.length:Nat):Int)+(b.length:Int))=((a.length+b.length:Nat):Int):=by rw [IntWalk.i64_in _ (by omega)]; omega
 have e2:((([D.sl 1 (List.map D.str a),D.sl 1 (List.map D.str b)]:List D).length:Nat):Int)=2:=rfl
 rw [yga,e2,yci,ph,w1,pb (p:=((a.length:Nat):Int)<0) (by omega),px,ych,ph,w2,pb (p:=((a.length+b.length:Nat):Int)<0) (by omega),px,ycg,
  pa (p:=(0:Int)≤((a.length+b.length:Nat):Int)) (by omega),pa (p:=((a.length+b.length:Nat):Int)≤4294967296) (by omega)]
 simp only [Bool.and_self,zb,pw];have hd:=ycf 3 2 a b [];rw [pz] at hd;rw [e2];refine hd.trans ?_;rw [pa rfl,pa (p:=0+(List.map D.str a).length≤4294967296) (by simp; omega)]
 simp only [Bool.and_self,zb,pw,List.nil_append,Nat.zero_add];refine (yce 3 1 a b (List.map D.str a)).trans ?_;rw [pa rfl,pa (p:=(List.map D.str a).length+(List.map D.str b).length≤4294967296) (by simp; omega)]
 simp only [Bool.and_self,zb,pw];rw [←pe,←List.map_append];exact ycd 3 0 a b _
theorem zhx{a:List V}{q}(h:zgz a=some q):a=[.d q.1,.d (.str q.2)]:=by
 unfold zgz at h;split at h
 ·cases h; rfl
 ·cases h
def zb9(l:List (List UInt8))(s:List UInt8):List (List UInt8):=bif y4 s l then l else l++[s]
def zmk:List (List UInt8):=[[85],[83,49],[98,97,115,101],[110,111,114,116,104],[115,111,117,116,104],[108,111,111,112],[102,115,116],[115,110,100],[83,117,115,112],[117,110,103,108,117,101],[109,101,114,105,100],[103,108,117,101],[71,108,117,101],[80,97,116,104],[116,114,97,110,115,112],[104,99,111,109,112],[83,49,101,108,105,109],[83,117,115,112,101,108,105,109]]
def zot:List Nat:=[0,0,0,0,0,0,1,1,1,1,1,2,2,3,3,3,4,5]
def wK:List D:=zmk.map .str
def qa(ks:List D)(s:List UInt8):Bool:=ks.any λ k=>match k with | .str t=>decide (s=t) | _=>false
def zpv:D→Bool | .str _=>true | _=>false
def z1b:D→Bool | .int k _=>decide (k=.i64) | _=>false
def okM(ks vs:List D):Bool:=ks.all zpv&&vs.all z1b&&decide (ks.length≤vs.length)
def zzr:List V→Option ((List D×List D)×List UInt8) | [.d (.agg [.map ks vs,_,_,_]),.d (.str s)]=>some ((ks,vs),s) | _=>none
def z4w(q:(List D×List D)×List UInt8):Option Bool:=zb (okM q.1.1 q.1.2) (some (qa q.1.1 q.2))
def zvb:List V→Option ((List D×List D)×D) | [.d x,.mfunc 79 [.agg [.map ks vs,_,_,_]]]=>some ((ks,vs),x) | _=>none
def strsOf:List D→Option (List (List UInt8))
 | []=>some []
 | .str s::r=>zc (strsOf r) λ l=>some (s::l)
 | _=>none
def zbz:D→Option (List (List UInt8))
 | .sl sz l=>zb (Nat.beq sz 1&&decide (l.length<4294967296)) (strsOf l)
 | _=>none
def zyr(q:(List D×List D)×D):Option Int:=zb (okM q.1.1 q.1.2) (zc (zbz q.2) λ l=>some (wi (qa q.1.1) l))
def yc1(q:(List D×List D)×D):Option Bool:=zb (okM q.1.1 q.1.2) (zc (zbz q.2) λ l=>some (l.any (qa q.1.1)))
def zr2:CK R1:=z7 79 zzr z4w mkB (CK.plain zo)
def yad:CK R1:=z7 106 zvb zyr mkI (CK.plain zo)
def xT:D:=.agg [.int .i64 1,.str [120],.sl 5 [],.sl 1 [],.int .i64 0]
def ygv(b:Bool):D:=D.agg [D.int .i64 (bif b then 0 else 1),D.int .i64 0,D.str [],D.sl 2 [],D.sl 6 [],D.sl 2 []]
open Classical in
def isD(x:D)(y:D):Bool:=decide (x=y)
def evK(n:Nat):CK R1:=CK.plain (vz cx n)
theorem ztr(n:Nat):knows cx (evK n).S (zj cx):=λ _ _ _ _ _ h=>zhm h
def K42:CK R1:=z7 78 zvb yc1 mkB (evK 60)
def z6w:List V→Option ((D×D)×(D×D)) | [.d t,.d a,.d b,.d c]=>some ((t,a),(b,c)) | _=>none
def z4h:D→Option (List UInt8) | .sl 1 [.str s]=>some s | _=>none
def yag(q:(D×D)×(D×D)):Option Bool:=zc (z4h q.1.2) λ s=>zb (isD q.1.1 xT&&isD q.2.1 (.sl 1 [.str [120]])&&isD q.2.2 (.sl 1 [])) (some (qa wK s))
def z8d(b:Bool):V:=.tup [.d (ygv b),.d (.int .i64 0),.d (.int .i64 (bif b then 61 else 0))]
def ygj:CK R1:=z7 42 z6w yag z8d (CK.plain zo)
theorem yic(s:List UInt8):zn cx K42 5 42 [.d xT,.d (.sl 1 [.str s]),.d (.sl 1 [.str [120]]),.d (.sl 1 [])] []=bif [s].any (qa wK) then some (.ret (z8d true),[]) else some (.ret (z8d false),[]):=by kernel_rfl
theorem ygb(s:List UInt8):zn cx ygj 5 130 [.d (.str s)] []=zc (yag ((xT,.sl 1 [.str s]),(.sl 1 [.str [120]],.sl 1 []))) λ b=>some (.ret (.d (.bool (!decide ((bif b then (61:Int) else 0)=0)))),[]):=by kernel_rfl
theorem yhz(n:Nat)(ks vs:List D)(a b c:D)(s:List UInt8):zn cx (CK.plain zo) n 79 [.d (.agg [.map ks vs,a,b,c]),.d (.str s)] []=zc (qp (D.str s) ks 0) λ o=>zkn o (λ i=>za vs i λ y=>match y with
 | D.int k' n=>bif decide (k'=IntKind.i64) then some (Out.ret (V.d (D.bool true)),[]) else none
 | x=>none) (some (Out.ret (V.d (D.bool false)),[])):=by kernel_rfl
theorem ycs(n:Nat)(ks vs:List D)(a b c:D)(l:List (List UInt8)):zn cx zr2 n 106 [.d (.sl 1 (l.map .str)),.mfunc 79 [.agg [.map ks vs,a,b,c]]] []=LP cx zr2 n 106 0 2 n [(0,V.d (D.sl 1 (List.map D.str l))),(1,V.mfunc 79 [D.agg [D.map ks vs,a,b,c]]),(7,V.d (D.int .i64 (↑(List.map D.str l).length:Int))),(8,V.d (D.int .i64 (0:Int)))] [] (AK cx zr2 n 106 0 2 (EK cx 106 0)):=by kernel_rfl
theorem z7l(n k:Nat)(ks vs:List D)(a b c:D)(l:List (List UInt8))(i:Int):LP cx zr2 n 106 0 2 (k+1) [(0,.d (.sl 1 (l.map .str))),(1,.mfunc 79 [.agg [.map ks vs,a,b,c]]),(7,.d (.int .i64 (l.length:Int))),(8,.d (.int .i64 i))] [] (AK cx zr2 n 106 0 2 (EK cx 106 0))=bif decide (i<(↑l.length:Int)) then zb (decide (0≤i)&&decide (i<(↑(List.map D.str l).length:Int))) (za (List.map D.str l) i.toNat λ y=>za y.cells 0 λ c_1=>match c_1 with
 | D.str s=>zc (zb (((ks,vs),s).fst.fst.all zpv&&((ks,vs),s).fst.snd.all z1b&&decide (((ks,vs),s).fst.fst.length≤((ks,vs),s).fst.snd.length)) (some (qa ((ks,vs),s).fst.fst ((ks,vs),s).snd))) λ b_1=>bif b_1 then some (Out.ret (V.d (D.int .i64 i)),[]) else LP cx zr2 n 106 0 2 k [(0,V.d (D.sl 1 (List.map D.str l))),(1,V.mfunc 79 [D.agg [D.map ks vs,a,b,c]]),(7,V.d (D.int .i64 (↑l.length:Int))),(8,V.d (D.int .i64 (IntKind.i64.wrap (i+(1:Int)))))] [] (AK cx zr2 n 106 0 2 (EK cx 106 0))
 | x=>none) else some (Out.ret (V.d (D.int .i64 (Int.negSucc 0))),[]):=by kernel_rfl
theorem yf4(n:Nat)(ks vs:List D)(a b c:D)(l:List (List UInt8)):zn cx yad n 78 [.d (.sl 1 (l.map .str)),.mfunc 79 [.agg [.map ks vs,a,b,c]]] []=zc (zb (((ks,vs),D.sl 1 (List.map D.str l)).fst.fst.all zpv&&((ks,vs),D.sl 1 (List.map D.str l)).fst.snd.all z1b&&decide (((ks,vs),D.sl 1 (List.map D.str l)).fst.fst.length≤((ks,vs),D.sl 1 (List.map D.str l)).fst.snd.length)) (zc (zbz ((ks,vs),D.sl 1 (List.map D.str l)).snd) λ l_1=>some (wi (qa ((ks,vs),D.sl 1 (List.map D.str l)).fst.fst) l_1))) λ b=>some (Out.ret (V.d (D.bool (decide ((0:Int)≤b)))),[]):=by kernel_rfl
theorem zxy{a:List V}{q}(h:zzr a=some q):∃ x y z,a=[.d (.agg [.map q.1.1 q.1.2,x,y,z]),.d (.str q.2)]:=by
 unfold zzr at h; split at h <;> cases h; exact ⟨_,_,_,rfl⟩
theorem zn9{a:List V}{q}(h:zvb a=some q):∃ x y z,a=[.d q.2,.mfunc 79 [.agg [.map q.1.1 q.1.2,x,y,z]]]:=by
 unfold zvb at h; split at h <;> cases h; exact ⟨_,_,_,rfl⟩
theorem zzv{a:List V}{q}(h:z6w a=some q):a=[.d q.1.1,.d q.1.2,.d q.2.1,.d q.2.2]:=by
 unfold z6w at h; split at h <;> cases h; rfl
theorem zyh{x:D}{s}(h:z4h x=some s):x=.sl 1 [.str s]:=by
 unfold z4h at h; split at h <;> cases h; rfl
open Classical in
theorem zpx{x y:D}(h:isD x y=true):x=y:=by unfold isD at h; exact pc h
open Classical in
theorem zpy{x:D}:isD x x=true:=by unfold isD; exact pa rfl
theorem zf0:∀ {l:List D} {r:List (List UInt8)},strsOf l=some r→l=r.map .str
 | [],r,h=>by cases h; rfl
 | .str s::l,r,h=>by
  obtain ⟨q,hq,h⟩:=zd h;cases h;rw [zf0 hq]; rfl
theorem zg6:∀ (l:List (List UInt8)),strsOf (l.map .str)=some l
 | []=>rfl
 | s::l=>by show zc (strsOf (l.map .str)) _=_; rw [zg6 l]; rfl
theorem za9{x:D}{l}(h:zbz x=some l):x=.sl 1 (l.map .str)∧yn l=true:=by
 unfold zbz at h;split at h
 ·obtain ⟨h1,h2⟩:=zf h;rw [pm] at h1;obtain rfl:=pj h1.1;obtain rfl:=zf0 h2;refine ⟨rfl,?_⟩;have:=pc h1.2;rw [ph] at this;exact pa (p:=l.length<4294967296) (by omega)
 ·cases h
theorem zdb{l:List (List UInt8)}(h:yn l=true):zbz (.sl 1 (l.map .str))=some l:=by
 show zb (Nat.beq 1 1&&decide ((l.map D.str).length<4294967296)) (strsOf (l.map .str))=_;have:=pc h;rw [ph,pa this,zg6];rfl
theorem zm3(s:List UInt8):∀ (ks:List D) (i:Nat),ks.all zpv=true→∃ o,qp (.str s) ks i=some o∧o.isSome=qa ks s∧∀ j,o=some j→i≤j∧j<i+ks.length
 | [],i,_=>⟨none,rfl,rfl,λ _ h=>by cases h⟩
 | .str t::ks,i,h=>by
  have h2:ks.all zpv=true:=by simpa [zpv] using h
  obtain ⟨o,ho,hi,hb⟩:=zm3 s ks (i+1) h2;show ∃ o,(bif decide (s=t) then some (some i) else qp (.str s) ks (i+1))=some o∧o.isSome=(decide (s=t)||qa ks s)∧_
  cases decide (s=t)
  ·refine ⟨o,ho,hi,λ j hj=>?_⟩;have:=hb j hj;simp only [py]; omega
  ·exact ⟨some i,rfl,rfl,λ j hj=>by cases hj; simp only [py]; omega⟩
 | .bool _::_,_,h | .int _ _::_,_,h=>by cases h
theorem m79(ks vs:List D)(a b c:D)(s:List UInt8)(h:okM ks vs=true):zj cx 79 [.d (.agg [.map ks vs,a,b,c]),.d (.str s)] []=some (.ret (mkB (qa ks s)),[]):=by
 refine zm zp (N:=0) ?_;rw [yhz];unfold okM at h;rw [pm,pm] at h;obtain ⟨⟨h1,h2⟩,h3⟩:=h;have h3:=pc h3;obtain ⟨o,ho,hi,hb⟩:=zm3 s ks 0 h1;rw [ho,←hi];cases o with
 | none=>rfl
 | some i=>
  have hi:=hb i rfl;obtain ⟨y,hy⟩:∃ y,vs[i]?=some y:=⟨vs[i]'(by omega),p4 (by omega)⟩
  have:=(List.all_eq_true.1 h2) y (pq hy);show (za vs i λ y=>_)=_;unfold za;rw [hy];cases y <;> simp only [z1b] at this <;> try cases this
  rename_i k n;have:=pc this;subst this;rfl
theorem z0b:knows cx zr2.S (zj cx):=zk zp λ a q b hd h hb=>by
 obtain ⟨x,y,z,rfl⟩:=zxy h;obtain ⟨h1,hb⟩:=zf hb;cases hb;exact m79 _ _ _ _ _ _ h1
theorem yc9(ks vs:List D)(a b c:D)(l:List (List UInt8))(hl:yn l=true)(h:okM ks vs=true):zj cx 106 [.d (.sl 1 (l.map .str)),.mfunc 79 [.agg [.map ks vs,a,b,c]]] []=some (.ret (mkI (wi (qa ks) l)),[]):=by
 refine zm z0b (N:=l.length+1) ?_;rw [ycs,ph]
 have h:=vr (λ k i=>LP cx zr2 (l.length+1) 106 0 2 k [(0,.d (.sl 1 (l.map .str))),(1,.mfunc 79 [.agg [.map ks vs,a,b,c]]),(7,.d (.int .i64 (l.length:Int))),(8,.d (.int .i64 i))] [] (AK cx zr2 (l.length+1) 106 0 2 (EK cx 106 0)))
  l (qa ks) (λ j=>some (Out.ret (V.d (D.int .i64 j)),[])) (some (Out.ret (V.d (D.int .i64 (Int.negSucc 0))),[])) (yp hl)
  (λ k j x hj hx=>by
   rw [z7l,ph,yf hj,y8,wt,po,hx];show zc (z4w ((ks,vs),x)) _=_;unfold z4w;simp only [h];rfl) (λ k=>by rw [z7l,yw,px]) (Nat.lt_succ_self _)
 refine h.trans ?_;unfold wi;cases xh (qa ks) l 0 <;> rfl
theorem yg4(ks vs:List D)(a b c:D)(l:List (List UInt8))(hl:yn l=true)(h:okM ks vs=true):zj cx 78 [.d (.sl 1 (l.map .str)),.mfunc 79 [.agg [.map ks vs,a,b,c]]] []=some (.ret (mkB (l.any (qa ks))),[]):=by
 have hk:knows cx yad.S (zj cx):=zk zp λ a q b hd h hb=>by
  obtain ⟨x,y,z,rfl⟩:=zn9 h;obtain ⟨h1,hb⟩:=zf hb;obtain ⟨l,hl,hb⟩:=zd hb;cases hb;obtain ⟨h2,h3⟩:=za9 hl;rw [h2];exact yc9 _ _ _ _ _ _ h3 h1
 refine zm hk (N:=0) ?_;rw [yf4];show zc (zyr ((ks,vs),.sl 1 (l.map .str))) _=_;unfold zyr;simp only [h];rw [zdb hl];show some (Out.ret (mkB (decide ((0:Int)≤wi (qa ks) l))),[])=_;rw [zhp]
theorem z35:knows cx K42.S (zj cx):=zk (ztr 60) λ a q b hd h hb=>by
 obtain ⟨x,y,z,rfl⟩:=zn9 h;obtain ⟨h1,hb⟩:=zf hb;obtain ⟨l,hl,hb⟩:=zd hb;cases hb;obtain ⟨h2,h3⟩:=za9 hl;rw [h2];exact yg4 _ _ _ _ _ _ h3 h1
theorem m42(s:List UInt8):zj cx 42 [.d xT,.d (.sl 1 [.str s]),.d (.sl 1 [.str [120]]),.d (.sl 1 [])] []=some (.ret (z8d (qa wK s)),[]):=by
 refine zm z35 (N:=5) ?_;rw [yic];have:[s].any (qa wK)=qa wK s:=by simp
 rw [this];cases qa wK s <;> rfl
def xo(s:List UInt8):Bool:=qa wK s
theorem yha(s:List UInt8):zj cx 130 [.d (.str s)] []=some (.ret (mkB (xo s)),[]):=by
 have hk:knows cx ygj.S (zj cx):=zk zp λ a q b hd h hb=>by
  obtain rfl:=zzv h;obtain ⟨s,hs,hb⟩:=zd hb;obtain ⟨h1,hb⟩:=zf hb;cases hb;rw [pm,pm] at h1;rw [zpx h1.1.1,zpx h1.1.2,zpx h1.2,zyh hs];exact m42 s
 refine zm hk (N:=5) ?_;rw [ygb];unfold yag;rw [zpy,zpy,zpy];show some (Out.ret (mkB _),[])=_;unfold xo;cases qa wK s <;> rfl
def psN(L:List D):St:=[(0,.val 1 (.sl 1 L 1)),(1,.tok L.length)]
def pdN:St→Option (List D×Nat) | [(0,.val 1 (.sl 1 L 1)),(1,.tok n)]=>some (L,n) | _=>none
def zqk(a:List V)(σ:St):Option ((D×D)×(List D×Nat)):=match a with | [.d t,.d b,.func 89 [.ptr 0 0]]=>zc (pdN σ) λ q=>some ((t,b),q) | _=>none
def zzs(a:List V)(σ:St):Option (List UInt8×(List D×Nat)):=match a with | [.d (.str s),.ptr 0 0]=>zc (pdN σ) λ q=>some (s,q) | _=>none
def stK{α:Type}(f:Nat)(dec:List V→St→Option (α×(List D×Nat)))(sp:α→List D→Option (List D))(S:CK R1):CK R1:=
 more f dec (λ K q=>zc (sp q.1 q.2.1) λ L'=>zb (Nat.beq q.2.2 q.2.1.length) (K (.ret (.tup [])) (psN L')))
  (λ K q=>by
   simp only;rw [zal];congr 1;funext s;simp only [zb,vn];rfl) S
theorem zwi{σ:St}{L:List D}{n:Nat}(h:pdN σ=some (L,n))(hn:Nat.beq n L.length=true):σ=psN L:=by
 unfold pdN at h;split at h
 ·cases h;obtain rfl:=pj hn;rfl
 ·cases h
theorem zsf{α:Type}{f:Nat}{dec:List V→St→Option (α×(List D×Nat))}{sp:α→List D→Option (List D)}{S:CK R1}(hS:knows cx S.S (zj cx))
  (hf:∀ a σ q L n L',dec a σ=some (q,(L,n))→Nat.beq n L.length=true→sp q L=some L'→zj cx f a σ=some (.ret (.tup []),psN L')):knows cx (stK f dec sp S).S (zj cx):=
 v8 hS λ a σ q r hd h=>by
  obtain ⟨q,L,n⟩:=q;obtain ⟨s,hs,h⟩:=zd h;obtain ⟨h1,h⟩:=zf h;cases h;exact hf a σ q L n s hd h1 hs
def zzx:List V→Option (D×D) | [.d (.sl 1 [x,y])]=>some (x,y) | _=>none
def zaq(sp:D→D→List D→Option (List D))(p:D→List UInt8→Option Bool)(w:List UInt8→Bool)(c:D→D→Option (List D))(a:List UInt8→List D→Option (List D)):CK R1:=
 stK 88 zqk (λ q=>sp q.1 q.2) (stK 89 zzs a (z7 90 zgz (λ q=>p q.1 q.2) mkB (z7 130 zbw (λ s=>some (w s)) mkB (z7 131 zzx (λ q=>c q.1 q.2) (λ x=>.d (.sl 1 x)) (CK.plain zo)))))
def ygd(p:D→List UInt8→Option Bool):CK R1:=z7 90 zgz (λ q=>p q.1 q.2) mkB (CK.plain zo)
def zr4(sp:D→D→List D→Option (List D)):CK R1:=stK 88 zqk (λ q=>sp q.1 q.2) (CK.plain zo)
theorem ycr(sp:D→D→List D→Option (List D))(p:D→List UInt8→Option Bool)(w:List UInt8→Bool)(c:D→D→Option (List D))(a:List UInt8→List D→Option (List D))(n:Nat)(b L:List D)(nm:List UInt8)(nms:List (List UInt8))(pl:Int):zn cx (zaq sp p w c a) n 88 [.d (.agg [.int .i64 1,.str nm,.sl 5 (T.ds []),.sl 1 (nms.map .str),.int .i64 pl]),.d (.sl 1 b),.func 89 [.ptr 0 0]] (psN L)=zc (p (D.sl 1 b,nm).fst (D.sl 1 b,nm).snd) λ b=>bif !b then zb (decide (nm.length≤big)) (bif !w nm then zc (a (nm,L,L.length).fst (nm,L,L.length).snd.fst) λ L'=>zb ((nm,L,L.length).snd.snd.beq (nm,L,L.length).snd.fst.length) (some (Out.ret (V.tup []),[(0,Ob.val 1 (V.sl 1 L' 1)),(1,Ob.tok L'.length)])) else some (Out.ret (V.tup []),[(0,Ob.val 1 (V.sl 1 L 1)),(1,Ob.tok L.length)])) else some (Out.ret (V.tup []),[(0,Ob.val 1 (V.sl 1 L 1)),(1,Ob.tok L.length)]):=by kernel_rfl
theorem ycq(sp:D→D→List D→Option (List D))(p:D→List UInt8→Option Bool)(w:List UInt8→Bool)(c:D→D→Option (List D))(a:List UInt8→List D→Option (List D))(n:Nat)(b L:List D)(nm:List UInt8)(nms:List (List UInt8))(pl:Int)(k1:Int)(m1:List UInt8)(l1:List T)(n1:List (List UInt8))(p1:Int):zn cx (zaq sp p w c a) n 88 [.d (.agg [.int .i64 2,.str nm,.sl 5 (T.ds [(T.mk k1 m1 l1 n1 p1)]),.sl 1 (nms.map .str),.int .i64 pl]),.d (.sl 1 b),.func 89 [.ptr 0 0]] (psN L)=zc (c (D.sl 1 b,D.sl 1 (List.map D.str nms)).fst (D.sl 1 b,D.sl 1 (List.map D.str nms)).snd) λ b=>zc (sp ((D.agg [D.int .i64 k1,D.str m1,D.sl 5 (T.ds l1),D.sl 1 (List.map D.str n1),D.int .i64 p1],D.sl 1 b),L,L.length).fst.fst ((D.agg [D.int .i64 k1,D.str m1,D.sl 5 (T.ds l1),D.sl 1 (List.map D.str n1),D.int .i64 p1],D.sl 1 b),L,L.length).fst.snd ((D.agg [D.int .i64 k1,D.str m1,D.sl 5 (T.ds l1),D.sl 1 (List.map D.str n1),D.int .i64 p1],D.sl 1 b),L,L.length).snd.fst) λ L'=>zb (((D.agg [D.int .i64 k1,D.str m1,D.sl 5 (T.ds l1),D.sl 1 (List.map D.str n1),D.int .i64 p1],D.sl 1 b),L,L.length).snd.snd.beq ((D.agg [D.int .i64 k1,D.str m1,D.sl 5 (T.ds l1),D.sl 1 (List.map D.str n1),D.int .i64 p1],D.sl 1 b),L,L.length).snd.fst.length) (some (Out.ret (V.tup []),[(0,Ob.val 1 (V.sl 1 L' 1)),(1,Ob.tok L'.length)])):=by kernel_rfl
theorem yco(sp:D→D→List D→Option (List D))(p:D→List UInt8→Option Bool)(w:List UInt8→Bool)(c:D→D→Option (List D))(a:List UInt8→List D→Option (List D))(n:Nat)(b L:List D)(nm:List UInt8)(nms:List (List UInt8))(pl:Int)(k1:Int)(m1:List UInt8)(l1:List T)(n1:List (List UInt8))(p1:Int)(k2:Int)(m2:List UInt8)(l2:List T)(n2:List (List UInt8))(p2:Int):zn cx (zaq sp p w c a) n 88 [.d (.agg [.int .i64 4,.str nm,.sl 5 (T.ds [(T.mk k1 m1 l1 n1 p1),(T.mk k2 m2 l2 n2 p2)]),.sl 1 (nms.map .str),.int .i64 pl]),.d (.sl 1 b),.func 89 [.ptr 0 0]] (psN L)=zc (sp ((D.agg [D.int .i64 k1,D.str m1,D.sl 5 (T.ds l1),D.sl 1 (List.map D.str n1),D.int .i64 p1],D.sl 1 b),L,L.length).fst.fst ((D.agg [D.int .i64 k1,D.str m1,D.sl 5 (T.ds l1),D.sl 1 (List.map D.str n1),D.int .i64 p1],D.sl 1 b),L,L.length).fst.snd ((D.agg [D.int .i64 k1,D.str m1,D.sl 5 (T.ds l1),D.sl 1 (List.map D.str n1),D.int .i64 p1],D.sl 1 b),L,L.length).snd.fst) λ L'=>zb (((D.agg [D.int .i64 k1,D.str m1,D.sl 5 (T.ds l1),D.sl 1 (List.map D.str n1),D.int .i64 p1],D.sl 1 b),L,L.length).snd.snd.beq ((D.agg [D.int .i64 k1,D.str m1,D.sl 5 (T.ds l1),D.sl 1 (List.map D.str n1),D.int .i64 p1],D.sl 1 b),L,L.length).snd.fst.length) (zc (c (D.sl 1 b,D.sl 1 (List.map D.str nms)).fst (D.sl 1 b,D.sl 1 (List.map D.str nms)).snd) λ b=>zc (sp ((D.agg [D.int .i64 k2,D.str m2,D.sl 5 (T.ds l2),D.sl 1 (List.map D.str n2),D.int .i64 p2],D.sl 1 b),L',L'.length).fst.fst ((D.agg [D.int .i64 k2,D.str m2,D.sl 5 (T.ds l2),D.sl 1 (List.map D.str n2),D.int .i64 p2],D.sl 1 b),L',L'.length).fst.snd ((D.agg [D.int .i64 k2,D.str m2,D.sl 5 (T.ds l2),D.sl 1 (List.map D.str n2),D.int .i64 p2],D.sl 1 b),L',L'.length).snd.fst) λ L'_1=>zb (((D.agg [D.int .i64 k2,D.str m2,D.sl 5 (T.ds l2),D.sl 1 (List.map D.str n2),D.int .i64 p2],D.sl 1 b),L',L'.length).snd.snd.beq ((D.agg [D.int .i64 k2,D.str m2,D.sl 5 (T.ds l2),D.sl 1 (List.map D.str n2),D.int .i64 p2],D.sl 1 b),L',L'.length).snd.fst.length) (some (Out.ret (V.tup []),[(0,Ob.val 1 (V.sl 1 L'_1 1)),(1,Ob.tok L'_1.length)]))):=by kernel_rfl
theorem ycn(sp:D→D→List D→Option (List D))(p:D→List UInt8→Option Bool)(w:List UInt8→Bool)(c:D→D→Option (List D))(a:List UInt8→List D→Option (List D))(n:Nat)(b L:List D)(nm:List UInt8)(nms:List (List UInt8))(pl:Int)(k1:Int)(m1:List UInt8)(l1:List T)(n1:List (List UInt8))(p1:Int)(k2:Int)(m2:List UInt8)(l2:List T)(n2:List (List UInt8))(p2:Int):zn cx (zaq sp p w c a) n 88 [.d (.agg [.int .i64 5,.str nm,.sl 5 (T.ds [(T.mk k1 m1 l1 n1 p1),(T.mk k2 m2 l2 n2 p2)]),.sl 1 (nms.map .str),.int .i64 pl]),.d (.sl 1 b),.func 89 [.ptr 0 0]] (psN L)=zc (sp ((D.agg [D.int .i64 k1,D.str m1,D.sl 5 (T.ds l1),D.sl 1 (List.map D.str n1),D.int .i64 p1],D.sl 1 b),L,L.length).fst.fst ((D.agg [D.int .i64 k1,D.str m1,D.sl 5 (T.ds l1),D.sl 1 (List.map D.str n1),D.int .i64 p1],D.sl 1 b),L,L.length).fst.snd ((D.agg [D.int .i64 k1,D.str m1,D.sl 5 (T.ds l1),D.sl 1 (List.map D.str n1),D.int .i64 p1],D.sl 1 b),L,L.length).snd.fst) λ L'=>zb (((D.agg [D.int .i64 k1,D.str m1,D.sl 5 (T.ds l1),D.sl 1 (List.map D.str n1),D.int .i64 p1],D.sl 1 b),L,L.length).snd.snd.beq ((D.agg [D.int .i64 k1,D.str m1,D.sl 5 (T.ds l1),D.sl 1 (List.map D.str n1),D.int .i64 p1],D.sl 1 b),L,L.length).snd.fst.length) (zc (c (D.sl 1 b,D.sl 1 (List.map D.str nms)).fst (D.sl 1 b,D.sl 1 (List.map D.str nms)).snd) λ b=>zc (sp ((D.agg [D.int .i64 k2,D.str m2,D.sl 5 (T.ds l2),D.sl 1 (List.map D.str n2),D.int .i64 p2],D.sl 1 b),L',L'.length).fst.fst ((D.agg [D.int .i64 k2,D.str m2,D.sl 5 (T.ds l2),D.sl 1 (List.map D.str n2),D.int .i64 p2],D.sl 1 b),L',L'.length).fst.snd ((D.agg [D.int .i64 k2,D.str m2,D.sl 5 (T.ds l2),D.sl 1 (List.map D.str n2),D.int .i64 p2],D.sl 1 b),L',L'.length).snd.fst) λ L'_1=>zb (((D.agg [D.int .i64 k2,D.str m2,D.sl 5 (T.ds l2),D.sl 1 (List.map D.str n2),D.int .i64 p2],D.sl 1 b),L',L'.length).snd.snd.beq ((D.agg [D.int .i64 k2,D.str m2,D.sl 5 (T.ds l2),D.sl 1 (List.map D.str n2),D.int .i64 p2],D.sl 1 b),L',L'.length).snd.fst.length) (some (Out.ret (V.tup []),[(0,Ob.val 1 (V.sl 1 L'_1 1)),(1,Ob.tok L'_1.length)]))):=by kernel_rfl
theorem ycl(sp:D→D→List D→Option (List D))(p:D→List UInt8→Option Bool)(w:List UInt8→Bool)(c:D→D→Option (List D))(a:List UInt8→List D→Option (List D))(n:Nat)(b L:List D)(nm:List UInt8)(nms:List (List UInt8))(pl:Int)(k1:Int)(m1:List UInt8)(l1:List T)(n1:List (List UInt8))(p1:Int)(k2:Int)(m2:List UInt8)(l2:List T)(n2:List (List UInt8))(p2:Int):zn cx (zaq sp p w c a) n 88 [.d (.agg [.int .i64 7,.str nm,.sl 5 (T.ds [(T.mk k1 m1 l1 n1 p1),(T.mk k2 m2 l2 n2 p2)]),.sl 1 (nms.map .str),.int .i64 pl]),.d (.sl 1 b),.func 89 [.ptr 0 0]] (psN L)=zc (sp ((D.agg [D.int .i64 k1,D.str m1,D.sl 5 (T.ds l1),D.sl 1 (List.map D.str n1),D.int .i64 p1],D.sl 1 b),L,L.length).fst.fst ((D.agg [D.int .i64 k1,D.str m1,D.sl 5 (T.ds l1),D.sl 1 (List.map D.str n1),D.int .i64 p1],D.sl 1 b),L,L.length).fst.snd ((D.agg [D.int .i64 k1,D.str m1,D.sl 5 (T.ds l1),D.sl 1 (List.map D.str n1),D.int .i64 p1],D.sl 1 b),L,L.length).snd.fst) λ L'=>zb (((D.agg [D.int .i64 k1,D.str m1,D.sl 5 (T.ds l1),D.sl 1 (List.map D.str n1),D.int .i64 p1],D.sl 1 b),L,L.length).snd.snd.beq ((D.agg [D.int .i64 k1,D.str m1,D.sl 5 (T.ds l1),D.sl 1 (List.map D.str n1),D.int .i64 p1],D.sl 1 b),L,L.length).snd.fst.length) (some (Out.ret (V.tup []),[(0,Ob.val 1 (V.sl 1 L' 1)),(1,Ob.tok L'.length)])):=by kernel_rfl
theorem z87(sp:D→D→List D→Option (List D))(p:D→List UInt8→Option Bool)(w:List UInt8→Bool)(c:D→D→Option (List D))(a:List UInt8→List D→Option (List D))(n:Nat)(b L:List D)(nm:List UInt8)(nms:List (List UInt8))(pl:Int)(x:T)(kids:List T):zn cx (zaq sp p w c a) n 88 [.d (.agg [.int .i64 11,.str nm,.sl 5 (T.ds (x::kids)),.sl 1 (nms.map .str),.int .i64 pl]),.d (.sl 1 b),.func 89 [.ptr 0 0]] (psN L)=zb (decide ((1:Int)≤(↑(x.d::T.ds kids).length:Int))) (LP cx (zaq sp p w c a) n 88 2 20 n [(1,V.d (D.sl 1 b)),(2,V.func 89 [V.ptr 0 0]),(88,V.d (D.sl 5 (List.drop (1:Int).toNat (List.take (x.d::T.ds kids).length (x.d::T.ds kids))))),(89,V.d (D.int .i64 (↑(List.drop (1:Int).toNat (List.take (x.d::T.ds kids).length (x.d::T.ds kids))).length:Int))),(90,V.d (D.int .i64 (0:Int)))] [(0,Ob.val 1 (V.sl 1 L 1)),(1,Ob.tok L.length)] (AK cx (zaq sp p w c a) n 88 2 20 (EK cx 88 2))):=by kernel_rfl
theorem ycp(sp:D→D→List D→Option (List D))(p:D→List UInt8→Option Bool)(w:List UInt8→Bool)(c:D→D→Option (List D))(a:List UInt8→List D→Option (List D))(n:Nat)(b L:List D)(nm:List UInt8)(nms:List (List UInt8))(pl:Int)(kids:List T):zn cx (zaq sp p w c a) n 88 [.d (.agg [.int .i64 3,.str nm,.sl 5 (T.ds kids),.sl 1 (nms.map .str),.int .i64 pl]),.d (.sl 1 b),.func 89 [.ptr 0 0]] (psN L)=LP cx (zaq sp p w c a) n 88 2 3 n [(1,V.d (D.sl 1 b)),(2,V.func 89 [V.ptr 0 0]),(13,V.d (D.sl 5 (T.ds kids))),(14,V.d (D.int .i64 (↑(T.ds kids).length:Int))),(15,V.d (D.int .i64 (0:Int)))] [(0,Ob.val 1 (V.sl 1 L 1)),(1,Ob.tok L.length)] (AK cx (zaq sp p w c a) n 88 2 3 (EK cx 88 2)):=by kernel_rfl
theorem ycm(sp:D→D→List D→Option (List D))(p:D→List UInt8→Option Bool)(w:List UInt8→Bool)(c:D→D→Option (List D))(a:List UInt8→List D→Option (List D))(n:Nat)(b L:List D)(nm:List UInt8)(nms:List (List UInt8))(pl:Int)(kids:List T):zn cx (zaq sp p w c a) n 88 [.d (.agg [.int .i64 6,.str nm,.sl 5 (T.ds kids),.sl 1 (nms.map .str),.int .i64 pl]),.d (.sl 1 b),.func 89 [.ptr 0 0]] (psN L)=LP cx (zaq sp p w c a) n 88 2 3 n [(1,V.d (D.sl 1 b)),(2,V.func 89 [V.ptr 0 0]),(13,V.d (D.sl 5 (T.ds kids))),(14,V.d (D.int .i64 (↑(T.ds kids).length:Int))),(15,V.d (D.int .i64 (0:Int)))] [(0,Ob.val 1 (V.sl 1 L 1)),(1,Ob.tok L.length)] (AK cx (zaq sp p w c a) n 88 2 3 (EK cx 88 2)):=by kernel_rfl
theorem yck(sp:D→D→List D→Option (List D))(p:D→List UInt8→Option Bool)(w:List UInt8→Bool)(c:D→D→Option (List D))(a:List UInt8→List D→Option (List D))(n:Nat)(b L:List D)(nm:List UInt8)(nms:List (List UInt8))(pl:Int)(kids:List T):zn cx (zaq sp p w c a) n 88 [.d (.agg [.int .i64 8,.str nm,.sl 5 (T.ds kids),.sl 1 (nms.map .str),.int .i64 pl]),.d (.sl 1 b),.func 89 [.ptr 0 0]] (psN L)=LP cx (zaq sp p w c a) n 88 2 3 n [(1,V.d (D.sl 1 b)),(2,V.func 89 [V.ptr 0 0]),(13,V.d (D.sl 5 (T.ds kids))),(14,V.d (D.int .i64 (↑(T.ds kids).length:Int))),(15,V.d (D.int .i64 (0:Int)))] [(0,Ob.val 1 (V.sl 1 L 1)),(1,Ob.tok L.length)] (AK cx (zaq sp p w c a) n 88 2 3 (EK cx 88 2)):=by kernel_rfl
theorem ycj(sp:D→D→List D→Option (List D))(p:D→List UInt8→Option Bool)(w:List UInt8→Bool)(c:D→D→Option (List D))(a:List UInt8→List D→Option (List D))(n:Nat)(b L:List D)(nm:List UInt8)(nms:List (List UInt8))(pl:Int)(kids:List T):zn cx (zaq sp p w c a) n 88 [.d (.agg [.int .i64 9,.str nm,.sl 5 (T.ds kids),.sl 1 (nms.map .str),.int .i64 pl]),.d (.sl 1 b),.func 89 [.ptr 0 0]] (psN L)=LP cx (zaq sp p w c a) n 88 2 3 n [(1,V.d (D.sl 1 b)),(2,V.func 89 [V.ptr 0 0]),(13,V.d (D.sl 5 (T.ds kids))),(14,V.d (D.int .i64 (↑(T.ds kids).length:Int))),(15,V.d (D.int .i64 (0:Int)))] [(0,Ob.val 1 (V.sl 1 L 1)),(1,Ob.tok L.length)] (AK cx (zaq sp p w c a) n 88 2 3 (EK cx 88 2)):=by kernel_rfl
theorem z88(sp:D→D→List D→Option (List D))(p:D→List UInt8→Option Bool)(w:List UInt8→Bool)(c:D→D→Option (List D))(a:List UInt8→List D→Option (List D))(n:Nat)(b L:List D)(nm:List UInt8)(nms:List (List UInt8))(pl:Int)(kids:List T):zn cx (zaq sp p w c a) n 88 [.d (.agg [.int .i64 10,.str nm,.sl 5 (T.ds kids),.sl 1 (nms.map .str),.int .i64 pl]),.d (.sl 1 b),.func 89 [.ptr 0 0]] (psN L)=LP cx (zaq sp p w c a) n 88 2 3 n [(1,V.d (D.sl 1 b)),(2,V.func 89 [V.ptr 0 0]),(13,V.d (D.sl 5 (T.ds kids))),(14,V.d (D.int .i64 (↑(T.ds kids).length:Int))),(15,V.d (D.int .i64 (0:Int)))] [(0,Ob.val 1 (V.sl 1 L 1)),(1,Ob.tok L.length)] (AK cx (zaq sp p w c a) n 88 2 3 (EK cx 88 2)):=by kernel_rfl
theorem yhu(sp:D→D→List D→Option (List D))(p:D→List UInt8→Option Bool)(w:List UInt8→Bool)(c:D→D→Option (List D))(a:List UInt8→List D→Option (List D))(n k:Nat)(b L:List D)(kids:List T)(i:Int):LP cx (zaq sp p w c a) n 88 2 3 (k+1) [(1,V.d (D.sl 1 b)),(2,V.func 89 [V.ptr 0 0]),(13,V.d (D.sl 5 (T.ds kids))),(14,V.d (D.int .i64 (kids.length:Int))),(15,V.d (D.int .i64 i))] [(0,Ob.val 1 (V.sl 1 L 1)),(1,Ob.tok L.length)] (AK cx (zaq sp p w c a) n 88 2 3 (EK cx 88 2))=bif decide (i<(↑kids.length:Int)) then zb (decide (0≤i)&&decide (i<(↑(T.ds kids).length:Int))) (za (T.ds kids) i.toNat λ y=>za y.cells 0 λ c_1=>za y.cells 1 λ c_2=>za y.cells 2 λ c_3=>za y.cells 3 λ c_4=>za y.cells 4 λ c_5=>zc (sp ((D.agg [c_1,c_2,c_3,c_4,c_5],D.sl 1 b),L,L.length).fst.fst ((D.agg [c_1,c_2,c_3,c_4,c_5],D.sl 1 b),L,L.length).fst.snd ((D.agg [c_1,c_2,c_3,c_4,c_5],D.sl 1 b),L,L.length).snd.fst) λ L'=>zb (((D.agg [c_1,c_2,c_3,c_4,c_5],D.sl 1 b),L,L.length).snd.snd.beq ((D.agg [c_1,c_2,c_3,c_4,c_5],D.sl 1 b),L,L.length).snd.fst.length) (LP cx (zaq sp p w c a) n 88 2 3 k [(1,V.d (D.sl 1 b)),(2,V.func 89 [V.ptr 0 0]),(13,V.d (D.sl 5 (T.ds kids))),(14,V.d (D.int .i64 (↑kids.length:Int))),(15,V.d (D.int .i64 (IntKind.i64.wrap (i+(1:Int)))))] [(0,Ob.val 1 (V.sl 1 L' 1)),(1,Ob.tok L'.length)] (AK cx (zaq sp p w c a) n 88 2 3 (EK cx 88 2)))) else some (Out.ret (V.tup []),[(0,Ob.val 1 (V.sl 1 L 1)),(1,Ob.tok L.length)]):=by kernel_rfl
theorem yfl(sp:D→D→List D→Option (List D))(p:D→List UInt8→Option Bool)(w:List UInt8→Bool)(c:D→D→Option (List D))(a:List UInt8→List D→Option (List D))(n k:Nat)(b L:List D)(kids:List T)(i:Int):LP cx (zaq sp p w c a) n 88 2 20 (k+1) [(1,V.d (D.sl 1 b)),(2,V.func 89 [V.ptr 0 0]),(88,V.d (D.sl 5 (T.ds kids))),(89,V.d (D.int .i64 (kids.length:Int))),(90,V.d (D.int .i64 i))] [(0,Ob.val 1 (V.sl 1 L 1)),(1,Ob.tok L.length)] (AK cx (zaq sp p w c a) n 88 2 20 (EK cx 88 2))=bif decide (i<(↑kids.length:Int)) then zb (decide (0≤i)&&decide (i<(↑(T.ds kids).length:Int))) (za (T.ds kids) i.toNat λ y=>za y.cells 0 λ c_1=>za y.cells 1 λ c_2=>za y.cells 2 λ c_3=>za y.cells 3 λ c_4=>za y.cells 4 λ c_5=>zc (sp ((D.agg [c_1,c_2,c_3,c_4,c_5],D.sl 1 b),L,L.length).fst.fst ((D.agg [c_1,c_2,c_3,c_4,c_5],D.sl 1 b),L,L.length).fst.snd ((D.agg [c_1,c_2,c_3,c_4,c_5],D.sl 1 b),L,L.length).snd.fst) λ L'=>zb (((D.agg [c_1,c_2,c_3,c_4,c_5],D.sl 1 b),L,L.length).snd.snd.beq ((D.agg [c_1,c_2,c_3,c_4,c_5],D.sl 1 b),L,L.length).snd.fst.length) (LP cx (zaq sp p w c a) n 88 2 20 k [(1,V.d (D.sl 1 b)),(2,V.func 89 [V.ptr 0 0]),(88,V.d (D.sl 5 (T.ds kids))),(89,V.d (D.int .i64 (↑kids.length:Int))),(90,V.d (D.int .i64 (IntKind.i64.wrap (i+(1:Int)))))] [(0,Ob.val 1 (V.sl 1 L' 1)),(1,Ob.tok L'.length)] (AK cx (zaq sp p w c a) n 88 2 20 (EK cx 88 2)))) else some (Out.ret (V.tup []),[(0,Ob.val 1 (V.sl 1 L 1)),(1,Ob.tok L.length)]):=by kernel_rfl
theorem yf2(p:D→List UInt8→Option Bool)(n:Nat)(L:List D)(s:List UInt8):zn cx (ygd p) n 89 [.d (.str s),.ptr 0 0] (psN L)=zc (p (D.sl 1 L,s).fst (D.sl 1 L,s).snd) λ b=>bif !b then zb (decide (L.length=L.length)&&decide (L.length+[D.str s].length≤4294967296)) (some (Out.ret (V.tup []),[(0,Ob.val 1 (V.sl 1 (L++[D.str s]) 1)),(1,Ob.tok (L.length+[D.str s].length))])) else some (Out.ret (V.tup []),[(0,Ob.val 1 (V.sl 1 L 1)),(1,Ob.tok L.length)]):=by kernel_rfl
theorem yh8(sp:D→D→List D→Option (List D))(n:Nat)(l:List T):zn cx (zr4 sp) n 52 [.d (.sl 5 (T.ds l))] []=LP cx (zr4 sp) n 52 0 3 n [(3,V.ptr 3 0),(6,V.d (D.sl 5 (T.ds l))),(7,V.d (D.int .i64 (↑(T.ds l).length:Int))),(8,V.d (D.int .i64 (0:Int)))] [(3,Ob.val 1 (V.sl 1 [] 20)),(20,Ob.tok 0)] (AK cx (zr4 sp) n 52 0 3 (EK cx 52 0)):=by kernel_rfl
theorem yfp(sp:D→D→List D→Option (List D))(n k:Nat)(l:List T)(L:List D)(i:Int):LP cx (zr4 sp) n 52 0 3 (k+1) [(3,V.ptr 3 0),(6,V.d (D.sl 5 (T.ds l))),(7,V.d (D.int .i64 (l.length:Int))),(8,V.d (D.int .i64 i))] [(3,Ob.val 1 (V.sl 1 L 20)),(20,Ob.tok L.length)] (AK cx (zr4 sp) n 52 0 3 (EK cx 52 0))=bif decide (i<(↑l.length:Int)) then zb (decide (0≤i)&&decide (i<(↑(T.ds l).length:Int))) (za (T.ds l) i.toNat λ y=>za y.cells 0 λ c=>za y.cells 1 λ c_1=>za y.cells 2 λ c_2=>za y.cells 3 λ c_3=>za y.cells 4 λ c_4=>zc (sp ((D.agg [c,c_1,c_2,c_3,c_4],D.sl 1 []),L,L.length).fst.fst ((D.agg [c,c_1,c_2,c_3,c_4],D.sl 1 []),L,L.length).fst.snd ((D.agg [c,c_1,c_2,c_3,c_4],D.sl 1 []),L,L.length).snd.fst) λ L'=>zb (((D.agg [c,c_1,c_2,c_3,c_4],D.sl 1 []),L,L.length).snd.snd.beq ((D.agg [c,c_1,c_2,c_3,c_4],D.sl 1 []),L,L.length).snd.fst.length) (LP cx (zr4 sp) n 52 0 3 k [(3,V.ptr 3 0),(6,V.d (D.sl 5 (T.ds l))),(7,V.d (D.int .i64 (↑l.length:Int))),(8,V.d (D.int .i64 (IntKind.i64.wrap (i+(1:Int)))))] [(3,Ob.val 1 (V.sl 1 L' 20)),(20,Ob.tok L'.length)] (AK cx (zr4 sp) n 52 0 3 (EK cx 52 0)))) else some (Out.ret (V.d (D.sl 1 L)),[]):=by kernel_rfl
theorem yf1(p:D→List UInt8→Option Int)(n:Nat)(l:List D)(s:List UInt8):zn cx (z7 132 zgz (λ q=>p q.1 q.2) mkI (CK.plain zo)) n 90 [.d (.sl 1 l),.d (.str s)] []=zc (p (.sl 1 l) s) λ b=>some (.ret (.d (.bool (decide ((0:Int)≤b)))),[]):=by kernel_rfl
theorem yg2(l:List (List UInt8))(s:List UInt8)(hl:yn l=true):zj cx 90 [.d (.sl 1 (l.map .str)),.d (.str s)] []=some (.ret (mkB (y4 s l)),[]):=by
 have hk:knows cx (z7 132 zgz (λ q=>(λ (x:D) s=>zc (zbz x) λ l=>some (wi (λ x=>decide (s=x)) l)) q.1 q.2) mkI (CK.plain zo)).S (zj cx):=zk zp λ a q b hd h hb=>by
  obtain rfl:=zhx h;obtain ⟨l,hl,hb⟩:=zd hb;cases hb;obtain ⟨h1,h2⟩:=za9 hl;rw [h1];exact yg8 l q.2 h2
 refine zm hk (N:=0) ?_;refine (yf1 (λ (x:D) s=>zc (zbz x) λ l=>some (wi (λ x=>decide (s=x)) l)) 0 _ s).trans ?_;rw [zdb hl];show some (Out.ret (mkB (decide ((0:Int)≤wi (λ x=>decide (s=x)) l))),[])=_;rw [zhp];have:(l.any λ x=>decide (s=x))=y4 s l:=by
  unfold y4;congr 1;funext x;by_cases h:s=x
  ·subst h; rfl
  ·rw [pb h,pb (λ e=>h e.symm)]
 rw [this]
def p90(x:D)(s:List UInt8):Option Bool:=zc (zbz x) λ l=>some (y4 s l)
theorem zsr{f:List V}{q:D×List UInt8}{b:Bool}(h:zgz f=some q)(hb:p90 q.1 q.2=some b):zj cx 90 f []=some (.ret (mkB b),[]):=by
 obtain rfl:=zhx h;obtain ⟨l,hl,hb⟩:=zd hb;cases hb;obtain ⟨h1,h2⟩:=za9 hl;rw [h1];exact yg2 l q.2 h2
theorem m89(l:List (List UInt8))(s:List UInt8)(hl:l.length+1<4294967296):zj cx 89 [.d (.str s),.ptr 0 0] (psN (l.map .str))=some (.ret (.tup []),psN ((zb9 l s).map .str)):=by
 have hk:knows cx (ygd p90).S (zj cx):=zk zp λ a q b hd h hb=>zsr h hb;refine zm hk (N:=0) ?_;rw [yf2];show zc (p90 (.sl 1 (l.map .str)) s) _=_;unfold p90;rw [zdb (pa (by omega))]
 unfold zb9;show (bif !y4 s l then _ else _)=_;cases y4 s l
 ·simp only [Bool.not_false,pw,px];rw [pa (p:=(l.map D.str).length+[D.str s].length≤4294967296) (by simp only [ph,py,pz]; omega)]
  simp only [zb,decide_true,Bool.and_self,pw,psN,List.map_append,List.map_cons,List.map_nil,pe]
 ·rfl
mutual
def xx:T→List (List UInt8)→List (List UInt8)→List (List UInt8)
 | .mk k nm kids nms _,b,acc=>bif decide (k=1) then (bif y4 nm b||xo nm then acc else zb9 acc nm) else qg kids k nms b 0 acc
def qg:List T→Int→List (List UInt8)→List (List UInt8)→Nat→List (List UInt8)→List (List UInt8)
 | [],_,_,_,_,acc=>acc
 | t::r,k,nms,b,i,acc=>qg r k nms b (i+1)
   (bif (decide (k=7)&&decide (i=1))||(decide (k=11)&&decide (i=0)) then acc
    else xx t (bif decide (k=2)||(decide (i=1)&&(decide (k=4)||decide (k=5))) then b++nms else b) acc)
end
mutual
def zcu:T→Nat
 | .mk _ _ kids nms _=>1+nms.length+x7 kids
def x7:List T→Nat
 | []=>0
 | t::l=>zcu t+x7 l
end
theorem z71(l:List (List UInt8))(s:List UInt8):(zb9 l s).length≤l.length+1:=by
 unfold zb9;cases y4 s l <;> simp
mutual
theorem zf8:∀ (t:T) (b acc:List (List UInt8)),(xx t b acc).length≤acc.length+zcu t
 | .mk k nm kids nms _,b,acc=>by
  unfold xx;have h1:=zw9 kids k nms b 0 acc;have h2:=z71 acc nm;unfold zcu;cases decide (k=1)
  ·simp only [px]; omega
  ·simp only [pw];cases y4 nm b||xo nm
   ·simp only [px]; omega
   ·simp only [pw]; omega
theorem zw9:∀ (l:List T) (k:Int) (nms b:List (List UInt8)) (i:Nat) (acc:List (List UInt8)),(qg l k nms b i acc).length≤acc.length+x7 l
 | [],k,nms,b,i,acc=>by simp [qg]
 | t::r,k,nms,b,i,acc=>by
  unfold qg x7;refine Nat.le_trans (zw9 r k nms b (i+1) _) ?_;cases (decide (k=7)&&decide (i=1))||(decide (k=11)&&decide (i=0))
  ·simp only [px];have:=zf8 t (bif decide (k=2)||(decide (i=1)&&(decide (k=4)||decide (k=5))) then b++nms else b) acc
   omega
  ·simp only [pw]; omega
end
def wa(b acc:List (List UInt8))(l:List T):List (List UInt8):=l.foldl (λ a t=>xx t b a) acc
theorem z6c{k:Int}{nms b:List (List UInt8)}(h2:k ≠ 2)(h4:k ≠ 4)(h5:k ≠ 5)(h7:k ≠ 7)(h11:k ≠ 11):∀ (l:List T) (i:Nat) (acc:List (List UInt8)),qg l k nms b i acc=wa b acc l
 | [],i,acc=>by simp [qg,wa]
 | t::r,i,acc=>by
  unfold qg;rw [pb h2,pb h4,pb h5,pb h7,pb h11];simp only [Bool.false_and,Bool.or_false,Bool.and_false,px];exact z6c h2 h4 h5 h7 h11 r (i+1) _
theorem z6b{nms b:List (List UInt8)}:∀ (l:List T) (i:Nat) (acc:List (List UInt8)),0<i→qg l 11 nms b i acc=wa b acc l
 | [],i,acc,_=>by simp [qg,wa]
 | t::r,i,acc,hi=>by
  unfold qg;rw [pb (p:=i=0) (by omega),show decide ((11:Int)=7)=false from rfl,show decide ((11:Int)=2)=false from rfl,show decide ((11:Int)=4)=false from rfl,show decide ((11:Int)=5)=false from rfl]
  simp only [Bool.false_and,Bool.or_false,Bool.and_false,px];exact z6b r (i+1) _ (Nat.succ_pos _)
theorem zj0{R α S:Type}(L:Nat→Int→S→Option R)(xs:List α)(step:S→α→S)(I:Nat→S→Prop)(E:S→Option R)(hs:xs.length<4294967296)
  (H:∀ (k j:Nat) x s,j<xs.length→xs[j]?=some x→I j s→L (k+1) j s=L k (IntKind.i64.wrap ((j:Int)+1)) (step s x)∧I (j+1) (step s x)) (HE:∀ k s,L (k+1) xs.length s=E s) {s:S} (h0:I 0 s) {k:Nat} (hk:xs.length<k) :
  L k 0 s=E (xs.foldl step s):=by
 have key:∀ (d j:Nat) (k:Nat) (s:S),j+d=xs.length→d<k→I j s→L k j s=E ((xs.drop j).foldl step s):=by
  intro d
  induction d with
  | zero=>
   intro j k s hj hk hi;obtain ⟨k,rfl⟩:∃ k',k=k'+1:=⟨k - 1,by omega⟩
   obtain rfl:j=xs.length:=by omega
   rw [HE,List.drop_length]; rfl
  | succ d ih=>
   intro j k s hj hk hi;obtain ⟨k,rfl⟩:∃ k',k=k'+1:=⟨k - 1,by omega⟩
   have hlt:j<xs.length:=by omega
   obtain ⟨h1,h2⟩:=H k j xs[j] s hlt (p4 hlt) hi;rw [h1,IntWalk.i64_in _ (by omega)]
   have e:((j:Int)+1)=((j+1:Nat):Int):=by omega
   rw [e,ih (j+1) k _ (by omega) (by omega) h2,List.drop_eq_getElem_cons hlt]
   rfl
 have:=key xs.length 0 k s (by omega) hk h0
 rw [List.drop_zero] at this;exact this
def okG(t:T)(b l:List (List UInt8)):Bool:=(zg t||ym t)&&decide (b.length+zcu t<2147483648)&&decide (l.length+zcu t<2147483648)
def zbi(m:Nat)(x y:D)(L:List D):Option (List D):=zc (zi m x) λ t=>zc (zbz y) λ b=>zc (strsOf L) λ l=>zb (okG t b l) (some ((xx t b l).map .str))
def zeh(x y:D):Option (List D):=zc (zbz x) λ a=>zc (zbz y) λ b=>zb (decide (a.length+b.length<4294967296)) (some ((a++b).map .str))
def a89(s:List UInt8)(L:List D):Option (List D):=zc (strsOf L) λ l=>zb (decide (l.length+1<4294967296)) (some ((zb9 l s).map .str))
theorem zx0{a:List V}{σ:St}{q L n}(h:zqk a σ=some (q,(L,n))):a=[.d q.1,.d q.2,.func 89 [.ptr 0 0]]∧pdN σ=some (L,n):=by
 unfold zqk at h;split at h
 ·obtain ⟨p,hp,h⟩:=zd h;cases h;exact ⟨rfl,hp⟩
 ·cases h
theorem zxz{a:List V}{σ:St}{q L n}(h:zzs a σ=some (q,(L,n))):a=[.d (.str q),.ptr 0 0]∧pdN σ=some (L,n):=by
 unfold zzs at h;split at h
 ·obtain ⟨p,hp,h⟩:=zd h;cases h;exact ⟨rfl,hp⟩
 ·cases h
theorem zx3{a:List V}{q}(h:zzx a=some q):a=[.d (.sl 1 [q.1,q.2])]:=by
 unfold zzx at h; split at h <;> cases h; rfl
def zuy(m:Nat):Prop:=∀ (t:T) (b l:List (List UInt8)),t.depth≤m→t.ok=true→okG t b l=true→zj cx 88 [.d t.d,.d (.sl 1 (b.map .str)),.func 89 [.ptr 0 0]] (psN (l.map .str))=some (.ret (.tup []),psN ((xx t b l).map .str))
theorem zo1{m:Nat}(hm:zuy m){S:CK R1}(hS:knows cx S.S (zj cx)):knows cx (stK 88 zqk (λ q=>zbi m q.1 q.2) S).S (zj cx):=zsf hS λ a σ q L n L' hd hn h=>by
 obtain ⟨rfl,hp⟩:=zx0 hd;obtain ⟨t,ht,h⟩:=zd h;obtain ⟨b,hb,h⟩:=zd h;obtain ⟨l,hl,h⟩:=zd h;obtain ⟨ho,h⟩:=zf h;cases h;obtain ⟨h1,h2,h3⟩:=xl ht;rw [h1,(za9 hb).1,zwi hp hn,zf0 hl];exact hm t b l h2 h3 ho
theorem z3u{m:Nat}(hm:zuy m):knows cx (zaq (zbi m) p90 xo zeh a89).S (zj cx):=
 zo1 hm <| zsf (zk (zk (zk zp λ a q b hd h hb=>by
   obtain rfl:=zx3 h;obtain ⟨x,hx,hb⟩:=zd hb;obtain ⟨y,hy,hb⟩:=zd hb;obtain ⟨h1,hb⟩:=zf hb;cases hb;have:=pc h1;rw [(za9 hx).1,(za9 hy).1];exact yg9 x y (by omega)) λ a q b hd h hb=>by
   cases hb;obtain rfl:=qi h;exact yha q) λ a q b hd h hb=>zsr h hb) λ a σ q L n L' hd hn h=>by
  obtain ⟨rfl,hp⟩:=zxz hd;obtain ⟨l,hl,h⟩:=zd h;obtain ⟨ho,h⟩:=zf h;cases h;rw [zwi hp hn,zf0 hl];exact m89 l q (pc ho)
theorem zjs{m:Nat}{t:T}{b l:List (List UInt8)}(hd:t.depth≤m)(ho:t.ok=true)(h:okG t b l=true):zbi m t.d (.sl 1 (b.map .str)) (l.map .str)=some ((xx t b l).map .str):=by
 have hb:yn b=true:=by
  unfold okG at h;rw [pm,pm] at h;have:=pc h.1.2;exact pa (by omega)
 unfold zbi;rw [zeq hd ho,zdb hb,zg6];show zb (okG t b l) _=_;rw [h];rfl
theorem zci{t:T}{b l:List (List UInt8)}:okG t b l=true↔(zg t||ym t)=true∧b.length+zcu t<2147483648∧l.length+zcu t<2147483648:=by
 unfold okG;rw [pm,pm,decide_eq_true_eq,decide_eq_true_eq,and_assoc]
theorem z5k{m:Nat}(n:Nat)(b acc:List (List UInt8))(kids:List T)(hk:kids.length<n)(hs:yn kids=true)(hd:∀ t∈kids,t.depth≤m∧t.ok=true∧(zg t||ym t)=true)
  (hb:b.length+x7 kids<2147483648) (ha:acc.length+x7 kids<2147483648) (blk:Nat) (v1 v2 v3:Nat)
  (HL:∀ (k:Nat) (L:List D) (i:Int),(λ (k:Nat) (i:Int) (L:List D)=>LP cx (zaq (zbi m) p90 xo zeh a89) n 88 2 blk k [(1,V.d (D.sl 1 (b.map .str))),(2,V.func 89 [V.ptr 0 0]),(v1,V.d (D.sl 5 (T.ds kids))),(v2,V.d (D.int .i64 (kids.length:Int))),(v3,V.d (D.int .i64 i))] [(0,Ob.val 1 (V.sl 1 L 1)),(1,Ob.tok L.length)] (AK cx (zaq (zbi m) p90 xo zeh a89) n 88 2 blk (EK cx 88 2))) (k+1) i L =
   bif decide (i<(kids.length:Int)) then zb (decide (0≤i)&&decide (i<((T.ds kids).length:Int))) (za (T.ds kids) i.toNat λ y=>
    za y.cells 0 λ c_1=>za y.cells 1 λ c_2=>za y.cells 2 λ c_3=>za y.cells 3 λ c_4=>za y.cells 4 λ c_5=>
     zc (zbi m (D.agg [c_1,c_2,c_3,c_4,c_5]) (D.sl 1 (b.map .str)) L) λ L'=>zb (L.length.beq L.length)
      ((λ (k:Nat) (i:Int) (L:List D)=>LP cx (zaq (zbi m) p90 xo zeh a89) n 88 2 blk k [(1,V.d (D.sl 1 (b.map .str))),(2,V.func 89 [V.ptr 0 0]),(v1,V.d (D.sl 5 (T.ds kids))),(v2,V.d (D.int .i64 (kids.length:Int))),(v3,V.d (D.int .i64 i))] [(0,Ob.val 1 (V.sl 1 L 1)),(1,Ob.tok L.length)] (AK cx (zaq (zbi m) p90 xo zeh a89) n 88 2 blk (EK cx 88 2))) k (IntKind.i64.wrap (i+1)) L'))
   else some (Out.ret (V.tup []),[(0,Ob.val 1 (V.sl 1 L 1)),(1,Ob.tok L.length)])) :
  LP cx (zaq (zbi m) p90 xo zeh a89) n 88 2 blk n [(1,V.d (D.sl 1 (b.map .str))),(2,V.func 89 [V.ptr 0 0]),(v1,V.d (D.sl 5 (T.ds kids))),(v2,V.d (D.int .i64 (kids.length:Int))),(v3,V.d (D.int .i64 0))] (psN (acc.map .str)) (AK cx (zaq (zbi m) p90 xo zeh a89) n 88 2 blk (EK cx 88 2)) =
   some (.ret (.tup []),psN ((wa b acc kids).map .str)):=by
 have h:=zj0 (λ k i (l:List (List UInt8))=>LP cx (zaq (zbi m) p90 xo zeh a89) n 88 2 blk k [(1,V.d (D.sl 1 (b.map .str))),(2,V.func 89 [V.ptr 0 0]),(v1,V.d (D.sl 5 (T.ds kids))),(v2,V.d (D.int .i64 (kids.length:Int))),(v3,V.d (D.int .i64 i))] [(0,Ob.val 1 (V.sl 1 (l.map .str) 1)),(1,Ob.tok (l.map D.str).length)] (AK cx (zaq (zbi m) p90 xo zeh a89) n 88 2 blk (EK cx 88 2)))
  kids (λ a t=>xx t b a) (λ j l=>l.length+x7 (kids.drop j)<2147483648) (λ l=>some (.ret (.tup []),psN (l.map .str))) (yp hs)
  (λ k j x l hj hx hi=>by
   have hmem:=pq hx;obtain ⟨h1,h2,h3⟩:=hd x hmem;have hdr:kids.drop j=x::kids.drop (j+1):=by
    have:=List.drop_eq_getElem_cons hj;rw [p4 hj] at hx;cases hx;exact this
   have hc:∀ {l:List T},x∈l→zcu x≤x7 l:=by
    intro l
    induction l with
    | nil=>intro h; cases h
    | cons y r ih=>
     intro h;simp only [x7];cases h with
     | head=>omega
     | tail _ h=>have:=ih h; omega
   have hc:=hc hmem;rw [hdr] at hi;simp only [x7] at hi;have hg:=zf8 x b l;refine ⟨?_,by omega⟩
   refine (HL k (l.map .str) j).trans ?_;rw [yf hj,zu,yf hj,y8,yh,po,hx];show za x.d.cells 0 _=_;rw [yk];simp only [xu,vk,vj,vi,vh,we];rw [zjs h1 h2 (zci.2 ⟨h3,by omega,by omega⟩)]
   show zb _ _=_;rw [Nat.beq_refl];rfl)
  (λ k l=>by
   refine (HL k (l.map .str) kids.length).trans ?_;rw [yw,px];rfl) (s:=acc) (by rw [List.drop_zero]; exact ha) hk
 exact h
inductive Shp (k:Int) (kids:List T):Prop
 | nam (h:k=1) (e:kids=[])
 | lam (h:k=2) {a:T} (e:kids=[a]) (ha:zg a=true)
 | all (h:k=3∨k=6∨k=8∨k=9∨k=10) (ha:∀ t∈kids,(zg t||ym t)=true)
 | pi (h:k=4∨k=5) {a b:T} (e:kids=[a,b]) (ha:zg a=true) (hb:zg b=true)
 | at (h:k=7) {a b:T} (e:kids=[a,b]) (ha:zg a=true)
 | elem (h:k=11) {f:T} {r:List T} (e:kids=f::r) (ha:∀ t∈r,(zg t||ym t)=true)
theorem z40{k:Int}{nm:List UInt8}{kids:List T}{nms:List (List UInt8)}{pl:Int}(h:(zg (.mk k nm kids nms pl)||ym (.mk k nm kids nms pl))=true):Shp k kids:=by
 rw [Bool.or_eq_true] at h;rcases h with h | h
 ·rcases kids with _ | ⟨a,_ | ⟨b,_ | ⟨c,l⟩⟩⟩
  ·simp only [zg,pm,Bool.or_eq_true,decide_eq_true_eq] at h;rcases h.2 with h | h
   ·exact .nam h.1 rfl
   ·exact .all (by omega) λ t ht=>by cases ht
  ·simp only [zg,pm,Bool.or_eq_true,decide_eq_true_eq] at h;rcases h.2 with ⟨⟨⟨h1 | h1,_⟩,_⟩,h2⟩ | ⟨⟨h1,_⟩,h2⟩
   ·exact .lam h1 rfl h2
   ·exact .all (by omega) λ t ht=>by
     rw [List.mem_singleton] at ht; subst ht; rw [h2]; rfl
   ·exact .all (by omega) λ t ht=>by
     rw [List.mem_singleton] at ht; subst ht; rw [h2,Bool.or_true]
  ·simp only [zg,pm,Bool.or_eq_true,decide_eq_true_eq] at h;rcases h.2 with ((h1 | h1) | h1) | h1
   ·exact .pi h1.1.1.1.1 rfl h1.1.2 h1.2
   ·exact .all (by omega) λ t ht=>by
     simp only [List.mem_cons,List.not_mem_nil,or_false] at ht;rcases ht with rfl | rfl
     ·rw [h1.1.2]; rfl
     ·rw [h1.2]; rfl
   ·exact .at h1.1.1.1 rfl h1.1.2
   ·exact .all (by omega) λ t ht=>by
     simp only [List.mem_cons,List.not_mem_nil,or_false] at ht;rcases ht with rfl | rfl
     ·rw [h1.1.2,Bool.or_true]
     ·rw [h1.2,Bool.or_true]
  ·simp only [zg,pm,decide_eq_true_eq,zgw] at h;obtain ⟨⟨⟨_,h0⟩,_⟩,⟨⟨h1,h2⟩,h3⟩,h4⟩:=h;exact .all (by omega) λ t ht=>by
    simp only [List.mem_cons] at ht;rcases ht with rfl | rfl | rfl | ht
    ·rw [h1,Bool.or_true]
    ·rw [h2,Bool.or_true]
    ·rw [h3,Bool.or_true]
    ·rw [List.all_eq_true.1 h4 t ht,Bool.or_true]
 ·rcases kids with _ | ⟨a,_ | ⟨b,_ | ⟨c,l⟩⟩⟩
  ·simp [ym] at h
  ·simp only [ym,pm,decide_eq_true_eq] at h;exact .elem h.1.1.1 rfl λ t ht=>by cases ht
  ·simp only [ym,pm,decide_eq_true_eq] at h;exact .elem h.1.1.1.1 rfl λ t ht=>by
    rw [List.mem_singleton] at ht; subst ht; rw [h.2]; rfl
  ·simp [ym] at h
theorem xm{R:Type}(x:Option R):zb true x=x:=rfl
theorem z1q{a b:List (List UInt8)}(h:a.length+b.length<4294967296):zeh (.sl 1 (a.map .str)) (.sl 1 (b.map .str))=some ((a++b).map .str):=by
 unfold zeh;rw [zdb (pa (by omega)),zdb (pa (by omega))]
 show zb (decide (a.length+b.length<4294967296)) _=_;rw [pa h];rfl
theorem yao{b:List (List UInt8)}{s:List UInt8}(h:yn b=true):p90 (.sl 1 (b.map .str)) s=some (y4 s b):=by
 unfold p90;rw [zdb h]; rfl
theorem yct{l:List (List UInt8)}{s:List UInt8}(h:l.length+1<4294967296):a89 s (l.map .str)=some ((zb9 l s).map .str):=by
 unfold a89;rw [zg6];show zb (decide (l.length+1<4294967296)) _=_;rw [pa h];rfl
theorem zbv{t:T}:∀ {l:List T},t∈l→t.depth≤T.depths l
 | u::l,h=>by
  simp only [T.depths];cases h with
  | head=>omega
  | tail _ h=>have:=zbv h; omega
theorem m88:∀ m,zuy m
 | 0=>λ t b l hd _ _=>by cases t; simp only [T.depth] at hd; omega
 | m+1=>λ t b l hd ho hg=>by
  obtain ⟨k,nm,kids,nms,pl⟩:=t;obtain ⟨hr,hb,hl⟩:=zci.1 hg;have hsh:=z40 hr;have ho2:=ho;simp only [T.ok,pm] at ho2;obtain ⟨⟨⟨⟨o1,o2⟩,o3⟩,o4⟩,o5⟩:=ho2;simp only [T.depth] at hd;simp only [zcu] at hb hl;have hbs:yn b=true:=pa (by omega)
  refine zm (z3u (m88 m)) (N:=kids.length+1) ?_;have kid:∀ t∈kids,t.depth≤m∧t.ok=true:=λ t ht=>⟨by have:=zbv ht; omega,wx o5 ht⟩
  cases hsh with
  | nam h e=>
   subst h; subst e;refine (ycr (zbi m) p90 xo zeh a89 _ _ _ _ _ _).trans ?_;show zc (p90 (.sl 1 (b.map .str)) nm) _=_;rw [yao hbs];show (bif !y4 nm b then zb (decide (nm.length≤big)) (bif !xo nm then zc (a89 nm (l.map .str)) _ else _) else _)=_;rw [zaj o1,yct (by omega)]
   show _=some (Out.ret (V.tup []),psN ((bif y4 nm b||xo nm then l else zb9 l nm).map .str))
   cases y4 nm b
   ·cases xo nm
    ·show zb (Nat.beq _ _) _=_;rw [Nat.beq_refl];rfl
    ·rfl
   ·rfl
  | lam h e ha=>
   subst h; subst e;rename_i a;obtain ⟨k1,m1,l1,n1,p1⟩:=a;obtain ⟨d1,d2⟩:=kid _ (List.mem_singleton.2 rfl);simp only [x7] at hb hl;refine (ycq (zbi m) p90 xo zeh a89 _ _ _ _ _ _ _ _ _ _ _).trans ?_;show zc (zeh (.sl 1 (b.map .str)) (.sl 1 (nms.map .str))) _=_;rw [z1q (by omega)]
   show zc (zbi m (T.mk k1 m1 l1 n1 p1).d (.sl 1 ((b++nms).map .str)) (l.map .str)) _=_;rw [zjs d1 d2 (zci.2 ⟨by rw [ha]; rfl,by rw [pe]; omega,by omega⟩)]
   show zb (Nat.beq _ _) _=_;rw [Nat.beq_refl];rfl
  | all h ha=>
   have e:xx (.mk k nm kids nms pl) b l=wa b l kids:=by
    unfold xx;rw [pb (p:=k=1) (by omega),px]
    exact z6c (by omega) (by omega) (by omega) (by omega) (by omega) kids 0 l
   rw [e];have hloop:=z5k (m:=m) (kids.length+1) b l kids (Nat.lt_succ_self _) o2 (λ t ht=>⟨(kid t ht).1,(kid t ht).2,ha t ht⟩) (by omega) (by omega) 3 13 14 15 (λ k L i=>yhu (zbi m) p90 xo zeh a89 _ k _ L kids i)
   have lds:=zu kids;rcases h with rfl | rfl | rfl | rfl | rfl
   ·have g:=ycp (zbi m) p90 xo zeh a89 (kids.length+1) (b.map .str) (l.map .str) nm nms pl kids;rw [lds] at g;exact g.trans hloop
   ·have g:=ycm (zbi m) p90 xo zeh a89 (kids.length+1) (b.map .str) (l.map .str) nm nms pl kids;rw [lds] at g;exact g.trans hloop
   ·have g:=yck (zbi m) p90 xo zeh a89 (kids.length+1) (b.map .str) (l.map .str) nm nms pl kids;rw [lds] at g;exact g.trans hloop
   ·have g:=ycj (zbi m) p90 xo zeh a89 (kids.length+1) (b.map .str) (l.map .str) nm nms pl kids;rw [lds] at g;exact g.trans hloop
   ·have g:=z88 (zbi m) p90 xo zeh a89 (kids.length+1) (b.map .str) (l.map .str) nm nms pl kids;rw [lds] at g;exact g.trans hloop
  | pi h e ha hb2=>
   subst e;rename_i a c;obtain ⟨k1,m1,l1,n1,p1⟩:=a;obtain ⟨k2,m2,l2,n2,p2⟩:=c;obtain ⟨d1,d2⟩:=kid (T.mk k1 m1 l1 n1 p1) (by simp)
   obtain ⟨d3,d4⟩:=kid (T.mk k2 m2 l2 n2 p2) (by simp)
   simp only [x7] at hb hl;have hgl:=zf8 (T.mk k1 m1 l1 n1 p1) b l
   have fin:zc (zbi m (T.mk k1 m1 l1 n1 p1).d (.sl 1 (b.map .str)) (l.map .str)) (λ L'=>zb (Nat.beq (l.map D.str).length (l.map D.str).length) (zc (zeh (.sl 1 (b.map .str)) (.sl 1 (nms.map .str))) λ b=>zc (zbi m (T.mk k2 m2 l2 n2 p2).d (.sl 1 b) L') λ L''=>zb (Nat.beq L'.length L'.length) (some (Out.ret (V.tup []),psN L'')))) =
     some (Out.ret (V.tup []),psN ((xx (T.mk k2 m2 l2 n2 p2) (b++nms) (xx (T.mk k1 m1 l1 n1 p1) b l)).map .str)):=by
    rw [zjs d1 d2 (zci.2 ⟨by rw [ha]; rfl,by omega,by omega⟩)]
    show zb (Nat.beq _ _) _=_;rw [Nat.beq_refl,z1q (by omega)]
    show zc (zbi m (T.mk k2 m2 l2 n2 p2).d (.sl 1 ((b++nms).map .str)) ((xx (T.mk k1 m1 l1 n1 p1) b l).map .str)) _=_;rw [zjs d3 d4 (zci.2 ⟨by rw [hb2]; rfl,by rw [pe]; omega,by omega⟩)]
    show zb (Nat.beq _ _) _=_;rw [Nat.beq_refl];rfl
   rcases h with rfl | rfl
   ·exact (yco (zbi m) p90 xo zeh a89 _ _ _ _ _ _ _ _ _ _ _ _ _ _ _ _).trans fin
   ·exact (ycn (zbi m) p90 xo zeh a89 _ _ _ _ _ _ _ _ _ _ _ _ _ _ _ _).trans fin
  | «at» h e ha=>
   subst h; subst e;rename_i a c;obtain ⟨k1,m1,l1,n1,p1⟩:=a;obtain ⟨k2,m2,l2,n2,p2⟩:=c;obtain ⟨d1,d2⟩:=kid (T.mk k1 m1 l1 n1 p1) (by simp)
   simp only [x7] at hb hl;refine (ycl (zbi m) p90 xo zeh a89 _ _ _ _ _ _ _ _ _ _ _ _ _ _ _ _).trans ?_;show zc (zbi m (T.mk k1 m1 l1 n1 p1).d (.sl 1 (b.map .str)) (l.map .str)) _=_;rw [zjs d1 d2 (zci.2 ⟨by rw [ha]; rfl,by omega,by omega⟩)]
   show zb (Nat.beq _ _) _=_;rw [Nat.beq_refl];rfl
  | elem h e ha=>
   subst h; subst e;rename_i f r;simp only [x7] at hb hl;have e:xx (.mk 11 nm (f::r) nms pl) b l=wa b l r:=by
    unfold xx;rw [show decide ((11:Int)=1)=false from rfl,px];unfold qg;exact z6b r 1 l (Nat.succ_pos _)
   rw [e];have hloop:=z5k (m:=m) ((f::r).length+1) b l r (by simp only [py]; omega) (pa (by have:=yp o2; simp only [py] at this; omega)) (λ t ht=>⟨(kid t (pr _ ht)).1,(kid t (pr _ ht)).2,ha t ht⟩) (by omega) (by omega) 20 88 89 90 (λ k L i=>yfl (zbi m) p90 xo zeh a89 _ k _ L r i)
   refine (z87 (zbi m) p90 xo zeh a89 _ _ _ _ _ _ _ _).trans ?_;have e2:List.drop (1:Int).toNat (List.take (f.d::T.ds r).length (f.d::T.ds r))=T.ds r:=by
    rw [List.take_length]; rfl
   rw [e2,zu,pa (p:=(1:Int)≤((f.d::T.ds r).length:Int)) (by simp only [py]; omega)]
   exact (xm _).trans hloop
def zkl:List (List UInt8)→List Nat→List UInt8→Int
 | w::ws,n::ns,s=>bif decide (w=s) then n else zkl ws ns s
 | _,_,_=>-1
def zub:List (List UInt8)→List Nat→List UInt8→Option R1
 | w::ws,n::ns,s=>bif decide (w=s) then some (.ret (.d (.int .i64 n)),[]) else zub ws ns s
 | _,_,_=>some (.ret (.d (.int .i64 (-1))),[])
theorem yim(s:List UInt8):zn cx (CK.plain zo) 20 13 [.d (.str s)] []=zub zmk zot s:=by kernel_rfl
theorem zsb(s:List UInt8):∀ (w:List (List UInt8)) (n:List Nat),zub w n s=some (.ret (mkI (zkl w n s)),[])
 | [],_=>rfl
 | _::_,[]=>rfl
 | w::ws,n::ns=>by
  unfold zub zkl;rw [zsb s ws ns];cases decide (w=s) <;> rfl
theorem zoz:∀ (w:List (List UInt8)) (n:List Nat) (s:List UInt8),w.length=n.length→decide (0≤zkl w n s)=qa (w.map .str) s
 | [],[],s,_=>rfl
 | w::ws,n::ns,s,h=>by
  have ih:=zoz ws ns s (by simpa using h)
  unfold zkl;show _=(decide (s=w)||qa (ws.map .str) s)
  by_cases hw:w=s
  ·subst hw;simp
  ·have e1:decide (w=s)=false:=pb hw;have e2:decide (s=w)=false:=pb λ e=>hw e.symm;rw [e1,e2,px,ih,Bool.false_or]
theorem m13(s:List UInt8):zj cx 13 [.d (.str s)] []=some (.ret (mkI (zkl zmk zot s)),[]):=by
 refine zm zp (N:=20) ?_;rw [yim];exact zsb s zmk zot
def zx2:List V→Option (D×(D×D)) | [.d h,.d t,.d b]=>some (h,(t,b)) | _=>none
def K60(sp:D→D→D→Option (List D))(p:D→List UInt8→Option Bool)(q:List UInt8→Int)(u:D→List UInt8→Option (List D)):CK R1:=
 z7 60 zx2 (λ x=>sp x.1 x.2.1 x.2.2) (λ x=>.d (.sl 1 x)) (z7 93 zgz (λ x=>p x.1 x.2) mkB (z7 13 zbw (λ s=>some (q s)) mkI (z7 98 zgz (λ x=>u x.1 x.2) (λ x=>.d (.sl 1 x)) (CK.plain zo))))
theorem yf0(p:D→List UInt8→Option Bool)(n:Nat)(l:List D)(s:List UInt8):zn cx (z7 93 zgz (λ q=>p q.1 q.2) mkB (CK.plain zo)) n 98 [.d (.sl 1 l),.d (.str s)] []=zc (p (D.sl 1 l,s).fst (D.sl 1 l,s).snd) λ b=>bif b then some (Out.ret (V.d (D.sl 1 l)),[]) else zb (decide (([]:List D).length+l.length≤4294967296)) (zb (decide (([]:List D).length+l.length=l.length)&&decide (l.length+[D.str s].length≤4294967296)) (some (Out.ret (V.d (D.sl 1 (l++[D.str s]))),[]))):=by kernel_rfl
theorem yh2(sp:D→D→D→Option (List D))(p:D→List UInt8→Option Bool)(q:List UInt8→Int)(u:D→List UInt8→Option (List D))(n:Nat)(h b:List D)(k:Int)(nm:List UInt8)(kids:List T)(nms:List (List UInt8))(pl:Int):zn cx (K60 sp p q u) n 60 [.d (.sl 1 h),.d (.agg [.int .i64 k,.str nm,.sl 5 (T.ds kids),.sl 1 (nms.map .str),.int .i64 pl]),.d (.sl 1 b)] []=bif decide (k=(1:Int)) then zc (p (D.sl 1 b,nm).fst (D.sl 1 b,nm).snd) λ b=>bif b then some (Out.ret (V.d (D.sl 1 h)),[]) else zb (decide (nm.length≤big)) (bif decide ((0:Int)≤q nm) then some (Out.ret (V.d (D.sl 1 h)),[]) else zc (u (D.sl 1 h,nm).fst (D.sl 1 h,nm).snd) λ b=>some (Out.ret (V.d (D.sl 1 b)),[])) else LP cx (K60 sp p q u) n 60 0 6 n [(0,V.d (D.sl 1 h)),(2,V.d (D.sl 1 b)),(4,V.ptr 4 0),(7,V.d (D.int .i64 (0:Int)))] [(4,Ob.val 5 (V.d (D.agg [D.int .i64 k,D.str nm,D.sl 5 (T.ds kids),D.sl 1 (List.map D.str nms),D.int .i64 pl])))] (AK cx (K60 sp p q u) n 60 0 6 (EK cx 60 0)):=by kernel_rfl
theorem z7j(sp:D→D→D→Option (List D))(p:D→List UInt8→Option Bool)(q:List UInt8→Int)(u:D→List UInt8→Option (List D))(n m:Nat)(h b:List D)(nm:List UInt8)(kids:List T)(nms:List (List UInt8))(pl i:Int):LP cx (K60 sp p q u) n 60 0 6 (m+1) [(0,V.d (D.sl 1 h)),(2,V.d (D.sl 1 b)),(4,V.ptr 4 0),(7,V.d (D.int .i64 i))] [(4,Ob.val 5 (V.d (D.agg [D.int .i64 2,D.str nm,D.sl 5 (T.ds kids),D.sl 1 (List.map D.str nms),D.int .i64 pl])))] (AK cx (K60 sp p q u) n 60 0 6 (EK cx 60 0))=bif decide (i<(↑(T.ds kids).length:Int)) then zb (decide (([]:List D).length+b.length≤4294967296)) (zb (decide (([]:List D).length+b.length=b.length)&&decide (b.length+(List.map D.str nms).length≤4294967296)) (zb (decide (0≤i)&&decide (i<(↑(T.ds kids).length:Int))) (za (T.ds kids) i.toNat λ y=>za y.cells 0 λ c=>za y.cells 1 λ c_1=>za y.cells 2 λ c_2=>za y.cells 3 λ c_3=>za y.cells 4 λ c_4=>zc (sp (D.sl 1 h,D.agg [c,c_1,c_2,c_3,c_4],D.sl 1 (b++List.map D.str nms)).fst (D.sl 1 h,D.agg [c,c_1,c_2,c_3,c_4],D.sl 1 (b++List.map D.str nms)).snd.fst (D.sl 1 h,D.agg [c,c_1,c_2,c_3,c_4],D.sl 1 (b++List.map D.str nms)).snd.snd) λ b_1=>LP cx (K60 sp p q u) n 60 0 6 m [(0,V.d (D.sl 1 b_1)),(2,V.d (D.sl 1 b)),(4,V.ptr 4 0),(7,V.d (D.int .i64 (IntKind.i64.wrap (i+(1:Int)))))] [(4,Ob.val 5 (V.d (D.agg [D.int .i64 (2:Int),D.str nm,D.sl 5 (T.ds kids),D.sl 1 (List.map D.str nms),D.int .i64 pl])))] (AK cx (K60 sp p q u) n 60 0 6 (EK cx 60 0))))) else some (Out.ret (V.d (D.sl 1 h)),[]):=by kernel_rfl
theorem z7i(sp:D→D→D→Option (List D))(p:D→List UInt8→Option Bool)(q:List UInt8→Int)(u:D→List UInt8→Option (List D))(n m:Nat)(h b:List D)(nm:List UInt8)(kids:List T)(nms:List (List UInt8))(pl i:Int):LP cx (K60 sp p q u) n 60 0 6 (m+1) [(0,V.d (D.sl 1 h)),(2,V.d (D.sl 1 b)),(4,V.ptr 4 0),(7,V.d (D.int .i64 i))] [(4,Ob.val 5 (V.d (D.agg [D.int .i64 3,D.str nm,D.sl 5 (T.ds kids),D.sl 1 (List.map D.str nms),D.int .i64 pl])))] (AK cx (K60 sp p q u) n 60 0 6 (EK cx 60 0))=bif decide (i<(↑(T.ds kids).length:Int)) then bif decide (i=(1:Int)) then zb (decide (0≤i)&&decide (i<(↑(T.ds kids).length:Int))) (za (T.ds kids) i.toNat λ y=>za y.cells 0 λ c=>za y.cells 1 λ c_1=>za y.cells 2 λ c_2=>za y.cells 3 λ c_3=>za y.cells 4 λ c_4=>zc (sp (D.sl 1 h,D.agg [c,c_1,c_2,c_3,c_4],D.sl 1 b).fst (D.sl 1 h,D.agg [c,c_1,c_2,c_3,c_4],D.sl 1 b).snd.fst (D.sl 1 h,D.agg [c,c_1,c_2,c_3,c_4],D.sl 1 b).snd.snd) λ b_1=>LP cx (K60 sp p q u) n 60 0 6 m [(0,V.d (D.sl 1 b_1)),(2,V.d (D.sl 1 b)),(4,V.ptr 4 0),(7,V.d (D.int .i64 (IntKind.i64.wrap (i+(1:Int)))))] [(4,Ob.val 5 (V.d (D.agg [D.int .i64 (3:Int),D.str nm,D.sl 5 (T.ds kids),D.sl 1 (List.map D.str nms),D.int .i64 pl])))] (AK cx (K60 sp p q u) n 60 0 6 (EK cx 60 0))) else zb (decide (0≤i)&&decide (i<(↑(T.ds kids).length:Int))) (za (T.ds kids) i.toNat λ y=>za y.cells 0 λ c=>za y.cells 1 λ c_1=>za y.cells 2 λ c_2=>za y.cells 3 λ c_3=>za y.cells 4 λ c_4=>zc (sp (D.sl 1 h,D.agg [c,c_1,c_2,c_3,c_4],D.sl 1 b).fst (D.sl 1 h,D.agg [c,c_1,c_2,c_3,c_4],D.sl 1 b).snd.fst (D.sl 1 h,D.agg [c,c_1,c_2,c_3,c_4],D.sl 1 b).snd.snd) λ b_1=>LP cx (K60 sp p q u) n 60 0 6 m [(0,V.d (D.sl 1 b_1)),(2,V.d (D.sl 1 b)),(4,V.ptr 4 0),(7,V.d (D.int .i64 (IntKind.i64.wrap (i+(1:Int)))))] [(4,Ob.val 5 (V.d (D.agg [D.int .i64 (3:Int),D.str nm,D.sl 5 (T.ds kids),D.sl 1 (List.map D.str nms),D.int .i64 pl])))] (AK cx (K60 sp p q u) n 60 0 6 (EK cx 60 0))) else some (Out.ret (V.d (D.sl 1 h)),[]):=by kernel_rfl
theorem z7h(sp:D→D→D→Option (List D))(p:D→List UInt8→Option Bool)(q:List UInt8→Int)(u:D→List UInt8→Option (List D))(n m:Nat)(h b:List D)(nm:List UInt8)(kids:List T)(nms:List (List UInt8))(pl i:Int):LP cx (K60 sp p q u) n 60 0 6 (m+1) [(0,V.d (D.sl 1 h)),(2,V.d (D.sl 1 b)),(4,V.ptr 4 0),(7,V.d (D.int .i64 i))] [(4,Ob.val 5 (V.d (D.agg [D.int .i64 4,D.str nm,D.sl 5 (T.ds kids),D.sl 1 (List.map D.str nms),D.int .i64 pl])))] (AK cx (K60 sp p q u) n 60 0 6 (EK cx 60 0))=bif decide (i<(↑(T.ds kids).length:Int)) then bif decide (i=(1:Int)) then zb (decide (([]:List D).length+b.length≤4294967296)) (zb (decide (([]:List D).length+b.length=b.length)&&decide (b.length+(List.map D.str nms).length≤4294967296)) (zb (decide (0≤i)&&decide (i<(↑(T.ds kids).length:Int))) (za (T.ds kids) i.toNat λ y=>za y.cells 0 λ c=>za y.cells 1 λ c_1=>za y.cells 2 λ c_2=>za y.cells 3 λ c_3=>za y.cells 4 λ c_4=>zc (sp (D.sl 1 h,D.agg [c,c_1,c_2,c_3,c_4],D.sl 1 (b++List.map D.str nms)).fst (D.sl 1 h,D.agg [c,c_1,c_2,c_3,c_4],D.sl 1 (b++List.map D.str nms)).snd.fst (D.sl 1 h,D.agg [c,c_1,c_2,c_3,c_4],D.sl 1 (b++List.map D.str nms)).snd.snd) λ b_1=>LP cx (K60 sp p q u) n 60 0 6 m [(0,V.d (D.sl 1 b_1)),(2,V.d (D.sl 1 b)),(4,V.ptr 4 0),(7,V.d (D.int .i64 (IntKind.i64.wrap (i+(1:Int)))))] [(4,Ob.val 5 (V.d (D.agg [D.int .i64 (4:Int),D.str nm,D.sl 5 (T.ds kids),D.sl 1 (List.map D.str nms),D.int .i64 pl])))] (AK cx (K60 sp p q u) n 60 0 6 (EK cx 60 0))))) else zb (decide (0≤i)&&decide (i<(↑(T.ds kids).length:Int))) (za (T.ds kids) i.toNat λ y=>za y.cells 0 λ c=>za y.cells 1 λ c_1=>za y.cells 2 λ c_2=>za y.cells 3 λ c_3=>za y.cells 4 λ c_4=>zc (sp (D.sl 1 h,D.agg [c,c_1,c_2,c_3,c_4],D.sl 1 b).fst (D.sl 1 h,D.agg [c,c_1,c_2,c_3,c_4],D.sl 1 b).snd.fst (D.sl 1 h,D.agg [c,c_1,c_2,c_3,c_4],D.sl 1 b).snd.snd) λ b_1=>LP cx (K60 sp p q u) n 60 0 6 m [(0,V.d (D.sl 1 b_1)),(2,V.d (D.sl 1 b)),(4,V.ptr 4 0),(7,V.d (D.int .i64 (IntKind.i64.wrap (i+(1:Int)))))] [(4,Ob.val 5 (V.d (D.agg [D.int .i64 (4:Int),D.str nm,D.sl 5 (T.ds kids),D.sl 1 (List.map D.str nms),D.int .i64 pl])))] (AK cx (K60 sp p q u) n 60 0 6 (EK cx 60 0))) else some (Out.ret (V.d (D.sl 1 h)),[]):=by kernel_rfl
theorem z7g(sp:D→D→D→Option (List D))(p:D→List UInt8→Option Bool)(q:List UInt8→Int)(u:D→List UInt8→Option (List D))(n m:Nat)(h b:List D)(nm:List UInt8)(kids:List T)(nms:List (List UInt8))(pl i:Int):LP cx (K60 sp p q u) n 60 0 6 (m+1) [(0,V.d (D.sl 1 h)),(2,V.d (D.sl 1 b)),(4,V.ptr 4 0),(7,V.d (D.int .i64 i))] [(4,Ob.val 5 (V.d (D.agg [D.int .i64 5,D.str nm,D.sl 5 (T.ds kids),D.sl 1 (List.map D.str nms),D.int .i64 pl])))] (AK cx (K60 sp p q u) n 60 0 6 (EK cx 60 0))=bif decide (i<(↑(T.ds kids).length:Int)) then bif decide (i=(1:Int)) then zb (decide (([]:List D).length+b.length≤4294967296)) (zb (decide (([]:List D).length+b.length=b.length)&&decide (b.length+(List.map D.str nms).length≤4294967296)) (zb (decide (0≤i)&&decide (i<(↑(T.ds kids).length:Int))) (za (T.ds kids) i.toNat λ y=>za y.cells 0 λ c=>za y.cells 1 λ c_1=>za y.cells 2 λ c_2=>za y.cells 3 λ c_3=>za y.cells 4 λ c_4=>zc (sp (D.sl 1 h,D.agg [c,c_1,c_2,c_3,c_4],D.sl 1 (b++List.map D.str nms)).fst (D.sl 1 h,D.agg [c,c_1,c_2,c_3,c_4],D.sl 1 (b++List.map D.str nms)).snd.fst (D.sl 1 h,D.agg [c,c_1,c_2,c_3,c_4],D.sl 1 (b++List.map D.str nms)).snd.snd) λ b_1=>LP cx (K60 sp p q u) n 60 0 6 m [(0,V.d (D.sl 1 b_1)),(2,V.d (D.sl 1 b)),(4,V.ptr 4 0),(7,V.d (D.int .i64 (IntKind.i64.wrap (i+(1:Int)))))] [(4,Ob.val 5 (V.d (D.agg [D.int .i64 (5:Int),D.str nm,D.sl 5 (T.ds kids),D.sl 1 (List.map D.str nms),D.int .i64 pl])))] (AK cx (K60 sp p q u) n 60 0 6 (EK cx 60 0))))) else zb (decide (0≤i)&&decide (i<(↑(T.ds kids).length:Int))) (za (T.ds kids) i.toNat λ y=>za y.cells 0 λ c=>za y.cells 1 λ c_1=>za y.cells 2 λ c_2=>za y.cells 3 λ c_3=>za y.cells 4 λ c_4=>zc (sp (D.sl 1 h,D.agg [c,c_1,c_2,c_3,c_4],D.sl 1 b).fst (D.sl 1 h,D.agg [c,c_1,c_2,c_3,c_4],D.sl 1 b).snd.fst (D.sl 1 h,D.agg [c,c_1,c_2,c_3,c_4],D.sl 1 b).snd.snd) λ b_1=>LP cx (K60 sp p q u) n 60 0 6 m [(0,V.d (D.sl 1 b_1)),(2,V.d (D.sl 1 b)),(4,V.ptr 4 0),(7,V.d (D.int .i64 (IntKind.i64.wrap (i+(1:Int)))))] [(4,Ob.val 5 (V.d (D.agg [D.int .i64 (5:Int),D.str nm,D.sl 5 (T.ds kids),D.sl 1 (List.map D.str nms),D.int .i64 pl])))] (AK cx (K60 sp p q u) n 60 0 6 (EK cx 60 0))) else some (Out.ret (V.d (D.sl 1 h)),[]):=by kernel_rfl
theorem z7f(sp:D→D→D→Option (List D))(p:D→List UInt8→Option Bool)(q:List UInt8→Int)(u:D→List UInt8→Option (List D))(n m:Nat)(h b:List D)(nm:List UInt8)(kids:List T)(nms:List (List UInt8))(pl i:Int):LP cx (K60 sp p q u) n 60 0 6 (m+1) [(0,V.d (D.sl 1 h)),(2,V.d (D.sl 1 b)),(4,V.ptr 4 0),(7,V.d (D.int .i64 i))] [(4,Ob.val 5 (V.d (D.agg [D.int .i64 6,D.str nm,D.sl 5 (T.ds kids),D.sl 1 (List.map D.str nms),D.int .i64 pl])))] (AK cx (K60 sp p q u) n 60 0 6 (EK cx 60 0))=bif decide (i<(↑(T.ds kids).length:Int)) then bif decide (i=(1:Int)) then zb (decide (0≤i)&&decide (i<(↑(T.ds kids).length:Int))) (za (T.ds kids) i.toNat λ y=>za y.cells 0 λ c=>za y.cells 1 λ c_1=>za y.cells 2 λ c_2=>za y.cells 3 λ c_3=>za y.cells 4 λ c_4=>zc (sp (D.sl 1 h,D.agg [c,c_1,c_2,c_3,c_4],D.sl 1 b).fst (D.sl 1 h,D.agg [c,c_1,c_2,c_3,c_4],D.sl 1 b).snd.fst (D.sl 1 h,D.agg [c,c_1,c_2,c_3,c_4],D.sl 1 b).snd.snd) λ b_1=>LP cx (K60 sp p q u) n 60 0 6 m [(0,V.d (D.sl 1 b_1)),(2,V.d (D.sl 1 b)),(4,V.ptr 4 0),(7,V.d (D.int .i64 (IntKind.i64.wrap (i+(1:Int)))))] [(4,Ob.val 5 (V.d (D.agg [D.int .i64 (6:Int),D.str nm,D.sl 5 (T.ds kids),D.sl 1 (List.map D.str nms),D.int .i64 pl])))] (AK cx (K60 sp p q u) n 60 0 6 (EK cx 60 0))) else zb (decide (0≤i)&&decide (i<(↑(T.ds kids).length:Int))) (za (T.ds kids) i.toNat λ y=>za y.cells 0 λ c=>za y.cells 1 λ c_1=>za y.cells 2 λ c_2=>za y.cells 3 λ c_3=>za y.cells 4 λ c_4=>zc (sp (D.sl 1 h,D.agg [c,c_1,c_2,c_3,c_4],D.sl 1 b).fst (D.sl 1 h,D.agg [c,c_1,c_2,c_3,c_4],D.sl 1 b).snd.fst (D.sl 1 h,D.agg [c,c_1,c_2,c_3,c_4],D.sl 1 b).snd.snd) λ b_1=>LP cx (K60 sp p q u) n 60 0 6 m [(0,V.d (D.sl 1 b_1)),(2,V.d (D.sl 1 b)),(4,V.ptr 4 0),(7,V.d (D.int .i64 (IntKind.i64.wrap (i+(1:Int)))))] [(4,Ob.val 5 (V.d (D.agg [D.int .i64 (6:Int),D.str nm,D.sl 5 (T.ds kids),D.sl 1 (List.map D.str nms),D.int .i64 pl])))] (AK cx (K60 sp p q u) n 60 0 6 (EK cx 60 0))) else some (Out.ret (V.d (D.sl 1 h)),[]):=by kernel_rfl
theorem z7e(sp:D→D→D→Option (List D))(p:D→List UInt8→Option Bool)(q:List UInt8→Int)(u:D→List UInt8→Option (List D))(n m:Nat)(h b:List D)(nm:List UInt8)(kids:List T)(nms:List (List UInt8))(pl i:Int):LP cx (K60 sp p q u) n 60 0 6 (m+1) [(0,V.d (D.sl 1 h)),(2,V.d (D.sl 1 b)),(4,V.ptr 4 0),(7,V.d (D.int .i64 i))] [(4,Ob.val 5 (V.d (D.agg [D.int .i64 7,D.str nm,D.sl 5 (T.ds kids),D.sl 1 (List.map D.str nms),D.int .i64 pl])))] (AK cx (K60 sp p q u) n 60 0 6 (EK cx 60 0))=bif decide (i<(↑(T.ds kids).length:Int)) then bif decide (i=(1:Int)) then bif decide (i=(1:Int)) then LP cx (K60 sp p q u) n 60 0 6 m [(0,V.d (D.sl 1 h)),(2,V.d (D.sl 1 b)),(4,V.ptr 4 0),(7,V.d (D.int .i64 (IntKind.i64.wrap (i+(1:Int)))))] [(4,Ob.val 5 (V.d (D.agg [D.int .i64 (7:Int),D.str nm,D.sl 5 (T.ds kids),D.sl 1 (List.map D.str nms),D.int .i64 pl])))] (AK cx (K60 sp p q u) n 60 0 6 (EK cx 60 0)) else zb (decide (0≤i)&&decide (i<(↑(T.ds kids).length:Int))) (za (T.ds kids) i.toNat λ y=>za y.cells 0 λ c=>za y.cells 1 λ c_1=>za y.cells 2 λ c_2=>za y.cells 3 λ c_3=>za y.cells 4 λ c_4=>zc (sp (D.sl 1 h,D.agg [c,c_1,c_2,c_3,c_4],D.sl 1 b).fst (D.sl 1 h,D.agg [c,c_1,c_2,c_3,c_4],D.sl 1 b).snd.fst (D.sl 1 h,D.agg [c,c_1,c_2,c_3,c_4],D.sl 1 b).snd.snd) λ b_1=>LP cx (K60 sp p q u) n 60 0 6 m [(0,V.d (D.sl 1 b_1)),(2,V.d (D.sl 1 b)),(4,V.ptr 4 0),(7,V.d (D.int .i64 (IntKind.i64.wrap (i+(1:Int)))))] [(4,Ob.val 5 (V.d (D.agg [D.int .i64 (7:Int),D.str nm,D.sl 5 (T.ds kids),D.sl 1 (List.map D.str nms),D.int .i64 pl])))] (AK cx (K60 sp p q u) n 60 0 6 (EK cx 60 0))) else bif decide (i=(1:Int)) then LP cx (K60 sp p q u) n 60 0 6 m [(0,V.d (D.sl 1 h)),(2,V.d (D.sl 1 b)),(4,V.ptr 4 0),(7,V.d (D.int .i64 (IntKind.i64.wrap (i+(1:Int)))))] [(4,Ob.val 5 (V.d (D.agg [D.int .i64 (7:Int),D.str nm,D.sl 5 (T.ds kids),D.sl 1 (List.map D.str nms),D.int .i64 pl])))] (AK cx (K60 sp p q u) n 60 0 6 (EK cx 60 0)) else zb (decide (0≤i)&&decide (i<(↑(T.ds kids).length:Int))) (za (T.ds kids) i.toNat λ y=>za y.cells 0 λ c=>za y.cells 1 λ c_1=>za y.cells 2 λ c_2=>za y.cells 3 λ c_3=>za y.cells 4 λ c_4=>zc (sp (D.sl 1 h,D.agg [c,c_1,c_2,c_3,c_4],D.sl 1 b).fst (D.sl 1 h,D.agg [c,c_1,c_2,c_3,c_4],D.sl 1 b).snd.fst (D.sl 1 h,D.agg [c,c_1,c_2,c_3,c_4],D.sl 1 b).snd.snd) λ b_1=>LP cx (K60 sp p q u) n 60 0 6 m [(0,V.d (D.sl 1 b_1)),(2,V.d (D.sl 1 b)),(4,V.ptr 4 0),(7,V.d (D.int .i64 (IntKind.i64.wrap (i+(1:Int)))))] [(4,Ob.val 5 (V.d (D.agg [D.int .i64 (7:Int),D.str nm,D.sl 5 (T.ds kids),D.sl 1 (List.map D.str nms),D.int .i64 pl])))] (AK cx (K60 sp p q u) n 60 0 6 (EK cx 60 0))) else some (Out.ret (V.d (D.sl 1 h)),[]):=by kernel_rfl
theorem z7d(sp:D→D→D→Option (List D))(p:D→List UInt8→Option Bool)(q:List UInt8→Int)(u:D→List UInt8→Option (List D))(n m:Nat)(h b:List D)(nm:List UInt8)(kids:List T)(nms:List (List UInt8))(pl i:Int):LP cx (K60 sp p q u) n 60 0 6 (m+1) [(0,V.d (D.sl 1 h)),(2,V.d (D.sl 1 b)),(4,V.ptr 4 0),(7,V.d (D.int .i64 i))] [(4,Ob.val 5 (V.d (D.agg [D.int .i64 8,D.str nm,D.sl 5 (T.ds kids),D.sl 1 (List.map D.str nms),D.int .i64 pl])))] (AK cx (K60 sp p q u) n 60 0 6 (EK cx 60 0))=bif decide (i<(↑(T.ds kids).length:Int)) then bif decide (i=(1:Int)) then zb (decide (0≤i)&&decide (i<(↑(T.ds kids).length:Int))) (za (T.ds kids) i.toNat λ y=>za y.cells 0 λ c=>za y.cells 1 λ c_1=>za y.cells 2 λ c_2=>za y.cells 3 λ c_3=>za y.cells 4 λ c_4=>zc (sp (D.sl 1 h,D.agg [c,c_1,c_2,c_3,c_4],D.sl 1 b).fst (D.sl 1 h,D.agg [c,c_1,c_2,c_3,c_4],D.sl 1 b).snd.fst (D.sl 1 h,D.agg [c,c_1,c_2,c_3,c_4],D.sl 1 b).snd.snd) λ b_1=>LP cx (K60 sp p q u) n 60 0 6 m [(0,V.d (D.sl 1 b_1)),(2,V.d (D.sl 1 b)),(4,V.ptr 4 0),(7,V.d (D.int .i64 (IntKind.i64.wrap (i+(1:Int)))))] [(4,Ob.val 5 (V.d (D.agg [D.int .i64 (8:Int),D.str nm,D.sl 5 (T.ds kids),D.sl 1 (List.map D.str nms),D.int .i64 pl])))] (AK cx (K60 sp p q u) n 60 0 6 (EK cx 60 0))) else zb (decide (0≤i)&&decide (i<(↑(T.ds kids).length:Int))) (za (T.ds kids) i.toNat λ y=>za y.cells 0 λ c=>za y.cells 1 λ c_1=>za y.cells 2 λ c_2=>za y.cells 3 λ c_3=>za y.cells 4 λ c_4=>zc (sp (D.sl 1 h,D.agg [c,c_1,c_2,c_3,c_4],D.sl 1 b).fst (D.sl 1 h,D.agg [c,c_1,c_2,c_3,c_4],D.sl 1 b).snd.fst (D.sl 1 h,D.agg [c,c_1,c_2,c_3,c_4],D.sl 1 b).snd.snd) λ b_1=>LP cx (K60 sp p q u) n 60 0 6 m [(0,V.d (D.sl 1 b_1)),(2,V.d (D.sl 1 b)),(4,V.ptr 4 0),(7,V.d (D.int .i64 (IntKind.i64.wrap (i+(1:Int)))))] [(4,Ob.val 5 (V.d (D.agg [D.int .i64 (8:Int),D.str nm,D.sl 5 (T.ds kids),D.sl 1 (List.map D.str nms),D.int .i64 pl])))] (AK cx (K60 sp p q u) n 60 0 6 (EK cx 60 0))) else some (Out.ret (V.d (D.sl 1 h)),[]):=by kernel_rfl
theorem z7c(sp:D→D→D→Option (List D))(p:D→List UInt8→Option Bool)(q:List UInt8→Int)(u:D→List UInt8→Option (List D))(n m:Nat)(h b:List D)(nm:List UInt8)(kids:List T)(nms:List (List UInt8))(pl i:Int):LP cx (K60 sp p q u) n 60 0 6 (m+1) [(0,V.d (D.sl 1 h)),(2,V.d (D.sl 1 b)),(4,V.ptr 4 0),(7,V.d (D.int .i64 i))] [(4,Ob.val 5 (V.d (D.agg [D.int .i64 9,D.str nm,D.sl 5 (T.ds kids),D.sl 1 (List.map D.str nms),D.int .i64 pl])))] (AK cx (K60 sp p q u) n 60 0 6 (EK cx 60 0))=bif decide (i<(↑(T.ds kids).length:Int)) then bif decide (i=(1:Int)) then zb (decide (0≤i)&&decide (i<(↑(T.ds kids).length:Int))) (za (T.ds kids) i.toNat λ y=>za y.cells 0 λ c=>za y.cells 1 λ c_1=>za y.cells 2 λ c_2=>za y.cells 3 λ c_3=>za y.cells 4 λ c_4=>zc (sp (D.sl 1 h,D.agg [c,c_1,c_2,c_3,c_4],D.sl 1 b).fst (D.sl 1 h,D.agg [c,c_1,c_2,c_3,c_4],D.sl 1 b).snd.fst (D.sl 1 h,D.agg [c,c_1,c_2,c_3,c_4],D.sl 1 b).snd.snd) λ b_1=>LP cx (K60 sp p q u) n 60 0 6 m [(0,V.d (D.sl 1 b_1)),(2,V.d (D.sl 1 b)),(4,V.ptr 4 0),(7,V.d (D.int .i64 (IntKind.i64.wrap (i+(1:Int)))))] [(4,Ob.val 5 (V.d (D.agg [D.int .i64 (9:Int),D.str nm,D.sl 5 (T.ds kids),D.sl 1 (List.map D.str nms),D.int .i64 pl])))] (AK cx (K60 sp p q u) n 60 0 6 (EK cx 60 0))) else zb (decide (0≤i)&&decide (i<(↑(T.ds kids).length:Int))) (za (T.ds kids) i.toNat λ y=>za y.cells 0 λ c=>za y.cells 1 λ c_1=>za y.cells 2 λ c_2=>za y.cells 3 λ c_3=>za y.cells 4 λ c_4=>zc (sp (D.sl 1 h,D.agg [c,c_1,c_2,c_3,c_4],D.sl 1 b).fst (D.sl 1 h,D.agg [c,c_1,c_2,c_3,c_4],D.sl 1 b).snd.fst (D.sl 1 h,D.agg [c,c_1,c_2,c_3,c_4],D.sl 1 b).snd.snd) λ b_1=>LP cx (K60 sp p q u) n 60 0 6 m [(0,V.d (D.sl 1 b_1)),(2,V.d (D.sl 1 b)),(4,V.ptr 4 0),(7,V.d (D.int .i64 (IntKind.i64.wrap (i+(1:Int)))))] [(4,Ob.val 5 (V.d (D.agg [D.int .i64 (9:Int),D.str nm,D.sl 5 (T.ds kids),D.sl 1 (List.map D.str nms),D.int .i64 pl])))] (AK cx (K60 sp p q u) n 60 0 6 (EK cx 60 0))) else some (Out.ret (V.d (D.sl 1 h)),[]):=by kernel_rfl
theorem z1v(sp:D→D→D→Option (List D))(p:D→List UInt8→Option Bool)(q:List UInt8→Int)(u:D→List UInt8→Option (List D))(n m:Nat)(h b:List D)(nm:List UInt8)(kids:List T)(nms:List (List UInt8))(pl i:Int):LP cx (K60 sp p q u) n 60 0 6 (m+1) [(0,V.d (D.sl 1 h)),(2,V.d (D.sl 1 b)),(4,V.ptr 4 0),(7,V.d (D.int .i64 i))] [(4,Ob.val 5 (V.d (D.agg [D.int .i64 10,D.str nm,D.sl 5 (T.ds kids),D.sl 1 (List.map D.str nms),D.int .i64 pl])))] (AK cx (K60 sp p q u) n 60 0 6 (EK cx 60 0))=bif decide (i<(↑(T.ds kids).length:Int)) then bif decide (i=(1:Int)) then zb (decide (0≤i)&&decide (i<(↑(T.ds kids).length:Int))) (za (T.ds kids) i.toNat λ y=>za y.cells 0 λ c=>za y.cells 1 λ c_1=>za y.cells 2 λ c_2=>za y.cells 3 λ c_3=>za y.cells 4 λ c_4=>zc (sp (D.sl 1 h,D.agg [c,c_1,c_2,c_3,c_4],D.sl 1 b).fst (D.sl 1 h,D.agg [c,c_1,c_2,c_3,c_4],D.sl 1 b).snd.fst (D.sl 1 h,D.agg [c,c_1,c_2,c_3,c_4],D.sl 1 b).snd.snd) λ b_1=>LP cx (K60 sp p q u) n 60 0 6 m [(0,V.d (D.sl 1 b_1)),(2,V.d (D.sl 1 b)),(4,V.ptr 4 0),(7,V.d (D.int .i64 (IntKind.i64.wrap (i+(1:Int)))))] [(4,Ob.val 5 (V.d (D.agg [D.int .i64 (10:Int),D.str nm,D.sl 5 (T.ds kids),D.sl 1 (List.map D.str nms),D.int .i64 pl])))] (AK cx (K60 sp p q u) n 60 0 6 (EK cx 60 0))) else zb (decide (0≤i)&&decide (i<(↑(T.ds kids).length:Int))) (za (T.ds kids) i.toNat λ y=>za y.cells 0 λ c=>za y.cells 1 λ c_1=>za y.cells 2 λ c_2=>za y.cells 3 λ c_3=>za y.cells 4 λ c_4=>zc (sp (D.sl 1 h,D.agg [c,c_1,c_2,c_3,c_4],D.sl 1 b).fst (D.sl 1 h,D.agg [c,c_1,c_2,c_3,c_4],D.sl 1 b).snd.fst (D.sl 1 h,D.agg [c,c_1,c_2,c_3,c_4],D.sl 1 b).snd.snd) λ b_1=>LP cx (K60 sp p q u) n 60 0 6 m [(0,V.d (D.sl 1 b_1)),(2,V.d (D.sl 1 b)),(4,V.ptr 4 0),(7,V.d (D.int .i64 (IntKind.i64.wrap (i+(1:Int)))))] [(4,Ob.val 5 (V.d (D.agg [D.int .i64 (10:Int),D.str nm,D.sl 5 (T.ds kids),D.sl 1 (List.map D.str nms),D.int .i64 pl])))] (AK cx (K60 sp p q u) n 60 0 6 (EK cx 60 0))) else some (Out.ret (V.d (D.sl 1 h)),[]):=by kernel_rfl
theorem z1u(sp:D→D→D→Option (List D))(p:D→List UInt8→Option Bool)(q:List UInt8→Int)(u:D→List UInt8→Option (List D))(n m:Nat)(h b:List D)(nm:List UInt8)(kids:List T)(nms:List (List UInt8))(pl i:Int):LP cx (K60 sp p q u) n 60 0 6 (m+1) [(0,V.d (D.sl 1 h)),(2,V.d (D.sl 1 b)),(4,V.ptr 4 0),(7,V.d (D.int .i64 i))] [(4,Ob.val 5 (V.d (D.agg [D.int .i64 11,D.str nm,D.sl 5 (T.ds kids),D.sl 1 (List.map D.str nms),D.int .i64 pl])))] (AK cx (K60 sp p q u) n 60 0 6 (EK cx 60 0))=bif decide (i<(↑(T.ds kids).length:Int)) then bif decide (i=(1:Int)) then bif !decide (i=(0:Int)) then zb (decide (0≤i)&&decide (i<(↑(T.ds kids).length:Int))) (za (T.ds kids) i.toNat λ y=>za y.cells 0 λ c=>za y.cells 1 λ c_1=>za y.cells 2 λ c_2=>za y.cells 3 λ c_3=>za y.cells 4 λ c_4=>zc (sp (D.sl 1 h,D.agg [c,c_1,c_2,c_3,c_4],D.sl 1 b).fst (D.sl 1 h,D.agg [c,c_1,c_2,c_3,c_4],D.sl 1 b).snd.fst (D.sl 1 h,D.agg [c,c_1,c_2,c_3,c_4],D.sl 1 b).snd.snd) λ b_1=>LP cx (K60 sp p q u) n 60 0 6 m [(0,V.d (D.sl 1 b_1)),(2,V.d (D.sl 1 b)),(4,V.ptr 4 0),(7,V.d (D.int .i64 (IntKind.i64.wrap (i+(1:Int)))))] [(4,Ob.val 5 (V.d (D.agg [D.int .i64 (11:Int),D.str nm,D.sl 5 (T.ds kids),D.sl 1 (List.map D.str nms),D.int .i64 pl])))] (AK cx (K60 sp p q u) n 60 0 6 (EK cx 60 0))) else LP cx (K60 sp p q u) n 60 0 6 m [(0,V.d (D.sl 1 h)),(2,V.d (D.sl 1 b)),(4,V.ptr 4 0),(7,V.d (D.int .i64 (IntKind.i64.wrap (i+(1:Int)))))] [(4,Ob.val 5 (V.d (D.agg [D.int .i64 (11:Int),D.str nm,D.sl 5 (T.ds kids),D.sl 1 (List.map D.str nms),D.int .i64 pl])))] (AK cx (K60 sp p q u) n 60 0 6 (EK cx 60 0)) else bif !decide (i=(0:Int)) then zb (decide (0≤i)&&decide (i<(↑(T.ds kids).length:Int))) (za (T.ds kids) i.toNat λ y=>za y.cells 0 λ c=>za y.cells 1 λ c_1=>za y.cells 2 λ c_2=>za y.cells 3 λ c_3=>za y.cells 4 λ c_4=>zc (sp (D.sl 1 h,D.agg [c,c_1,c_2,c_3,c_4],D.sl 1 b).fst (D.sl 1 h,D.agg [c,c_1,c_2,c_3,c_4],D.sl 1 b).snd.fst (D.sl 1 h,D.agg [c,c_1,c_2,c_3,c_4],D.sl 1 b).snd.snd) λ b_1=>LP cx (K60 sp p q u) n 60 0 6 m [(0,V.d (D.sl 1 b_1)),(2,V.d (D.sl 1 b)),(4,V.ptr 4 0),(7,V.d (D.int .i64 (IntKind.i64.wrap (i+(1:Int)))))] [(4,Ob.val 5 (V.d (D.agg [D.int .i64 (11:Int),D.str nm,D.sl 5 (T.ds kids),D.sl 1 (List.map D.str nms),D.int .i64 pl])))] (AK cx (K60 sp p q u) n 60 0 6 (EK cx 60 0))) else LP cx (K60 sp p q u) n 60 0 6 m [(0,V.d (D.sl 1 h)),(2,V.d (D.sl 1 b)),(4,V.ptr 4 0),(7,V.d (D.int .i64 (IntKind.i64.wrap (i+(1:Int)))))] [(4,Ob.val 5 (V.d (D.agg [D.int .i64 (11:Int),D.str nm,D.sl 5 (T.ds kids),D.sl 1 (List.map D.str nms),D.int .i64 pl])))] (AK cx (K60 sp p q u) n 60 0 6 (EK cx 60 0)) else some (Out.ret (V.d (D.sl 1 h)),[]):=by kernel_rfl
def p93(x:D)(s:List UInt8):Option Bool:=zc (zbz x) λ l=>some (y4 s l)
def u98(x:D)(s:List UInt8):Option (List D):=zc (zbz x) λ l=>zb (decide (l.length+1<4294967296)) (some ((zb9 l s).map .str))
def q60:List UInt8→Int:=zkl zmk zot
theorem z49(s:List UInt8):decide (0≤q60 s)=xo s:=zoz zmk zot s rfl
theorem zmy{f:List V}{q:D×List UInt8}{b:Bool}(h:zgz f=some q)(hb:p93 q.1 q.2=some b):zj cx 93 f []=some (.ret (mkB b),[]):=by
 obtain rfl:=zhx h;obtain ⟨l,hl,hb⟩:=zd hb;cases hb;obtain ⟨h1,h2⟩:=za9 hl;rw [h1];exact m93 l q.2 h2
theorem yg1(l:List (List UInt8))(s:List UInt8)(hl:l.length+1<4294967296):zj cx 98 [.d (.sl 1 (l.map .str)),.d (.str s)] []=some (.ret (.d (.sl 1 ((zb9 l s).map .str))),[]):=by
 have hk:knows cx (z7 93 zgz (λ q=>p93 q.1 q.2) mkB (CK.plain zo)).S (zj cx):=zk zp λ a q b hd h hb=>zmy h hb;refine zm hk (N:=0) ?_;rw [yf0];show zc (p93 (.sl 1 (l.map .str)) s) _=_;unfold p93;rw [zdb (pa (by omega))]
 unfold zb9;show (bif y4 s l then _ else _)=_;cases y4 s l
 ·simp only [px,List.nil_append,pz,Nat.zero_add,ph,py];rw [pa (p:=l.length≤4294967296) (by omega),pa (p:=l.length+1≤4294967296) (by omega)]
  simp only [zb,pw,decide_true,Bool.and_self,Bool.true_and,List.map_append,List.map_cons,List.map_nil]
 ·rfl
def zca(m:Nat)(h x y:D):Option (List D):=zc (zbz h) λ l=>zc (zi m x) λ t=>zc (zbz y) λ b=>zb (okG t b l) (some ((xx t b l).map .str))
theorem zzt{a:List V}{q}(h:zx2 a=some q):a=[.d q.1,.d q.2.1,.d q.2.2]:=by
 unfold zx2 at h; split at h <;> cases h; rfl
def zu0(m:Nat):Prop:=∀ (t:T) (b l:List (List UInt8)),t.depth≤m→t.ok=true→okG t b l=true→zj cx 60 [.d (.sl 1 (l.map .str)),.d t.d,.d (.sl 1 (b.map .str))] []=some (.ret (.d (.sl 1 ((xx t b l).map .str))),[])
theorem zsh{m:Nat}(hm:zu0 m){S:CK R1}(hS:knows cx S.S (zj cx)):knows cx (z7 60 zx2 (λ x=>zca m x.1 x.2.1 x.2.2) (λ x=>.d (.sl 1 x)) S).S (zj cx):=zk hS λ a q b hd h hb=>by
 obtain rfl:=zzt h;obtain ⟨l,hl,hb⟩:=zd hb;obtain ⟨t,ht,hb⟩:=zd hb;obtain ⟨y,hy,hb⟩:=zd hb;obtain ⟨ho,hb⟩:=zf hb;cases hb;obtain ⟨h1,h2,h3⟩:=xl ht;rw [h1,(za9 hl).1,(za9 hy).1];exact hm t y l h2 h3 ho
theorem z32{m:Nat}(hm:zu0 m):knows cx (K60 (zca m) p93 q60 u98).S (zj cx):=
 zsh hm (zk (zk (zk zp λ a q b hd h hb=>by
   obtain rfl:=zhx h;obtain ⟨x,hx,hb⟩:=zd hb;obtain ⟨h1,hb⟩:=zf hb;cases hb;rw [(za9 hx).1];exact yg1 x q.2 (pc h1)) λ a q b hd h hb=>by
   cases hb;obtain rfl:=qi h;exact m13 q) λ a q b hd h hb=>zmy h hb)
theorem zud{m:Nat}{t:T}{b l:List (List UInt8)}(hd:t.depth≤m)(ho:t.ok=true)(h:okG t b l=true):zca m (.sl 1 (l.map .str)) t.d (.sl 1 (b.map .str))=some ((xx t b l).map .str):=by
 obtain ⟨_,hb,hl⟩:=zci.1 h;unfold zca;rw [zeq hd ho,zdb (pa (by omega)),zdb (pa (by omega))]
 show zb (okG t b l) _=_;rw [h];rfl
theorem yda{R α S:Type}(L:Nat→Int→S→Option R)(xs:List α)(step:Nat→S→α→S)(G:List α→Nat→S→S)(hG0:∀ i s,G [] i s=s)(hG:∀ x r i s,G (x::r) i s=G r (i+1) (step i s x))
  (I:Nat→S→Prop) (E:S→Option R) (hs:xs.length<4294967296)
  (H:∀ (k j:Nat) x s,j<xs.length→xs[j]?=some x→I j s→L (k+1) j s=L k (IntKind.i64.wrap ((j:Int)+1)) (step j s x)∧I (j+1) (step j s x)) (HE:∀ k s,L (k+1) xs.length s=E s) {s:S} (h0:I 0 s) {k:Nat} (hk:xs.length<k) :
  L k 0 s=E (G xs 0 s):=by
 have key:∀ (d j:Nat) (k:Nat) (s:S),j+d=xs.length→d<k→I j s→L k j s=E (G (xs.drop j) j s):=by
  intro d
  induction d with
  | zero=>
   intro j k s hj hk hi;obtain ⟨k,rfl⟩:∃ k',k=k'+1:=⟨k - 1,by omega⟩
   obtain rfl:j=xs.length:=by omega
   rw [HE,List.drop_length,hG0]
  | succ d ih=>
   intro j k s hj hk hi;obtain ⟨k,rfl⟩:∃ k',k=k'+1:=⟨k - 1,by omega⟩
   have hlt:j<xs.length:=by omega
   obtain ⟨h1,h2⟩:=H k j xs[j] s hlt (p4 hlt) hi;rw [h1,IntWalk.i64_in _ (by omega)]
   have e:((j:Int)+1)=((j+1:Nat):Int):=by omega
   rw [e,ih (j+1) k _ (by omega) (by omega) h2,List.drop_eq_getElem_cons hlt,hG]
 have:=key xs.length 0 k s (by omega) hk h0
 rw [List.drop_zero] at this;exact this
theorem zcy{R:Type}{kids:List T}{j:Nat}{x:T}(hj:j<kids.length)(hx:kids[j]?=some x)(F:D→Option R):zb (decide (0≤(j:Int))&&decide ((j:Int)<(kids.length:Int))) (za (T.ds kids) (j:Int).toNat λ y=>za y.cells 0 λ c=>za y.cells 1 λ c1=>za y.cells 2 λ c2=>za y.cells 3 λ c3=>za y.cells 4 λ c4=>F (D.agg [c,c1,c2,c3,c4]))=F x.d:=by
 rw [yf hj,y8,yh,po,hx];show za x.d.cells 0 _=_;rw [yk];simp only [xu,vk,vj,vi,vh,we]
def LQ(m n:Nat)(kk:Int)(nm:List UInt8)(kids:List T)(nms:List (List UInt8))(pl:Int)(b:List (List UInt8))(k:Nat)(i:Int)(h:List D):Option R1:=
 LP cx (K60 (zca m) p93 q60 u98) n 60 0 6 k [(0,V.d (D.sl 1 h)),(2,V.d (D.sl 1 (b.map .str))),(4,V.ptr 4 0),(7,V.d (D.int .i64 i))] [(4,Ob.val 5 (V.d (D.agg [D.int .i64 kk,D.str nm,D.sl 5 (T.ds kids),D.sl 1 (List.map D.str nms),D.int .i64 pl])))] (AK cx (K60 (zca m) p93 q60 u98) n 60 0 6 (EK cx 60 0))
def FQ(m n:Nat)(kk:Int)(nm:List UInt8)(kids:List T)(nms:List (List UInt8))(pl:Int)(b bb:List (List UInt8))(k:Nat)(i:Int)(h:List D)(y:D):Option R1:=
 zc (zca m (.sl 1 h) y (.sl 1 (bb.map .str))) λ b_1=>LQ m n kk nm kids nms pl b k (IntKind.i64.wrap (i+1)) b_1
def H60(kk:Int):Prop:=∀ (m n:Nat) (nm:List UInt8) (kids:List T) (nms:List (List UInt8)) (pl:Int) (b:List (List UInt8)) (k j:Nat) (h:List D) (x:T),b.length+nms.length<4294967296→j<kids.length→kids[j]?=some x →
 LQ m n kk nm kids nms pl b (k+1) j h=bif (decide (kk=7)&&decide (j=1))||(decide (kk=11)&&decide (j=0)) then LQ m n kk nm kids nms pl b k (IntKind.i64.wrap ((j:Int)+1)) h
  else FQ m n kk nm kids nms pl b (bif decide (kk=2)||(decide (j=1)&&(decide (kk=4)||decide (kk=5))) then b++nms else b) k j h x.d
theorem dI(j i:Nat):decide ((j:Int)=(i:Int))=decide (j=i):=by
 by_cases h:j=i
 ·rw [pa h,pa (by omega)]
 ·rw [pb h,pb (by omega)]
theorem ygu:H60 2:=λ m n nm kids nms pl b k j h x hb hj hx=>by
 refine (z7j (zca m) p93 q60 u98 n k h (b.map .str) nm kids nms pl j).trans ?_;have e1:decide ((j:Int)=1)=decide (j=1):=dI j 1;have e0:decide ((j:Int)=0)=decide (j=0):=dI j 0;have e2:decide (([]:List D).length+(b.map D.str).length≤4294967296)=true:=pa (by simp only [pz,ph]; omega)
 have e3:decide (([]:List D).length+(b.map D.str).length=(b.map D.str).length)=true:=pa (by simp only [pz,ph]; omega)
 have e4:decide ((b.map D.str).length+(List.map D.str nms).length≤4294967296)=true:=pa (by simp only [ph]; omega)
 have g1:=zcy hj hx (FQ m n 2 nm kids nms pl b b k j h);have g2:=zcy hj hx (FQ m n 2 nm kids nms pl b (b++nms) k j h);rw [zu,yf hj] at *;rw [e2,e3,e4,←List.map_append];exact g2
theorem ygt:H60 3:=λ m n nm kids nms pl b k j h x hb hj hx=>by
 refine (z7i (zca m) p93 q60 u98 n k h (b.map .str) nm kids nms pl j).trans ?_;have e1:decide ((j:Int)=1)=decide (j=1):=dI j 1;have e0:decide ((j:Int)=0)=decide (j=0):=dI j 0;have e2:decide (([]:List D).length+(b.map D.str).length≤4294967296)=true:=pa (by simp only [pz,ph]; omega)
 have e3:decide (([]:List D).length+(b.map D.str).length=(b.map D.str).length)=true:=pa (by simp only [pz,ph]; omega)
 have e4:decide ((b.map D.str).length+(List.map D.str nms).length≤4294967296)=true:=pa (by simp only [ph]; omega)
 have g1:=zcy hj hx (FQ m n 3 nm kids nms pl b b k j h);have g2:=zcy hj hx (FQ m n 3 nm kids nms pl b (b++nms) k j h);rw [zu,yf hj] at *;rw [e1];cases decide (j=1)
 ·exact g1
 ·exact g1
theorem ygs:H60 4:=λ m n nm kids nms pl b k j h x hb hj hx=>by
 refine (z7h (zca m) p93 q60 u98 n k h (b.map .str) nm kids nms pl j).trans ?_;have e1:decide ((j:Int)=1)=decide (j=1):=dI j 1;have e0:decide ((j:Int)=0)=decide (j=0):=dI j 0;have e2:decide (([]:List D).length+(b.map D.str).length≤4294967296)=true:=pa (by simp only [pz,ph]; omega)
 have e3:decide (([]:List D).length+(b.map D.str).length=(b.map D.str).length)=true:=pa (by simp only [pz,ph]; omega)
 have e4:decide ((b.map D.str).length+(List.map D.str nms).length≤4294967296)=true:=pa (by simp only [ph]; omega)
 have g1:=zcy hj hx (FQ m n 4 nm kids nms pl b b k j h);have g2:=zcy hj hx (FQ m n 4 nm kids nms pl b (b++nms) k j h);rw [zu,yf hj] at *;rw [e1,e2,e3,e4,←List.map_append];cases decide (j=1)
 ·exact g1
 ·exact g2
theorem ygr:H60 5:=λ m n nm kids nms pl b k j h x hb hj hx=>by
 refine (z7g (zca m) p93 q60 u98 n k h (b.map .str) nm kids nms pl j).trans ?_;have e1:decide ((j:Int)=1)=decide (j=1):=dI j 1;have e0:decide ((j:Int)=0)=decide (j=0):=dI j 0;have e2:decide (([]:List D).length+(b.map D.str).length≤4294967296)=true:=pa (by simp only [pz,ph]; omega)
 have e3:decide (([]:List D).length+(b.map D.str).length=(b.map D.str).length)=true:=pa (by simp only [pz,ph]; omega)
 have e4:decide ((b.map D.str).length+(List.map D.str nms).length≤4294967296)=true:=pa (by simp only [ph]; omega)
 have g1:=zcy hj hx (FQ m n 5 nm kids nms pl b b k j h);have g2:=zcy hj hx (FQ m n 5 nm kids nms pl b (b++nms) k j h);rw [zu,yf hj] at *;rw [e1,e2,e3,e4,←List.map_append];cases decide (j=1)
 ·exact g1
 ·exact g2
theorem ygq:H60 6:=λ m n nm kids nms pl b k j h x hb hj hx=>by
 refine (z7f (zca m) p93 q60 u98 n k h (b.map .str) nm kids nms pl j).trans ?_;have e1:decide ((j:Int)=1)=decide (j=1):=dI j 1;have e0:decide ((j:Int)=0)=decide (j=0):=dI j 0;have e2:decide (([]:List D).length+(b.map D.str).length≤4294967296)=true:=pa (by simp only [pz,ph]; omega)
 have e3:decide (([]:List D).length+(b.map D.str).length=(b.map D.str).length)=true:=pa (by simp only [pz,ph]; omega)
 have e4:decide ((b.map D.str).length+(List.map D.str nms).length≤4294967296)=true:=pa (by simp only [ph]; omega)
 have g1:=zcy hj hx (FQ m n 6 nm kids nms pl b b k j h);have g2:=zcy hj hx (FQ m n 6 nm kids nms pl b (b++nms) k j h);rw [zu,yf hj] at *;rw [e1];cases decide (j=1)
 ·exact g1
 ·exact g1
theorem ygp:H60 7:=λ m n nm kids nms pl b k j h x hb hj hx=>by
 refine (z7e (zca m) p93 q60 u98 n k h (b.map .str) nm kids nms pl j).trans ?_;have e1:decide ((j:Int)=1)=decide (j=1):=dI j 1;have e0:decide ((j:Int)=0)=decide (j=0):=dI j 0;have e2:decide (([]:List D).length+(b.map D.str).length≤4294967296)=true:=pa (by simp only [pz,ph]; omega)
 have e3:decide (([]:List D).length+(b.map D.str).length=(b.map D.str).length)=true:=pa (by simp only [pz,ph]; omega)
 have e4:decide ((b.map D.str).length+(List.map D.str nms).length≤4294967296)=true:=pa (by simp only [ph]; omega)
 have g1:=zcy hj hx (FQ m n 7 nm kids nms pl b b k j h);have g2:=zcy hj hx (FQ m n 7 nm kids nms pl b (b++nms) k j h);rw [zu,yf hj] at *;rw [e1];cases decide (j=1)
 ·exact g1
 ·rfl
theorem ygo:H60 8:=λ m n nm kids nms pl b k j h x hb hj hx=>by
 refine (z7d (zca m) p93 q60 u98 n k h (b.map .str) nm kids nms pl j).trans ?_;have e1:decide ((j:Int)=1)=decide (j=1):=dI j 1;have e0:decide ((j:Int)=0)=decide (j=0):=dI j 0;have e2:decide (([]:List D).length+(b.map D.str).length≤4294967296)=true:=pa (by simp only [pz,ph]; omega)
 have e3:decide (([]:List D).length+(b.map D.str).length=(b.map D.str).length)=true:=pa (by simp only [pz,ph]; omega)
 have e4:decide ((b.map D.str).length+(List.map D.str nms).length≤4294967296)=true:=pa (by simp only [ph]; omega)
 have g1:=zcy hj hx (FQ m n 8 nm kids nms pl b b k j h);have g2:=zcy hj hx (FQ m n 8 nm kids nms pl b (b++nms) k j h);rw [zu,yf hj] at *;rw [e1];cases decide (j=1)
 ·exact g1
 ·exact g1
theorem ygn:H60 9:=λ m n nm kids nms pl b k j h x hb hj hx=>by
 refine (z7c (zca m) p93 q60 u98 n k h (b.map .str) nm kids nms pl j).trans ?_;have e1:decide ((j:Int)=1)=decide (j=1):=dI j 1;have e0:decide ((j:Int)=0)=decide (j=0):=dI j 0;have e2:decide (([]:List D).length+(b.map D.str).length≤4294967296)=true:=pa (by simp only [pz,ph]; omega)
 have e3:decide (([]:List D).length+(b.map D.str).length=(b.map D.str).length)=true:=pa (by simp only [pz,ph]; omega)
 have e4:decide ((b.map D.str).length+(List.map D.str nms).length≤4294967296)=true:=pa (by simp only [ph]; omega)
 have g1:=zcy hj hx (FQ m n 9 nm kids nms pl b b k j h);have g2:=zcy hj hx (FQ m n 9 nm kids nms pl b (b++nms) k j h);rw [zu,yf hj] at *;rw [e1];cases decide (j=1)
 ·exact g1
 ·exact g1
theorem ycw:H60 10:=λ m n nm kids nms pl b k j h x hb hj hx=>by
 refine (z1v (zca m) p93 q60 u98 n k h (b.map .str) nm kids nms pl j).trans ?_;have e1:decide ((j:Int)=1)=decide (j=1):=dI j 1;have e0:decide ((j:Int)=0)=decide (j=0):=dI j 0;have e2:decide (([]:List D).length+(b.map D.str).length≤4294967296)=true:=pa (by simp only [pz,ph]; omega)
 have e3:decide (([]:List D).length+(b.map D.str).length=(b.map D.str).length)=true:=pa (by simp only [pz,ph]; omega)
 have e4:decide ((b.map D.str).length+(List.map D.str nms).length≤4294967296)=true:=pa (by simp only [ph]; omega)
 have g1:=zcy hj hx (FQ m n 10 nm kids nms pl b b k j h);have g2:=zcy hj hx (FQ m n 10 nm kids nms pl b (b++nms) k j h);rw [zu,yf hj] at *;rw [e1];cases decide (j=1)
 ·exact g1
 ·exact g1
theorem ycv:H60 11:=λ m n nm kids nms pl b k j h x hb hj hx=>by
 refine (z1u (zca m) p93 q60 u98 n k h (b.map .str) nm kids nms pl j).trans ?_;have e1:decide ((j:Int)=1)=decide (j=1):=dI j 1;have e0:decide ((j:Int)=0)=decide (j=0):=dI j 0;have e2:decide (([]:List D).length+(b.map D.str).length≤4294967296)=true:=pa (by simp only [pz,ph]; omega)
 have e3:decide (([]:List D).length+(b.map D.str).length=(b.map D.str).length)=true:=pa (by simp only [pz,ph]; omega)
 have e4:decide ((b.map D.str).length+(List.map D.str nms).length≤4294967296)=true:=pa (by simp only [ph]; omega)
 have g1:=zcy hj hx (FQ m n 11 nm kids nms pl b b k j h);have g2:=zcy hj hx (FQ m n 11 nm kids nms pl b (b++nms) k j h);rw [zu,yf hj] at *;rw [e1,e0];cases decide (j=1) <;> cases decide (j=0) <;> first | exact g1 | rfl
theorem z9b{k:Int}(h:k=2∨k=3∨k=4∨k=5∨k=6∨k=7∨k=8∨k=9∨k=10∨k=11):H60 k:=by
 rcases h with rfl | rfl | rfl | rfl | rfl | rfl | rfl | rfl | rfl | rfl
 ·exact ygu
 ·exact ygt
 ·exact ygs
 ·exact ygr
 ·exact ygq
 ·exact ygp
 ·exact ygo
 ·exact ygn
 ·exact ycw
 ·exact ycv
theorem yc2{k:Int}{kids:List T}(h:Shp k kids):k=1∨(k=2∨k=3∨k=4∨k=5∨k=6∨k=7∨k=8∨k=9∨k=10∨k=11):=by
 cases h <;> omega
theorem z7y{k:Int}{kids:List T}(h:Shp k kids){j:Nat}{x:T}(hx:kids[j]?=some x):((decide (k=7)&&decide (j=1))||(decide (k=11)&&decide (j=0)))=true∨(zg x||ym x)=true:=by
 cases h with
 | nam h e=>subst e; simp at hx
 | lam h e ha=>
  subst e;rcases j with _ | j
  ·simp at hx; subst hx; right; rw [ha]; rfl
  ·simp at hx
 | all h ha=>exact .inr (ha x (pq hx))
 | pi h e ha hb=>
  subst e;rcases j with _ | _ | j
  ·simp at hx; subst hx; right; rw [ha]; rfl
  ·simp at hx; subst hx; right; rw [hb]; rfl
  ·simp at hx
 | «at» h e ha=>
  subst e; subst h;rcases j with _ | _ | j
  ·simp at hx; subst hx; right; rw [ha]; rfl
  ·left; rfl
  ·simp at hx
 | elem h e ha=>
  subst e; subst h;rcases j with _ | j
  ·left; rfl
  ·right;exact ha x (pq (i:=j) (by simpa using hx))
theorem zvd{x:T}:∀ {l:List T},x∈l→zcu x≤x7 l
 | y::r,h=>by
  simp only [x7];cases h with
  | head=>omega
  | tail _ h=>have:=zvd h; omega
theorem z7k(m n:Nat){kk:Int}(hk:kk=2∨kk=3∨kk=4∨kk=5∨kk=6∨kk=7∨kk=8∨kk=9∨kk=10∨kk=11)(nm:List UInt8)(kids:List T)(nms:List (List UInt8))(pl:Int)(b:List (List UInt8))(k:Nat)(h:List D):LQ m n kk nm kids nms pl b (k+1) kids.length h=some (.ret (.d (.sl 1 h)),[]):=by
 have lds:=zu kids;rcases hk with rfl | rfl | rfl | rfl | rfl | rfl | rfl | rfl | rfl | rfl
 ·have g:=z7j (zca m) p93 q60 u98 n k h (b.map .str) nm kids nms pl kids.length;rw [lds,yw,px] at g;exact g
 ·have g:=z7i (zca m) p93 q60 u98 n k h (b.map .str) nm kids nms pl kids.length;rw [lds,yw,px] at g;exact g
 ·have g:=z7h (zca m) p93 q60 u98 n k h (b.map .str) nm kids nms pl kids.length;rw [lds,yw,px] at g;exact g
 ·have g:=z7g (zca m) p93 q60 u98 n k h (b.map .str) nm kids nms pl kids.length;rw [lds,yw,px] at g;exact g
 ·have g:=z7f (zca m) p93 q60 u98 n k h (b.map .str) nm kids nms pl kids.length;rw [lds,yw,px] at g;exact g
 ·have g:=z7e (zca m) p93 q60 u98 n k h (b.map .str) nm kids nms pl kids.length;rw [lds,yw,px] at g;exact g
 ·have g:=z7d (zca m) p93 q60 u98 n k h (b.map .str) nm kids nms pl kids.length;rw [lds,yw,px] at g;exact g
 ·have g:=z7c (zca m) p93 q60 u98 n k h (b.map .str) nm kids nms pl kids.length;rw [lds,yw,px] at g;exact g
 ·have g:=z1v (zca m) p93 q60 u98 n k h (b.map .str) nm kids nms pl kids.length;rw [lds,yw,px] at g;exact g
 ·have g:=z1u (zca m) p93 q60 u98 n k h (b.map .str) nm kids nms pl kids.length;rw [lds,yw,px] at g;exact g
theorem m60:∀ m,zu0 m
 | 0=>λ t b l hd _ _=>by cases t; simp only [T.depth] at hd; omega
 | m+1=>λ t b l hd ho hg=>by
  obtain ⟨k,nm,kids,nms,pl⟩:=t;obtain ⟨hr,hb,hl⟩:=zci.1 hg;have hsh:=z40 hr;have ho2:=ho;simp only [T.ok,pm] at ho2;obtain ⟨⟨⟨⟨o1,o2⟩,o3⟩,o4⟩,o5⟩:=ho2;simp only [T.depth] at hd;simp only [zcu] at hb hl;have hbs:yn b=true:=pa (by omega)
  refine zm (z32 (m60 m)) (N:=kids.length+1) ?_;refine (yh2 (zca m) p93 q60 u98 _ _ _ _ _ _ _ _).trans ?_;by_cases h1:k=1
  ·subst h1;have e1:decide ((1:Int)=1)=true:=rfl;have e2:p93 (.sl 1 (b.map .str)) nm=some (y4 nm b):=by unfold p93; rw [zdb hbs]; rfl
   have e3:u98 (.sl 1 (l.map .str)) nm=some ((zb9 l nm).map .str):=by
    unfold u98; rw [zdb (pa (by omega))]
    show zb (decide (l.length+1<4294967296)) _=_;rw [pa (by omega)]; rfl
   show zc (p93 (.sl 1 (b.map .str)) nm) (λ x=>bif x then some (Out.ret (V.d (.sl 1 (l.map .str))),[]) else zb (decide (nm.length≤big)) (bif decide (0≤q60 nm) then some (Out.ret (V.d (.sl 1 (l.map .str))),[]) else zc (u98 (.sl 1 (l.map .str)) nm) λ c=>some (Out.ret (V.d (.sl 1 c)),[])))=some (Out.ret (V.d (.sl 1 ((bif y4 nm b||xo nm then l else zb9 l nm).map .str))),[])
   rw [e2,zaj o1,z49,e3];cases y4 nm b
   ·cases xo nm <;> rfl
   ·rfl
  ·rw [pb h1,px];have hks:=(yc2 hsh).resolve_left h1;have H:=z9b hks
   have hx:=yda (λ k' i (s:List (List UInt8))=>LQ m (kids.length+1) k nm kids nms pl b k' i (s.map .str)) kids
    (λ i acc t=>bif (decide (k=7)&&decide (i=1))||(decide (k=11)&&decide (i=0)) then acc
      else xx t (bif decide (k=2)||(decide (i=1)&&(decide (k=4)||decide (k=5))) then b++nms else b) acc)
    (λ l i acc=>qg l k nms b i acc) (λ i s=>by simp only [qg]) (λ x r i s=>by simp only [qg])
    (λ j s=>s.length+x7 (kids.drop j)<2147483648) (λ s=>some (.ret (.d (.sl 1 (s.map .str))),[])) (yp o2)
    (λ k' j x s hj hx hi=>by
     have hmem:=pq hx;have hdr:kids.drop j=x::kids.drop (j+1):=by
      have:=List.drop_eq_getElem_cons hj;rw [p4 hj] at hx;cases hx;exact this
     have hc:=zvd hmem;rw [hdr] at hi;simp only [x7] at hi;have hstep:=H m (kids.length+1) nm kids nms pl b k' j (s.map .str) x (by omega) hj hx
     have hv:=z7y hsh hx;refine ⟨hstep.trans ?_,?_⟩
     ·cases hsk:(decide (k=7)&&decide (j=1))||(decide (k=11)&&decide (j=0))
      ·have hre:=hv.resolve_left (by rw [hsk]; simp)
       simp only [px];generalize hbb:(bif decide (k=2)||(decide (j=1)&&(decide (k=4)||decide (k=5))) then b++nms else b)=bb
       have hbl:bb.length≤b.length+nms.length:=by
        rw [←hbb];cases decide (k=2)||(decide (j=1)&&(decide (k=4)||decide (k=5)))
        ·simp
        ·simp
       unfold FQ;rw [zud (by have:=zbv hmem; omega) (wx o5 hmem) (zci.2 ⟨hre,by omega,by omega⟩)]
       rfl
      ·rfl
     ·cases (decide (k=7)&&decide (j=1))||(decide (k=11)&&decide (j=0))
      ·simp only [px];have:=zf8 x (bif decide (k=2)||(decide (j=1)&&(decide (k=4)||decide (k=5))) then b++nms else b) s
       omega
      ·simp only [pw]; omega)
    (λ k' s=>z7k m _ hks nm kids nms pl b k' _) (s:=l) (by rw [List.drop_zero]; omega) (k:=kids.length+1) (Nat.lt_succ_self _)
   have eg:xx (.mk k nm kids nms pl) b l=qg kids k nms b 0 l:=by
    unfold xx;rw [pb h1]; rfl
   rw [eg];exact hx
theorem m52(l:List T)(hs:yn l=true)(ho:T.oks l=true)(hr:∀ t∈l,(zg t||ym t)=true)(hc:x7 l<2147483648):zj cx 52 [.d (.sl 5 (T.ds l))] []=some (.ret (.d (.sl 1 ((wa [] [] l).map .str))),[]):=by
 have hk:knows cx (zr4 (zbi (T.depths l))).S (zj cx):=zo1 (m88 _) zp;refine zm hk (N:=l.length+1) ?_;rw [yh8,zu]
 have h:=zj0 (λ k i (s:List (List UInt8))=>LP cx (zr4 (zbi (T.depths l))) (l.length+1) 52 0 3 k [(3,V.ptr 3 0),(6,V.d (D.sl 5 (T.ds l))),(7,V.d (D.int .i64 (l.length:Int))),(8,V.d (D.int .i64 i))] [(3,Ob.val 1 (V.sl 1 (s.map .str) 20)),(20,Ob.tok (s.map D.str).length)] (AK cx (zr4 (zbi (T.depths l))) (l.length+1) 52 0 3 (EK cx 52 0)))
  l (λ a t=>xx t [] a) (λ j s=>s.length+x7 (l.drop j)<2147483648) (λ s=>some (.ret (.d (.sl 1 (s.map .str))),[])) (yp hs)
  (λ k j x s hj hx hi=>by
   have hmem:=pq hx;have hdr:l.drop j=x::l.drop (j+1):=by
    have:=List.drop_eq_getElem_cons hj;rw [p4 hj] at hx;cases hx;exact this
   have hcm:=zvd hmem;rw [hdr] at hi;simp only [x7] at hi;have hg:=zf8 x [] s;refine ⟨?_,by omega⟩
   refine (yfp (zbi (T.depths l)) (l.length+1) k l (s.map .str) j).trans ?_;rw [yf hj,zu,yf hj,y8,yh,po,hx];show za x.d.cells 0 _=_;rw [yk];simp only [xu,vk,vj,vi,vh,we];have hsp:=zjs (m:=T.depths l) (b:=[]) (l:=s) (zbv hmem) (wx ho hmem) (zci.2 ⟨hr x hmem,by simp only [pz]; omega,by omega⟩)
   show zc (zbi (T.depths l) x.d (.sl 1 (([]:List (List UInt8)).map .str)) (s.map .str)) _=_;rw [hsp];show zb _ _=_;rw [Nat.beq_refl];rfl)
  (λ k s=>by
   refine (yfp (zbi (T.depths l)) (l.length+1) k l (s.map .str) l.length).trans ?_;rw [yw,px]) (s:=[]) (by rw [List.drop_zero]; simp only [pz]; omega) (k:=l.length+1) (Nat.lt_succ_self _)
 exact h
def qx:List V→Option D | [.d x]=>some x | _=>none
def zjo(f:D→Option (List UInt8×Int)):CK R1:=z7 87 qx f mkE (CK.plain zo)
def zdq(f:D→Option (List UInt8×Int)):CK R1:=z7 92 qx f mkE (CK.plain zo)
def z6v(a:List V)(σ:St):Option (List D×Nat):=match a,σ with | [.slo 0 1 n],[(0,.row l)]=>some (l,n) | _,_=>none
def ygf(s:List D→Option (List D))(S:CK R1):CK R1:=more 49 z6v (λ K q=>zc (s q.1) λ l=>zb (Nat.beq q.2 q.1.length) (K (.ret (.tup [])) [(0,.row l)]))
  (λ K q=>by
   simp only;rw [zal];congr 1;funext s;simp only [zb,vn];rfl) S
def mkM(q:List D×List D):V:=.tup [.d (.map q.1 q.2),.d (.int .i64 0)]
def z5i(e:Int):V:=.tup [.d .nilmap,.d (.int .i64 e)]
def z9a(pl:D→Option Int):CK R1:=z7 51 qx pl z5i (CK.plain zo)
def zbc(pl:D→Option (List D×List D))(al:D→Option (List D))(s:List D→Option (List D)):CK R1:=
 z7 51 qx pl mkM (z7 52 qx al (λ x=>.d (.sl 1 x)) (ygf s (CK.plain zo)))
def zzn:List V→Option (D×(Int×Int)) | [.d x,.d (.int .i64 i),.d (.int .i64 k)]=>some (x,(i,k)) | _=>none
def yge(sp:D→D→D→Option (List D))(p:D→List UInt8→Option Bool):CK R1:=z7 60 zx2 (λ x=>sp x.1 x.2.1 x.2.2) (λ x=>.d (.sl 1 x)) (z7 93 zgz (λ q=>p q.1 q.2) mkB (CK.plain zo))
def zch(w:D→Option Int)(u:D→Int→Int→Option Bool):CK R1:=z7 56 qx w mkI (z7 57 zzn (λ q=>u q.1 q.2.1 q.2.2) mkB (CK.plain zo))
theorem yh9(f:D→Option (List UInt8×Int))(n:Nat)(l:List T):zn cx (zjo f) n 51 [.d (.sl 5 (T.ds l))] []=zc (f (D.sl 5 (T.ds l))) λ b=>bif decide (b.snd=(61:Int)) then some (Out.ret (V.tup [V.d D.nilmap,V.d (D.int .i64 b.snd)]),[]) else LP cx (zjo f) n 51 0 6 n [(6,V.map 19),(20,V.d (D.sl 5 (T.ds l))),(21,V.d (D.int .i64 (↑(T.ds l).length:Int))),(22,V.d (D.int .i64 (0:Int)))] [(19,Ob.map [] [])] (AK cx (zjo f) n 51 0 6 (EK cx 51 0)):=by kernel_rfl
theorem yh4(f:D→Option (List UInt8×Int))(n:Nat)(l:List T):zn cx (zdq f) n 56 [.d (.sl 5 (T.ds l))] []=zc (f (D.sl 5 (T.ds l))) λ b=>bif decide (b.snd=(61:Int)) then some (Out.ret (V.d (D.int .i64 (61:Int))),[]) else LP cx (zdq f) n 56 0 5 n [(0,V.d (D.sl 5 (T.ds l))),(5,V.d (D.int .i64 (0:Int)))] [] (AK cx (zdq f) n 56 0 5 (EK cx 56 0)):=by kernel_rfl
theorem yf8(pl:D→Option Int)(n:Nat)(l:List T):zn cx (z9a pl) n 24 [.d (.sl 5 (T.ds l))] []=zc (pl (D.sl 5 (T.ds l))) λ b=>bif !decide (b=(0:Int)) then some (Out.ret (V.tup [V.d (D.sl 1 []),V.d (D.int .i64 b)]),[]) else LP cx (z9a pl) n 24 0 6 n [(4,V.d D.nilmap),(6,V.sl 1 [] 6),(22,V.d (D.sl 5 (T.ds l))),(23,V.d (D.int .i64 (↑(T.ds l).length:Int))),(24,V.d (D.int .i64 (0:Int)))] [(6,Ob.tok 0)] (AK cx (z9a pl) n 24 0 6 (EK cx 24 0)):=by kernel_rfl
theorem yij(pl:D→Option (List D×List D))(al:D→Option (List D))(s:List D→Option (List D))(n:Nat)(l:List T):zn cx (zbc pl al s) n 24 [.d (.sl 5 (T.ds l))] []=zc (pl (D.sl 5 (T.ds l))) λ b=>LP cx (zbc pl al s) n 24 0 6 n [(4,V.d (D.map b.1 b.2)),(6,V.sl 1 [] 6),(22,V.d (D.sl 5 (T.ds l))),(23,V.d (D.int .i64 (↑(T.ds l).length:Int))),(24,V.d (D.int .i64 (0:Int)))] [(6,Ob.tok 0)] (AK cx (zbc pl al s) n 24 0 6 (EK cx 24 0)):=by kernel_rfl
theorem yh3(sp:D→D→D→Option (List D))(p:D→List UInt8→Option Bool)(n:Nat)(l:List T)(i k:Int):zn cx (yge sp p) n 57 [.d (.sl 5 (T.ds l)),.d (.int .i64 i),.d (.int .i64 k)] []=zb (decide (0≤i)&&decide (i<(↑(T.ds l).length:Int))) (za (T.ds l) i.toNat λ y=>za y.cells 2 λ c=>match c with
 | D.sl s l_1=>bif s.beq (cx.P.cellsOf 26)||l_1.isEmpty then zb (decide ((0:Int)<(↑l_1.length:Int))) (za l_1 (0:Int).toNat λ y=>za y.cells 0 λ c=>za y.cells 1 λ c_1=>za y.cells 2 λ c_2=>za y.cells 3 λ c_3=>za y.cells 4 λ c_4=>zc (sp (D.sl 1 [],D.agg [c,c_1,c_2,c_3,c_4],D.sl 1 []).fst (D.sl 1 [],D.agg [c,c_1,c_2,c_3,c_4],D.sl 1 []).snd.fst (D.sl 1 [],D.agg [c,c_1,c_2,c_3,c_4],D.sl 1 []).snd.snd) λ b=>zb (decide (0≤i)&&decide (i<(↑(T.ds l).length:Int))) (za (T.ds l) i.toNat λ y=>za y.cells 2 λ c=>match c with
  | D.sl s l_2=>bif s.beq (cx.P.cellsOf 26)||l_2.isEmpty then zb (decide ((1:Int)<(↑l_2.length:Int))) (za l_2 (1:Int).toNat λ y=>za y.cells 0 λ c=>za y.cells 1 λ c_5=>za y.cells 2 λ c_6=>za y.cells 3 λ c_7=>za y.cells 4 λ c_8=>zc (sp (D.sl 1 b,D.agg [c,c_5,c_6,c_7,c_8],D.sl 1 []).fst (D.sl 1 b,D.agg [c,c_5,c_6,c_7,c_8],D.sl 1 []).snd.fst (D.sl 1 b,D.agg [c,c_5,c_6,c_7,c_8],D.sl 1 []).snd.snd) λ b=>zb (decide (0≤k)&&decide (k<(↑(T.ds l).length:Int))) (za (T.ds l) k.toNat λ y=>za y.cells 1 λ c=>match c with
   | D.str s=>zc (p (D.sl 1 b,s).fst (D.sl 1 b,s).snd) λ b=>some (Out.ret (V.d (D.bool b)),[])
   | x=>none)) else none
  | x=>none)) else none
 | x=>none):=by kernel_rfl
theorem yih(w:D→Option Int)(u:D→Int→Int→Option Bool)(n:Nat)(l:List T):zn cx (zch w u) n 29 [.d (.sl 5 (T.ds l))] []=zc (w (D.sl 5 (T.ds l))) λ b=>bif !decide (b=(0:Int)) then some (Out.ret (V.tup [V.d (D.sl 1 []),V.d (D.int .i64 b)]),[]) else LP cx (zch w u) n 29 0 6 n [(0,V.d (D.sl 5 (T.ds l))),(5,V.sl 1 [] 5),(6,V.d (D.int .i64 (0:Int)))] [(5,Ob.tok 0)] (AK cx (zch w u) n 29 0 6 (EK cx 29 0)):=by kernel_rfl
theorem yfq(f:D→Option (List UInt8×Int))(n k:Nat)(l:List T)(ks vs:List D)(i:Int):LP cx (zjo f) n 51 0 6 (k+1) [(6,V.map 19),(20,V.d (D.sl 5 (T.ds l))),(21,V.d (D.int .i64 (l.length:Int))),(22,V.d (D.int .i64 i))] [(19,Ob.map ks vs)] (AK cx (zjo f) n 51 0 6 (EK cx 51 0))=bif decide (i<(↑l.length:Int)) then zb (decide (0≤i)&&decide (i<(↑(T.ds l).length:Int))) (za (T.ds l) i.toNat λ y=>za y.cells 0 λ c=>za y.cells 1 λ c=>za y.cells 2 λ c_1=>za y.cells 3 λ c_2=>za y.cells 4 λ c_3=>match c with
 | D.str s=>zc (qp (D.str s) ks 0) λ o=>zkn o (λ i=>za vs i λ y=>match y with
  | D.int k' n=>bif decide (k'=IntKind.i64) then some (Out.ret (V.tup [V.d D.nilmap,V.d (D.int .i64 (270:Int))]),[]) else none
  | x=>none) (match c with
  | D.str s=>zc (qp (D.str s) ks 0) λ o=>zkn o (λ i_1=>LP cx (zjo f) n 51 0 6 k [(6,V.map 19),(20,V.d (D.sl 5 (T.ds l))),(21,V.d (D.int .i64 (↑l.length:Int))),(22,V.d (D.int .i64 (IntKind.i64.wrap (i+(1:Int)))))] [(19,Ob.map ks (vs.set i_1 (D.int .i64 i)))] (AK cx (zjo f) n 51 0 6 (EK cx 51 0))) (LP cx (zjo f) n 51 0 6 k [(6,V.map 19),(20,V.d (D.sl 5 (T.ds l))),(21,V.d (D.int .i64 (↑l.length:Int))),(22,V.d (D.int .i64 (IntKind.i64.wrap (i+(1:Int)))))] [(19,Ob.map (ks++[D.str s]) (vs++[D.int .i64 i]))] (AK cx (zjo f) n 51 0 6 (EK cx 51 0)))
  | x=>none)
 | x=>none) else some (Out.ret (V.tup [V.d (D.map ks vs),V.d (D.int .i64 (0:Int))]),[]):=by kernel_rfl
theorem z96(f:D→Option (List UInt8×Int))(n k:Nat)(l:List T)(i:Int):LP cx (zdq f) n 56 0 5 (k+1) [(0,V.d (D.sl 5 (T.ds l))),(5,V.d (D.int .i64 i))] [] (AK cx (zdq f) n 56 0 5 (EK cx 56 0))=bif decide (i<(↑(T.ds l).length:Int)) then LP cx (zdq f) n 56 0 8 n [(0,V.d (D.sl 5 (T.ds l))),(5,V.d (D.int .i64 i)),(6,V.d (D.int .i64 (0:Int)))] [] (AL cx (zdq f) n 56 0 5 8 (inK cx (zdq f) n 56 0 5 k (AK cx (zdq f) n 56 0 5 (EK cx 56 0)))) else some (Out.ret (V.d (D.int .i64 (0:Int))),[]):=by kernel_rfl
theorem yfx(pl:D→Option (List D×List D))(al:D→Option (List D))(s:List D→Option (List D))(n k:Nat)(l:List T)(ks vs L:List D)(i:Int):LP cx (zbc pl al s) n 24 0 6 (k+1) [(4,V.d (D.map ks vs)),(6,V.sl 1 L 6),(22,V.d (D.sl 5 (T.ds l))),(23,V.d (D.int .i64 (l.length:Int))),(24,V.d (D.int .i64 i))] [(6,Ob.tok L.length)] (AK cx (zbc pl al s) n 24 0 6 (EK cx 24 0))=bif decide (i<(↑l.length:Int)) then zb (decide (0≤i)&&decide (i<(↑(T.ds l).length:Int))) (za (T.ds l) i.toNat λ y=>za y.cells 0 λ c=>za y.cells 1 λ c=>za y.cells 2 λ c=>za y.cells 3 λ c_1=>za y.cells 4 λ c_2=>match c with
 | D.sl s_1 l_1=>bif s_1.beq (cx.P.cellsOf 26)||l_1.isEmpty then zc (al (D.sl 5 l_1)) λ b=>LP cx (zbc pl al s) n 24 0 10 n [(4,V.d (D.map ks vs)),(6,V.sl 1 L 6),(9,V.slo 9 1 0),(22,V.d (D.sl 5 (T.ds l))),(23,V.d (D.int .i64 (↑l.length:Int))),(24,V.d (D.int .i64 i)),(30,V.d (D.sl 1 b)),(31,V.d (D.int .i64 (↑b.length:Int))),(32,V.d (D.int .i64 (0:Int)))] [(6,Ob.tok L.length),(9,Ob.row [])] (AL cx (zbc pl al s) n 24 0 6 10 (inK cx (zbc pl al s) n 24 0 6 k (AK cx (zbc pl al s) n 24 0 6 (EK cx 24 0)))) else none
 | x=>none) else some (Out.ret (V.tup [V.d (D.sl 1 L),V.d (D.int .i64 (0:Int))]),[]):=by kernel_rfl
theorem yfv(w:D→Option Int)(u:D→Int→Int→Option Bool)(n k:Nat)(l:List T)(L:List D)(i:Int):LP cx (zch w u) n 29 0 6 (k+1) [(0,V.d (D.sl 5 (T.ds l))),(5,V.sl 1 L 5),(6,V.d (D.int .i64 i))] [(5,Ob.tok L.length)] (AK cx (zch w u) n 29 0 6 (EK cx 29 0))=bif decide (i<(↑(T.ds l).length:Int)) then LP cx (zch w u) n 29 0 10 n [(0,V.d (D.sl 5 (T.ds l))),(5,V.sl 1 L 5),(6,V.d (D.int .i64 i)),(7,V.sl 1 [] 7),(8,V.d (D.int .i64 (0:Int)))] [(5,Ob.tok L.length),(7,Ob.tok 0)] (AL cx (zch w u) n 29 0 6 10 (inK cx (zch w u) n 29 0 6 k (AK cx (zch w u) n 29 0 6 (EK cx 29 0)))) else some (Out.ret (V.tup [V.d (D.sl 1 L),V.d (D.int .i64 (0:Int))]),[]):=by kernel_rfl
theorem z95(f:D→Option (List UInt8×Int))(n k m:Nat)(l:List T)(i j:Int):LP cx (zdq f) n 56 0 8 (m+1) [(0,V.d (D.sl 5 (T.ds l))),(5,V.d (D.int .i64 i)),(6,V.d (D.int .i64 j))] [] (AL cx (zdq f) n 56 0 5 8 (inK cx (zdq f) n 56 0 5 k (AK cx (zdq f) n 56 0 5 (EK cx 56 0))))=bif decide (j<i) then zb (decide (0≤i)&&decide (i<(↑(T.ds l).length:Int))) (za (T.ds l) i.toNat λ y=>za y.cells 1 λ c=>match c with
 | D.str s=>zb (decide (0≤j)&&decide (j<(↑(T.ds l).length:Int))) (za (T.ds l) j.toNat λ y=>za y.cells 1 λ c=>match c with
  | D.str s_1=>bif decide (s=s_1) then some (Out.ret (V.d (D.int .i64 (270:Int))),[]) else LP cx (zdq f) n 56 0 8 m [(0,V.d (D.sl 5 (T.ds l))),(5,V.d (D.int .i64 i)),(6,V.d (D.int .i64 (IntKind.i64.wrap (j+(1:Int)))))] [] (AL cx (zdq f) n 56 0 5 8 (inK cx (zdq f) n 56 0 5 k (AK cx (zdq f) n 56 0 5 (EK cx 56 0))))
  | x=>none)
 | x=>none) else LP cx (zdq f) n 56 0 5 k [(0,V.d (D.sl 5 (T.ds l))),(5,V.d (D.int .i64 (IntKind.i64.wrap (i+(1:Int)))))] [] (AK cx (zdq f) n 56 0 5 (EK cx 56 0)):=by kernel_rfl
theorem yab(pl:D→Option (List D×List D))(al:D→Option (List D))(s:List D→Option (List D))(n k m:Nat)(l:List T)(ks vs L U:List D)(b:List (List UInt8))(i j:Int):LP cx (zbc pl al s) n 24 0 10 (m+1) [(4,V.d (D.map ks vs)),(6,V.sl 1 L 6),(9,V.slo 9 1 U.length),(22,V.d (D.sl 5 (T.ds l))),(23,V.d (D.int .i64 (l.length:Int))),(24,V.d (D.int .i64 i)),(30,V.d (D.sl 1 (b.map .str))),(31,V.d (D.int .i64 (b.length:Int))),(32,V.d (D.int .i64 j))] [(6,Ob.tok L.length),(9,Ob.row U)] (AL cx (zbc pl al s) n 24 0 6 10 (inK cx (zbc pl al s) n 24 0 6 k (AK cx (zbc pl al s) n 24 0 6 (EK cx 24 0))))=bif decide (j<(↑b.length:Int)) then zb (decide (0≤j)&&decide (j<(↑(List.map D.str b).length:Int))) (za (List.map D.str b) j.toNat λ y=>za y.cells 0 λ c=>match c with
 | D.str s_1=>zc (qp (D.str s_1) ks 0) λ o=>zkn o (λ i_1=>za vs i_1 λ y=>match y with
  | D.int k' n_1=>bif decide (k'=IntKind.i64) then zb (U.length.beq U.length&&decide (U.length+[D.int .i64 n_1].length≤4294967296)) (LP cx (zbc pl al s) n 24 0 10 m [(4,V.d (D.map ks vs)),(6,V.sl 1 L 6),(9,V.slo 9 1 (U.length+[D.int .i64 n_1].length)),(22,V.d (D.sl 5 (T.ds l))),(23,V.d (D.int .i64 (↑l.length:Int))),(24,V.d (D.int .i64 i)),(30,V.d (D.sl 1 (List.map D.str b))),(31,V.d (D.int .i64 (↑b.length:Int))),(32,V.d (D.int .i64 (IntKind.i64.wrap (j+(1:Int)))))] [(6,Ob.tok L.length),(9,Ob.row (U++[D.int .i64 n_1]))] (AL cx (zbc pl al s) n 24 0 6 10 (inK cx (zbc pl al s) n 24 0 6 k (AK cx (zbc pl al s) n 24 0 6 (EK cx 24 0))))) else none
  | x=>none) (LP cx (zbc pl al s) n 24 0 10 m [(4,V.d (D.map ks vs)),(6,V.sl 1 L 6),(9,V.slo 9 1 U.length),(22,V.d (D.sl 5 (T.ds l))),(23,V.d (D.int .i64 (↑l.length:Int))),(24,V.d (D.int .i64 i)),(30,V.d (D.sl 1 (List.map D.str b))),(31,V.d (D.int .i64 (↑b.length:Int))),(32,V.d (D.int .i64 (IntKind.i64.wrap (j+(1:Int)))))] [(6,Ob.tok L.length),(9,Ob.row U)] (AL cx (zbc pl al s) n 24 0 6 10 (inK cx (zbc pl al s) n 24 0 6 k (AK cx (zbc pl al s) n 24 0 6 (EK cx 24 0)))))
 | x=>none) else zc (s (U,U.length).fst) λ l_1=>zb ((U,U.length).snd.beq (U,U.length).fst.length) (zb (U.length.beq l_1.length) (zb (decide (L.length=L.length)&&decide (L.length+[D.sl 1 l_1].length≤4294967296)) (LP cx (zbc pl al s) n 24 0 6 k [(4,V.d (D.map ks vs)),(6,V.sl 1 (L++[D.sl 1 l_1]) 6),(22,V.d (D.sl 5 (T.ds l))),(23,V.d (D.int .i64 (↑l.length:Int))),(24,V.d (D.int .i64 (IntKind.i64.wrap (i+(1:Int)))))] [(6,Ob.tok (L.length+[D.sl 1 l_1].length))] (AK cx (zbc pl al s) n 24 0 6 (EK cx 24 0))))):=by kernel_rfl
theorem yaa(w:D→Option Int)(u:D→Int→Int→Option Bool)(n k m:Nat)(l:List T)(L U:List D)(i j:Int):LP cx (zch w u) n 29 0 10 (m+1) [(0,V.d (D.sl 5 (T.ds l))),(5,V.sl 1 L 5),(6,V.d (D.int .i64 i)),(7,V.sl 1 U 7),(8,V.d (D.int .i64 j))] [(5,Ob.tok L.length),(7,Ob.tok U.length)] (AL cx (zch w u) n 29 0 6 10 (inK cx (zch w u) n 29 0 6 k (AK cx (zch w u) n 29 0 6 (EK cx 29 0))))=bif decide (j<(↑(T.ds l).length:Int)) then zc (u (D.sl 5 (T.ds l),i,j).fst (D.sl 5 (T.ds l),i,j).snd.fst (D.sl 5 (T.ds l),i,j).snd.snd) λ b=>bif b then zb (decide (U.length=U.length)&&decide (U.length+[D.int .i64 j].length≤4294967296)) (LP cx (zch w u) n 29 0 10 m [(0,V.d (D.sl 5 (T.ds l))),(5,V.sl 1 L 5),(6,V.d (D.int .i64 i)),(7,V.sl 1 (U++[D.int .i64 j]) 7),(8,V.d (D.int .i64 (IntKind.i64.wrap (j+(1:Int)))))] [(5,Ob.tok L.length),(7,Ob.tok (U.length+[D.int .i64 j].length))] (AL cx (zch w u) n 29 0 6 10 (inK cx (zch w u) n 29 0 6 k (AK cx (zch w u) n 29 0 6 (EK cx 29 0))))) else LP cx (zch w u) n 29 0 10 m [(0,V.d (D.sl 5 (T.ds l))),(5,V.sl 1 L 5),(6,V.d (D.int .i64 i)),(7,V.sl 1 U 7),(8,V.d (D.int .i64 (IntKind.i64.wrap (j+(1:Int)))))] [(5,Ob.tok L.length),(7,Ob.tok U.length)] (AL cx (zch w u) n 29 0 6 10 (inK cx (zch w u) n 29 0 6 k (AK cx (zch w u) n 29 0 6 (EK cx 29 0)))) else zb (decide (L.length=L.length)&&decide (L.length+[D.sl 1 U].length≤4294967296)) (LP cx (zch w u) n 29 0 6 k [(0,V.d (D.sl 5 (T.ds l))),(5,V.sl 1 (L++[D.sl 1 U]) 5),(6,V.d (D.int .i64 (IntKind.i64.wrap (i+(1:Int)))))] [(5,Ob.tok (L.length+[D.sl 1 U].length))] (AK cx (zch w u) n 29 0 6 (EK cx 29 0))):=by kernel_rfl
def zbl(l:List T):Bool:=yn l&&T.oks l&&decide (12 * Sp.bulks l≤65536)
def zis(x:D):Option (List T):=zc (qy zr x) λ l=>zb (zbl l) (some l)
theorem vp{l:List T}:zbl l=true↔yn l=true∧T.oks l=true∧12 * Sp.bulks l≤65536:=by
 unfold zbl;rw [pm,pm,decide_eq_true_eq,and_assoc]
theorem zb0{x:D}{l:List T}(h:zis x=some l):x=.sl 5 (T.ds l)∧zbl l=true:=by
 obtain ⟨m,hm,h⟩:=zd h;obtain ⟨h1,h⟩:=zf h;cases h;obtain ⟨d,rfl,h2,_⟩:=zfy hm;exact ⟨by rw [(zg4 (λ x t h=>(wv h).1) h2).1],h1⟩
theorem zik{l:List T}(h:zbl l=true):zis (.sl 5 (T.ds l))=some l:=by
 obtain ⟨h1,h2,h3⟩:=vp.1 h;unfold zis;rw [zoy (λ t ht=>zij (wx h2 ht)) h1];show zb (zbl l) _=_;rw [h]; rfl
theorem zta:∀ l:List (List UInt8),l.length≤w7 l
 | []=>Nat.le_refl _
 | x::l=>by have:=zta l; simp only [w7,py]; omega
mutual
theorem zme:∀ t:T,zcu t≤xa t
 | .mk _ nm kids nms _=>by
  have:=zt1 kids;have:=zta nms;simp only [zcu,xa]; omega
theorem zt1:∀ l:List T,x7 l≤Sp.bulks l
 | []=>Nat.le_refl _
 | t::l=>by
  have:=zme t;have:=zt1 l;simp only [x7,Sp.bulks]; omega
end
theorem z65(t:T):1≤xa t:=by cases t; simp only [xa]; omega
theorem zgr:∀ l:List T,l.length≤Sp.bulks l
 | []=>Nat.le_refl _
 | t::l=>by have:=zgr l; have:=z65 t; simp only [Sp.bulks,py]; omega
def nmL(l:List T):List (List UInt8):=l.map T.nm
theorem zuq{l:List T}{j:Nat}{x:T}(hx:l[j]?=some x):(nmL l)[j]?=some x.nm:=by unfold nmL; rw [List.getElem?_map,hx]; rfl
def zb7:List (List UInt8)→List (List UInt8)→Bool
 | _,[]=>false
 | seen,s::r=>y4 s seen||zb7 (seen++[s]) r
def v7(l:List T):Int:=bif l.all yz then (bif zb7 [] (nmL l) then 270 else 0) else 61
theorem z8m(s:List UInt8)(l:List (List UInt8)):qa (l.map .str) s=y4 s l:=by
 unfold qa y4;rw [List.any_map];congr 1;funext x;show decide (s=x)=_;by_cases h:s=x
 ·subst h; rfl
 ·rw [pb h,pb (λ e=>h e.symm)]
theorem z4s(l:List (List UInt8)):(l.map D.str).all zpv=true:=by
 rw [List.all_map,List.all_eq_true]; intro x _; rfl
theorem cellT(t:T){R:Type}(F:D→D→D→D→D→Option R):(za t.d.cells 0 λ a=>za t.d.cells 1 λ b=>za t.d.cells 2 λ c=>za t.d.cells 3 λ d=>za t.d.cells 4 λ e=>F a b c d e)=F (.int .i64 t.k) (.str t.nm) (.sl 5 (T.ds t.kids)) (.sl 1 (t.nms.map .str)) (.int .i64 t.pl):=by
 rw [yk]; rfl
def f87(x:D):Option (List UInt8×Int):=zc (zis x) λ l=>some (zco l)
theorem zxi(l:List T):(zco l).2=bif l.all yz then 0 else 61:=by
 unfold zco; cases l.all yz <;> rfl
theorem yau(n:Nat)(l:List T)(hs:yn l=true):∀ (d j k:Nat),j+d=l.length→d<k →
  LP cx (zjo f87) n 51 0 6 k [(6,V.map 19),(20,V.d (D.sl 5 (T.ds l))),(21,V.d (D.int .i64 (l.length:Int))),(22,V.d (D.int .i64 (j:Int)))] [(19,Ob.map (((nmL l).take j).map .str) (nI (List.range j)))] (AK cx (zjo f87) n 51 0 6 (EK cx 51 0)) =
   bif zb7 ((nmL l).take j) ((nmL l).drop j) then some (.ret (z5i 270),[]) else some (.ret (mkM ((nmL l).map .str,nI (List.range l.length))),[]):=by
 intro d
 induction d with
 | zero=>
  intro j k hj hk;obtain ⟨k,rfl⟩:∃ k',k=k'+1:=⟨k - 1,by omega⟩
  obtain rfl:j=l.length:=by omega
  have hl:(nmL l).length=l.length:=ph _;rw [yfq,yw,px,List.drop_eq_nil_of_le (by omega),List.take_of_length_le (by omega)]
  rfl
 | succ d ih=>
  intro j k hj hk;obtain ⟨k,rfl⟩:∃ k',k=k'+1:=⟨k - 1,by omega⟩
  have hlt:j<l.length:=by omega
  have hx:=p4 hlt;generalize l[j]=x at hx;have hn:=zuq hx;have hlt2:j<(nmL l).length:=by unfold nmL; rw [ph]; exact hlt
  have hdr:(nmL l).drop j=x.nm::(nmL l).drop (j+1):=by
   rw [List.drop_eq_getElem_cons hlt2];rw [p4 hlt2] at hn;injection hn with hn; rw [hn]
  have htk:(nmL l).take (j+1)=(nmL l).take j++[x.nm]:=by
   rw [List.take_succ,hn]; rfl
  have hih:=ih (j+1) k (by omega) (by omega)
  rw [yfq,yf hlt,zu,yf hlt,y8,yh,po,hx];obtain ⟨o,ho,hi,hb⟩:=zm3 x.nm (((nmL l).take j).map .str) 0 (z4s _);rw [z8m] at hi;rw [hdr];show (za x.d.cells 0 _)=bif (y4 x.nm ((nmL l).take j)||zb7 ((nmL l).take j++[x.nm]) ((nmL l).drop (j+1))) then _ else _
  refine (cellT x (λ _ c _ _ _=>match c with
   | D.str s=>zc (qp (D.str s) (((nmL l).take j).map .str) 0) λ o=>zkn o (λ i=>za (nI (List.range j)) i λ y=>match y with
     | D.int k' n=>bif decide (k'=IntKind.i64) then some (Out.ret (z5i 270),[]) else none
     | _=>none)
    (match c with
     | D.str s=>zc (qp (D.str s) (((nmL l).take j).map .str) 0) λ o=>zkn o
      (λ i_1=>LP cx (zjo f87) n 51 0 6 k [(6,V.map 19),(20,V.d (D.sl 5 (T.ds l))),(21,V.d (D.int .i64 (l.length:Int))),(22,V.d (D.int .i64 (IntKind.i64.wrap ((j:Int)+1))))] [(19,Ob.map (((nmL l).take j).map .str) ((nI (List.range j)).set i_1 (D.int .i64 (j:Int))))] (AK cx (zjo f87) n 51 0 6 (EK cx 51 0)))
      (LP cx (zjo f87) n 51 0 6 k [(6,V.map 19),(20,V.d (D.sl 5 (T.ds l))),(21,V.d (D.int .i64 (l.length:Int))),(22,V.d (D.int .i64 (IntKind.i64.wrap ((j:Int)+1))))] [(19,Ob.map (((nmL l).take j).map .str++[D.str s]) (nI (List.range j)++[D.int .i64 (j:Int)]))] (AK cx (zjo f87) n 51 0 6 (EK cx 51 0)))
     | _=>none)
   | _=>none)).trans ?_
  show (zc (qp (D.str x.nm) (((nmL l).take j).map .str) 0) λ o=>zkn o _ (zc (qp (D.str x.nm) (((nmL l).take j).map .str) 0) λ o=>zkn o _ _))=_;rw [ho,←hi];cases o with
  | some i=>
   have:=hb i rfl;simp only [ph,List.length_take] at this;show (za (nI (List.range j)) i λ y=>_)=_;rw [zhj,List.getElem?_range (by omega)]
   rfl
  | none=>
   have e:((j:Int)+1)=((j+1:Nat):Int):=by omega
   have h1:((nmL l).take j).map D.str++[D.str x.nm]=((nmL l).take (j+1)).map D.str:=by rw [htk,List.map_append]; rfl
   have h2:nI (List.range j)++[D.int .i64 (j:Int)]=nI (List.range (j+1)):=by unfold nI; rw [List.range_succ,List.map_append]; rfl
   show LP cx (zjo f87) n 51 0 6 k _ [(19,Ob.map (((nmL l).take j).map D.str++[D.str x.nm]) (nI (List.range j)++[D.int .i64 (j:Int)]))] _=_;rw [IntWalk.i64_in _ (by have:=yp hs; omega),e,h1,h2,hih,htk]
   rfl
theorem xv{a:List V}{x:D}(h:qx a=some x):a=[.d x]:=by
 unfold qx at h; split at h <;> cases h; rfl
theorem m51(l:List T)(hg:zbl l=true):zj cx 51 [.d (.sl 5 (T.ds l))] []=some (.ret (bif decide (v7 l=0) then mkM ((nmL l).map .str,nI (List.range l.length)) else z5i (v7 l)),[]):=by
 have hk:knows cx (zjo f87).S (zj cx):=zk zp λ a q b hd h hb=>by
  obtain ⟨m,hm,hb⟩:=zd hb;cases hb;obtain ⟨h0,hg⟩:=zb0 hm;obtain ⟨h1,h2,h3⟩:=vp.1 hg;rw [xv h,h0];exact z8j m h1 h2 h3
 refine zm hk (N:=l.length+1) ?_;have e:f87 (.sl 5 (T.ds l))=some (zco l):=by unfold f87; rw [zik hg]; rfl
 rw [yh9,e];show (bif decide ((zco l).2=61) then some (Out.ret (V.tup [V.d D.nilmap,V.d (D.int .i64 (zco l).2)]),[]) else _)=_;rw [zxi];unfold v7;cases l.all yz
 ·rfl
 ·rw [zu];have e1:decide ((bif true then (0:Int) else 61)=61)=false:=rfl;rw [e1,px];refine (yau (l.length+1) l (vp.1 hg).1 l.length 0 (l.length+1) (by omega) (Nat.lt_succ_self _)).trans ?_
  show (bif zb7 [] (nmL l) then _ else _)=_;cases zb7 [] (nmL l) <;> rfl
def f92(x:D):Option (List UInt8×Int):=zc (zis x) λ l=>some (zco l)
theorem z5j{s:List UInt8}{L:List (List UInt8)}{j:Nat}{y:List UInt8}(hy:L[j]?=some y):y4 s (L.drop j)=(decide (s=y)||y4 s (L.drop (j+1))):=by
 have hlt:=(pn.1 hy).1;rw [List.drop_eq_getElem_cons hlt];have:L[j]=y:=(pn.1 hy).2;rw [this];show (decide (y=s)||_)=_
 by_cases h:y=s
 ·subst h; rfl
 ·rw [pb h,pb (λ e=>h e.symm)]; rfl
theorem z8f(n k:Nat)(l:List T)(hs:yn l=true)(i:Nat)(x:T)(hx:l[i]?=some x):∀ (d j m:Nat),j+d=i→d<m →
  LP cx (zdq f92) n 56 0 8 m [(0,V.d (D.sl 5 (T.ds l))),(5,V.d (D.int .i64 (i:Int))),(6,V.d (D.int .i64 (j:Int)))] [] (AL cx (zdq f92) n 56 0 5 8 (inK cx (zdq f92) n 56 0 5 k (AK cx (zdq f92) n 56 0 5 (EK cx 56 0)))) =
   bif y4 x.nm (((nmL l).take i).drop j) then some (.ret (mkI 270),[]) else LP cx (zdq f92) n 56 0 5 k [(0,V.d (D.sl 5 (T.ds l))),(5,V.d (D.int .i64 ((i+1:Nat):Int)))] [] (AK cx (zdq f92) n 56 0 5 (EK cx 56 0)):=by
 have hlt:i<l.length:=(pn.1 hx).1;intro d
 induction d with
 | zero=>
  intro j m hj hm;obtain ⟨m,rfl⟩:∃ k',m=k'+1:=⟨m - 1,by omega⟩
  obtain rfl:j=i:=by omega
  have e:((j:Int)+1)=((j+1:Nat):Int):=by omega
  rw [z95,yw,px,IntWalk.i64_in _ (by have:=yp hs; omega),e,List.drop_eq_nil_of_le (by simp only [List.length_take]; omega)]
  rfl
 | succ d ih=>
  intro j m hj hm;obtain ⟨m,rfl⟩:∃ k',m=k'+1:=⟨m - 1,by omega⟩
  have hjl:j<l.length:=by omega
  have hy:=p4 hjl;generalize l[j]=y at hy;have hih:=ih (j+1) m (by omega) (by omega)
  have hn:((nmL l).take i)[j]?=some y.nm:=by
   rw [List.getElem?_take_of_lt (by omega)]; exact zuq hy
  have e:((j:Int)+1)=((j+1:Nat):Int):=by omega
  rw [z95,yf (show j<i by omega),zu,yf hlt,y8,yf hjl,y8,yh,po,hx,z5j hn]
  show (za x.d.cells 1 _)=_;rw [yk];show (zb (true&&true) (za (T.ds l) (j:Int).toNat _))=_;rw [yh,po,hy];show (za y.d.cells 1 _)=_;rw [yk];show (bif decide (x.nm=y.nm) then _ else _)=_;rw [IntWalk.i64_in _ (by have:=yp hs; omega),e,hih]
  cases decide (x.nm=y.nm) <;> rfl
theorem z8g(n:Nat)(l:List T)(hs:yn l=true)(hn:l.length<n):∀ (d j k:Nat),j+d=l.length→d<k →
  LP cx (zdq f92) n 56 0 5 k [(0,V.d (D.sl 5 (T.ds l))),(5,V.d (D.int .i64 (j:Int)))] [] (AK cx (zdq f92) n 56 0 5 (EK cx 56 0)) =
   bif zb7 ((nmL l).take j) ((nmL l).drop j) then some (.ret (mkI 270),[]) else some (.ret (mkI 0),[]):=by
 intro d
 induction d with
 | zero=>
  intro j k hj hk;obtain ⟨k,rfl⟩:∃ k',k=k'+1:=⟨k - 1,by omega⟩
  obtain rfl:j=l.length:=by omega
  have hl:(nmL l).length=l.length:=ph _;rw [z96,zu,yw,px,List.drop_eq_nil_of_le (by omega)]
  rfl
 | succ d ih=>
  intro j k hj hk;obtain ⟨k,rfl⟩:∃ k',k=k'+1:=⟨k - 1,by omega⟩
  have hlt:j<l.length:=by omega
  have hx:=p4 hlt;generalize l[j]=x at hx;have hnm:=zuq hx;have hlt2:j<(nmL l).length:=by unfold nmL; rw [ph]; exact hlt
  have hdr:(nmL l).drop j=x.nm::(nmL l).drop (j+1):=by
   rw [List.drop_eq_getElem_cons hlt2];rw [p4 hlt2] at hnm;injection hnm with hnm; rw [hnm]
  have htk:(nmL l).take (j+1)=(nmL l).take j++[x.nm]:=by
   rw [List.take_succ,hnm]; rfl
  have hih:=ih (j+1) k (by omega) (by omega)
  have hin:=z8f n k l hs j x hx j 0 n (by omega) (by omega)
  rw [List.drop_zero] at hin;rw [z96,zu,yf hlt,pw];refine hin.trans ?_;rw [hih,hdr,htk];show _=bif (y4 x.nm ((nmL l).take j)||zb7 ((nmL l).take j++[x.nm]) ((nmL l).drop (j+1))) then _ else _
  cases y4 x.nm ((nmL l).take j) <;> rfl
theorem m56(l:List T)(hg:zbl l=true):zj cx 56 [.d (.sl 5 (T.ds l))] []=some (.ret (mkI (v7 l)),[]):=by
 have hk:knows cx (zdq f92).S (zj cx):=zk zp λ a q b hd h hb=>by
  obtain ⟨m,hm,hb⟩:=zd hb;cases hb;obtain ⟨h0,hg⟩:=zb0 hm;obtain ⟨h1,h2,h3⟩:=vp.1 hg;rw [xv h,h0];exact ya4 m h1 h2 h3
 refine zm hk (N:=l.length+1) ?_;have e:f92 (.sl 5 (T.ds l))=some (zco l):=by unfold f92; rw [zik hg]; rfl
 rw [yh4,e];show (bif decide ((zco l).2=61) then some (Out.ret (mkI 61),[]) else _)=_;rw [zxi];unfold v7;cases l.all yz
 ·rfl
 ·have e1:decide ((bif true then (0:Int) else 61)=61)=false:=rfl;rw [e1,px];refine (z8g (l.length+1) l (vp.1 hg).1 (Nat.lt_succ_self _) l.length 0 (l.length+1) (by omega) (Nat.lt_succ_self _)).trans ?_
  show (bif zb7 [] (nmL l) then _ else _)=_;cases zb7 [] (nmL l) <;> rfl
def zg1(names:List (List UInt8))(t:T):List Nat:=zam (λ k=>y4 (names.getD k []) (wa [] [] t.kids)) names.length
def zep(l:List T):List (List Nat):=l.map (zg1 (nmL l))
def wc(l:List (List Nat)):List D:=l.map λ u=>.sl 1 (nI u)
theorem zsk{l:List (List UInt8)}{s:List UInt8}(h:l.Nodup):(zb9 l s).Nodup:=by
 unfold zb9;cases hm:y4 s l
 ·simp only [px];rw [List.nodup_append];refine ⟨h,by simp,λ a ha b hb=>?_⟩
  rw [List.mem_singleton] at hb;subst hb;intro e;subst e;rw [mem_iff.2 ha] at hm;cases hm
 ·exact h
mutual
theorem ztj:∀ (t:T) (b acc:List (List UInt8)),acc.Nodup→(xx t b acc).Nodup
 | .mk k nm kids nms _,b,acc,h=>by
  unfold xx;cases decide (k=1)
  ·exact zp3 kids k nms b 0 acc h
  ·simp only [pw];cases y4 nm b||xo nm
   ·exact zsk h
   ·exact h
theorem zp3:∀ (l:List T) (k:Int) (nms b:List (List UInt8)) (i:Nat) (acc:List (List UInt8)),acc.Nodup→(qg l k nms b i acc).Nodup
 | [],k,nms,b,i,acc,h=>by simpa [qg] using h
 | t::r,k,nms,b,i,acc,h=>by
  unfold qg;refine zp3 r k nms b (i+1) _ ?_;cases (decide (k=7)&&decide (i=1))||(decide (k=11)&&decide (i=0))
  ·exact ztj t _ acc h
  ·exact h
end
theorem zp4{b:List (List UInt8)}:∀ (l:List T) {acc:List (List UInt8)},acc.Nodup→(wa b acc l).Nodup
 | [],acc,h=>h
 | t::l,acc,h=>zp4 l (ztj t b acc h)
theorem zxa{b:List (List UInt8)}:∀ (l:List T) (acc:List (List UInt8)),(wa b acc l).length≤acc.length+x7 l
 | [],acc=>by simp [wa]
 | t::l,acc=>by
  have h1:=zxa (b:=b) l (xx t b acc);have h2:=zf8 t b acc;simp only [x7];show (wa b (xx t b acc) l).length≤_;omega
theorem zqc:∀ (r seen:List (List UInt8)),seen.Nodup→zb7 seen r=false→(seen++r).Nodup
 | [],seen,h,_=>by rwa [List.append_nil]
 | s::r,seen,h,hd=>by
  unfold zb7 at hd;rw [Bool.or_eq_false_iff] at hd;have h1:(seen++[s]).Nodup:=by
   have:=zsk (s:=s) h;unfold zb9 at this;rw [hd.1] at this;exact this
  have:=zqc r (seen++[s]) h1 hd.2
  rwa [List.append_assoc] at this
def zlb(names:List (List UInt8))(s:List UInt8):Option Nat:=xh (λ t=>decide (s=t)) names 0
theorem zky{p:List UInt8→Bool}:∀ {l:List (List UInt8)} {i j:Nat},xh p l i=some j→∃ d x,j=i+d∧l[d]?=some x∧p x=true
 | [],i,j,h=>by cases h
 | x::r,i,j,h=>by
  unfold xh at h;cases hp:p x <;> rw [hp] at h
  ·simp only [px] at h;obtain ⟨d,y,h1,h2,h3⟩:=zky h;exact ⟨d+1,y,by omega,by simpa using h2,h3⟩
  ·simp only [pw] at h;cases h;exact ⟨0,x,rfl,rfl,hp⟩
theorem zxh{s:List UInt8}:∀ {l:List (List UInt8)} {i d:Nat},l.Nodup→l[d]?=some s→xh (λ t=>decide (s=t)) l i=some (i+d)
 | [],i,d,_,h=>by simp at h
 | x::r,i,d,hn,h=>by
  unfold xh;rw [List.nodup_cons] at hn;rcases d with _ | d
  ·simp at h; subst h;rw [pa rfl]; rfl
  ·simp only [List.getElem?_cons_succ] at h;have:s ≠ x:=λ e=>hn.1 (e ▸ pq h);rw [pb this,px,zxh hn.2 h];congr 1; omega
theorem zvl{names:List (List UInt8)}(hn:names.Nodup){s:List UInt8}{k:Nat}:zlb names s=some k↔names[k]?=some s:=by
 unfold zlb;constructor
 ·intro h;obtain ⟨d,x,h1,h2,h3⟩:=zky h;have:=pc h3;subst this;rw [h1,Nat.zero_add]; exact h2
 ·intro h;rw [zxh hn h,Nat.zero_add]
theorem zs5(s:List UInt8):∀ (names:List (List UInt8)) (i:Nat),qp (.str s) (names.map .str) i=some (xh (λ t=>decide (s=t)) names i)
 | [],i=>rfl
 | x::r,i=>by
  show (bif decide (s=x) then some (some i) else qp (.str s) (r.map .str) (i+1))=some (bif decide (s=x) then some i else xh _ r (i+1));rw [zs5 s r (i+1)];cases decide (s=x) <;> rfl
def znn(names:List (List UInt8))(us:List Nat)(s:List UInt8):List Nat:=match zlb names s with | some i=>us++[i] | none=>us
theorem z1g(names:List (List UInt8)):∀ (N:List (List UInt8)) (us:List Nat),N.foldl (znn names) us=us++N.filterMap (zlb names)
 | [],us=>by simp
 | s::N,us=>by
  rw [List.foldl_cons,z1g names N,List.filterMap_cons];unfold znn;cases zlb names s <;> simp
theorem z6d{names N:List (List UInt8)}(hn:names.Nodup)(hN:N.Nodup) :
  qh ((N.foldl (znn names) []).map λ k:Nat=>(k:Int))=(zam (λ k=>y4 (names.getD k []) N) names.length).map λ k:Nat=>(k:Int):=by
 rw [z1g,List.nil_append];refine z4y ?_ λ k=>?_
 ·unfold List.Nodup;rw [List.pairwise_filterMap];refine hN.imp λ {a a'} hab b hb b' hb' e=>hab ?_;subst e;have h1:=(zvl hn).1 hb;have h2:=(zvl hn).1 hb';rw [h1] at h2;cases h2; rfl
 ·rw [List.mem_filterMap];constructor
  ·rintro ⟨s,hs,he⟩;have h1:=(zvl hn).1 he;have h2:=(pn.1 h1).1;refine ⟨h2,?_⟩;rw [List.getD_eq_getElem?_getD,h1];exact mem_iff.2 hs
  ·rintro ⟨h1,h2⟩;have h3:=p4 h1;rw [List.getD_eq_getElem?_getD,h3] at h2;exact ⟨names[k],mem_iff.1 h2,(zvl hn).2 h3⟩
theorem zw5(x:Int):∀ l:List Int,(zi9 x l).length=l.length+1
 | []=>rfl
 | y::l=>by
  unfold zi9;cases decide (x≤y)
  ·simp only [px,py,zw5 x l]
  ·rfl
theorem zsg:∀ l:List Int,(qh l).length=l.length
 | []=>rfl
 | x::l=>by simp only [qh,zw5,zsg l,py]
theorem zw3:∀ us:List Nat,zef (nI us)=some (us.map λ k:Nat=>(k:Int))
 | []=>rfl
 | u::us=>by
  show (match zef (nI us) with | some l=>some ((u:Int)::l) | none=>none)=_
  rw [zw3 us]; rfl
theorem m49(l:List D)(zs:List Int)(hz:zef l=some zs)(h:l.length≤4294967296):zj cx 49 [.slo 0 1 l.length] [(0,.row l)]=some (.ret (.tup []),[(0,.row ((qh zs).map (.int .i64)))]):=by
 cases l with
 | nil=>cases hz; exact zhm (n:=10) (by kernel_rfl)
 | cons x r=>
  refine zhm (n:=1) ?_;have e:zly [.slo 0 1 (x::r).length] [(0,.row (x::r))]=some (.ret (.tup []),[(0,.row ((qh zs).map (.int .i64)))]):=by
   show zb (Nat.beq (x::r).length (x::r).length&&decide ((x::r).length≤4294967296)&&true) (zc (zef (x::r)) _)=_;rw [Nat.beq_refl,pa h,hz]; rfl
  have e2:cx.nat 49 [.slo 0 1 (x::r).length] [(0,.row (x::r))]=zly [.slo 0 1 (x::r).length] [(0,.row (x::r))]:=rfl;unfold vz zbu;rw [e2,e]
end Go.Vai
end

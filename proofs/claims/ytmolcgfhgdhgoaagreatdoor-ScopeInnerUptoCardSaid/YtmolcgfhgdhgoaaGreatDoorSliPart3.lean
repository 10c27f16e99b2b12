/-
  Show: the library's functions that are taken as one step: strings.Builder's String, and strings.Join: they do what is said of them. To: Scope: what the laws' frame asks for.
-/
import Derived.Test.YtmolcgfhgdhgoaaGreatDoorSliPart2
set_option linter.all false
section
set_option linter.unusedVariables false
namespace Go.Proofs
open Go.Shelf Go.RowKit
variable {P:Program} {ρ:Ren}
set_option maxHeartbeats 2000000 in
set_option maxRecDepth 100000 in
theorem Any.String_core(L:Lays.n169 P ρ)(X:Builder.Extra P ρ)(b:Nat)(w w2:World)(ao p:Option Addr)(n cap:Nat)(s:ByteArray)
  (c1:w.drew.cell? ⟨b,1,none⟩=some (.slice ao n cap))
  (hSD:(Builtin.unsafeSliceData_ #[(ρ.t 37)] (ρ.t 127) #[.slice ao n cap]).run P w.drew=.ok (.pointer p) w.drew)
  (hUS:(Builtin.unsafeString_ #[(ρ.t 127),(ρ.t 3)] (ρ.t 9) #[.pointer p,.int .i64 n]).run P w.drew=.ok (.string s) w2) :
  Calls P (ρ.f 169) #[.pointer (some ⟨b,0,none⟩)] w λ e w'=>e=.returned (.string s)∧w'=w2:=by
 have mixed:=L.mixed;have t72:=L.t72; have a72:=L.a72; have z72:=L.z72; have v72:=L.v72; have u72:=run_underlying L.t72;have t70:=L.t70; have a70:=L.a70; have z70:=L.z70; have v70:=L.v70; have u70:=run_underlying L.t70;have t37:=L.t37; have a37:=L.a37; have z37:=L.z37; have v37:=L.v37; have u37:=run_underlying L.t37;have t127:=L.t127; have a127:=L.a127; have z127:=L.z127; have v127:=L.v127; have u127:=run_underlying L.t127;have t3:=L.t3; have a3:=L.a3; have z3:=L.z3; have v3:=L.v3; have u3:=run_underlying L.t3;have t9:=L.t9; have a9:=L.a9; have z9:=L.z9; have v9:=L.v9; have u9:=run_underlying L.t9;have t5:=X.t5; have a5:=X.a5; have z5:=X.z5; have v5:=X.v5; have u5:=run_underlying X.t5
 go_enter L.f169,Body.n169_ntmps ρ
 go_wp2
 go_region_o
 all_goals (go_wp2; go_ret; exact ⟨rfl,rfl⟩)
theorem Tryz.String_core(b:Nat)(w w2:World)(ao p:Option Addr)(n cap:Nat)(s:ByteArray)
  (c1:w.drew.cell? ⟨b,1,none⟩=some (.slice ao n cap))
  (hSD:(Builtin.unsafeSliceData_ #[174] 232 #[.slice ao n cap]).run Tryz.prog w.drew=.ok (.pointer p) w.drew)
  (hUS:(Builtin.unsafeString_ #[232,3] 9 #[.pointer p,.int .i64 n]).run Tryz.prog w.drew=.ok (.string s) w2) :
  Calls Tryz.prog 164 #[.pointer (some ⟨b,0,none⟩)] w λ e w'=>e=.returned (.string s)∧w'=w2:=
 Any.String_core Tryz.lays169 Tryz.Builder_Extra_169 b w w2 ao p n cap s c1 hSD hUS
end Go.Proofs
namespace Go.Vai
open Go.Proofs Go.Sort
section
variable {cx:Cx} {w w':World} {σ:St} {μ:Mu}
theorem zji(w:World)(g n:Nat):∀ b,b ≠ g→(w.freeze ⟨g,0,none⟩ n).heap[b]?=w.heap[b]?:=λ b hb=>by
 unfold World.freeze;split
 ·rfl
 ·simp [Array.getElem?_modify,Ne.symm hb]
theorem zq8(w:World)(g n:Nat)(b k:Nat):(w.freeze ⟨g,0,none⟩ n).cell? ⟨b,k,none⟩=w.cell? ⟨b,k,none⟩:=by
 by_cases hbg:b=g
 ·subst hbg;unfold World.freeze;split
  ·rfl
  ·unfold World.cell?;simp only [Array.getElem?_modify,if_true];cases h:w.heap[b]? with
   | none=>rfl
   | some o=>cases o <;> rfl
 ·unfold World.cell?;simp only;rw [zji w g n b hbg]
theorem zxk{id k:Nat}(ho:zf σ id=some (.tok k))(hos:w'.os=w.os)(hout:w'.output=w.output)(hsize:w.heap.size≤w'.heap.size)
  (hblk:∀ b,b<w.heap.size→(μ id).blk ≠ some b→w'.heap[b]?=w.heap[b]?) (hcell:∀ b i x,w.cell? ⟨b,i,none⟩=some x→w'.cell? ⟨b,i,none⟩=some x) :
  Upd cx w σ μ w' (vv σ id (.tok (k+1))) (setMu μ id ⟨none,0,0,0⟩) [id] where
 os:=hos
 output:=hout
 size:=hsize
 blk:=λ b hb h=>hblk b hb λ e=>h id (by simp) _ ho (μ id).f ⟨e,Nat.le_refl _⟩
 cell:=λ b i x _ h=>hcell b i x h
 fr:=rfl
 same:=λ j hj=>by
  have:id ≠ j:=λ e=>hj (by simp [e])
  exact ⟨by simp [zk,this],by simp [setMu,Ne.symm this]⟩
 own:=λ j hj q hq b i hown _=>by
  simp at hj; subst hj;simp only [zk,if_true] at hq;cases hq;have:=hown.1;simp [setMu] at this
 still:=λ j hj q hq=>by
  simp at hj; subst hj;rw [ho] at hq; cases hq;simp only [zk,if_true];exact ⟨by omega,λ h=>by omega⟩
 apart:=λ j hj j' hj' _ _ _ _ _ _ _ _ _=>by simp at hj hj'; rw [hj,hj']
theorem zs4{id k:Nat}(hi:Inv cx w σ μ)(ho:zf σ id=some (.tok k))(hos:w'.os=w.os)(hout:w'.output=w.output)(hsize:w.heap.size≤w'.heap.size)
  (hblk:∀ b,b<w.heap.size→(μ id).blk ≠ some b→w'.heap[b]?=w.heap[b]?) (hcell:∀ b i x,w.cell? ⟨b,i,none⟩=some x→w'.cell? ⟨b,i,none⟩=some x) :
  After cx w σ μ w' (vv σ id (.tok (k+1))) (setMu μ id ⟨none,0,0,0⟩):=
 (zxk ho hos hout hsize hblk hcell).after hi λ j hj o' ho'=>by
  simp at hj; subst hj;simp only [zk,if_true] at ho';cases ho';intro b hb;simp [setMu] at hb
theorem zi7:szN 6291457=1:=by decide
theorem zvq{id k:Nat}(hc:Canon σ)(ho:zf σ id=some (.tok k)):∀ j o,zf (vv σ id (.tok (k+1))) j=some o→j<σ.length∧∀ i∈o.ids,i<σ.length:=by
 intro j o hj;rw [zk] at hj;by_cases h:id=j
 ·subst h;rw [if_pos rfl] at hj;cases hj;exact ⟨(hc id _ ho).1,by simp [Ob.ids]⟩
 ·rw [if_neg h] at hj;exact hc j o hj
theorem zuy(hP : cx.P = Tryz.prog){args : List V}{out : Out}{σ' : St}(h : zsf args σ = some (out, σ')){vs : List Value}(hi : Inv cx w σ μ)(hcan : Canon σ)(hv : RVs w σ μ vs args) :
    ∃ u, out = .ret u ∧ (∀ k o, zf σ' k = some o → k < σ.length ∧ ∀ i ∈ o.ids, i < σ.length) ∧ (∀ i ∈ u.ids, i < σ.length) ∧
    Calls cx.P 164 vs.toArray w λ e w' => ∃ μ' x, e = .returned x ∧ After cx w σ μ w' σ' μ' ∧ RV w' σ' μ' x u := by
  unfold zsf at h;obtain ⟨i, hargs, h1⟩ := za h;clear h;obtain rfl := zup hargs;obtain ⟨⟨sz, l, id⟩, hq, h2⟩ := za h1;clear h1;obtain ⟨n, p, r, ho⟩ := zr6 hq;obtain ⟨k, hk, h3⟩ := za h2;clear h2;have ht := zr2 hk;obtain ⟨hc, h4⟩ := zd h3;clear h3;obtain ⟨s, hs, h⟩ := za h4;clear h4;cases h;clear hk hq hargs;simp only at hs hc ht ho;simp only [pq, decide_eq_true_eq] at hc;obtain ⟨⟨hsz, hk⟩, hlen⟩ := hc;have hsz := po hsz;subst hsz;subst hk;have hl := zl4 l s hs;refine ⟨_, rfl, zvq hcan ht, by simp [V.ids], ?_⟩
  -- the argument
  obtain ⟨v, rfl⟩ : ∃ v, vs = [v] := List.length_eq_one_iff.1 (by simpa using hv.1)
  have hv0 := hv.2 0 v _ rfl rfl;cases hv0 with | ptr _ _ b _ hb => ?_
  obtain ⟨b', cs, el, hb', hh, _, _, _, hrs, _⟩ := hi.ob i _ ho;obtain rfl : b = b' := by rw [hb] at hb'; exact Option.some.inj hb'
  obtain ⟨v1, hv1⟩ : ∃ v1, cs.toList[1]? = some v1 := yj (by rw [hrs.1]; simp [V.cells])
  have hr1 := hrs.2 1 v1 (.sl 6291457 l id) hv1 rfl;cases hr1 with | sl _ _ _ _ n' hrd ht' hn' htail => ?_
  rw [ht] at ht'; cases ht';have htail := htail rfl;rw [zi7] at hrd;obtain ⟨base, cap, rfl⟩ := hrd.slice_inv;have c1 : w.drew.cell? ⟨b, 1, none⟩ = some (.slice base l.length cap) := by
    show w.cell? ⟨b, 1, none⟩ = _;rw [cell_of_heap hh];simpa using hv1
  rw [hP]
  have fin : ∀ w', w'.os = w.os → w'.output = w.output → w.heap.size ≤ w'.heap.size → (∀ b, b < w.heap.size → (μ id).blk ≠ some b → w'.heap[b]? = w.heap[b]?) →
      (∀ b i x, w.cell? ⟨b, i, none⟩ = some x → w'.cell? ⟨b, i, none⟩ = some x) →
      ∃ μ' x, Ending.returned (.string ⟨s.toArray⟩) = .returned x ∧ After cx w σ μ w' (vv σ id (.tok (l.length + 1))) μ' ∧ RV w' (vv σ id (.tok (l.length + 1))) μ' x (.d (.str s)) :=
    λ w' h1 h2 h3 h4 h5 => ⟨_, _, rfl, zs4 hi ht h1 h2 h3 h4 h5, .d _ _ (.str s)⟩
  by_cases he : l = []
  · subst he;have hs0 : s = [] := by cases s with | nil => rfl | cons a b => simp at hl
    subst hs0;rcases htail with ⟨h1, _, _, h2⟩ | ⟨b2, o, _, _, _, _, _, h2⟩
    · subst h1
      obtain rfl : base = none := by rcases h2 with h2 | h2; · exact absurd h2 (by decide)
                                     · exact h2
      refine (Tryz.String_core b w w.drew none none 0 0 .empty c1 rfl (Lib.run_unsafeString_none w.drew 232 3 9 none)).mono ?_;rintro e w' ⟨rfl, rfl⟩;exact fin _ rfl rfl (Nat.le_refl _) (λ _ _ _ => rfl) (λ _ _ _ h => h)
    · rcases h2 with h2 | h2
      · exact absurd h2 (by decide)
      · exact absurd h2.2.2 (by simp)
  · have hpos : 0 < l.length := List.length_pos_iff.2 he;rcases htail with ⟨_, h1, _⟩ | ⟨g, o, hbase, hg, hf, hend, hnc, h2⟩
    · omega
    rcases h2 with h2 | ⟨hel, ho0, _⟩
    · exact absurd h2 (by decide)
    subst hbase;subst ho0;obtain ⟨cs', el', fr', hh', hel', hcs', _⟩ := hi.ob id _ ht g hg;have h6 : (6291457 : Nat) / 1048576 = 6 := by decide
    have hel5 : el' = 5 := by rw [hel']; rw [h6] at hel; exact (Nat.succ.inj hel).symm
    rw [zi7] at hend;subst hel5;have hsl : s.length = l.length := by rw [hl]; simp
    have hs0 : s ≠ [] := λ e => by rw [e] at hsl; simp at hsl; omega
    have hcell : ∀ j x, s[j]? = some x → w.drew.cell? ((⟨g, 0, none⟩ : Addr).add j) = some (.int .u8 x.toNat) := by
      intro j x hx;have hj := (pr.1 hx).1;generalize hnl : l.length = nl at hrd;cases hrd with
      | sl0 => exact absurd rfl he
      | sl _ _ _ _ _ _ xs hn hcap hszs hcells hels =>
        have hlx : l[j]? = some (zon x) := by rw [hl, List.getElem?_map, hx]; rfl
        have h1 := hcells j (by omega)
        have h2 := hels j 0 (zon x) (zon x) hlx rfl;simp only [Nat.mul_one, Nat.add_zero] at h2;rw [show (⟨g, 0, none⟩ : Addr).add j = ⟨g, 0 + j, none⟩ from by by_cases hj0 : j = 0 <;> simp [Addr.add, hj0]]
        have h3 : w.cell? ⟨g, 0 + j, none⟩ = some (xs j) := h1.1;generalize xs j = q at h2 h3;unfold zon at h2;cases h2;exact h3
    have hUS := Lib.run_unsafeString_row (P := Tryz.prog) w.drew 232 3 9 5 (by kernel_rfl) (by kernel_rfl) g cs'.size (by show w.shape? g = _; simp [World.shape?, hh']) s hs0 (by rw [hsl, hcs']; omega) (by omega) hcell
    rw [hsl] at hUS;refine (Tryz.String_core b w _ (some ⟨g, 0, none⟩) (some ⟨g, 0, none⟩) l.length cap ⟨s.toArray⟩ c1 (Lib.run_unsafeSliceData_row w.drew _ _ _ _ _ (by omega)) hUS).mono ?_
    rintro e w' ⟨rfl, rfl⟩;refine fin _ ?_ ?_ ?_ (λ b' _ hb' => ?_) (λ b' i' x hx => ?_)
    · unfold World.freeze; split <;> rfl
    · unfold World.freeze; split <;> rfl
    · unfold World.freeze; split
      · exact Nat.le_refl _
      · simp
    · rw [zji w.drew g _ b' (λ e => hb' (by rw [e]; exact hg))]
      rfl
    · rw [zq8];exact hx
theorem zsi(hP:cx.P=Tryz.prog){args:List V}{out:Out}{σ':St}(h:zo6 args σ=some (out,σ')){vs:List Value}(hi:Inv cx w σ μ)(hcan:Canon σ)(hv:RVs w σ μ vs args) :
  ∃ u,out=.ret u∧(∀ k o,zf σ' k=some o→k<σ.length∧∀ i∈o.ids,i<σ.length)∧(∀ i∈u.ids,i<σ.length) ∧
  Calls cx.P 192 vs.toArray w λ e w'=>∃ μ' x,e=.returned x∧After cx w σ μ w' σ' μ'∧RV w' σ' μ' x u:=by
 unfold zo6 at h;split at h
 case h_2=>cases h
 rename_i sz xs sep;obtain ⟨l,hl,h1⟩:=za h;clear h;obtain ⟨hc,h⟩:=zd h1;clear h1;cases h;simp only [pq,decide_eq_true_eq] at hc;refine ⟨_,rfl,hcan,by simp [V.ids],?_⟩
 obtain ⟨v1,v2,rfl⟩:∃ v1 v2,vs=[v1,v2]:=by
  have:=hv.1
  match vs,this with
  | [a,b],_=>exact ⟨a,b,rfl⟩
 have h1:=hv.2 0 v1 _ rfl rfl;have h2:=hv.2 1 v2 _ rfl rfl;cases h2 with | d _ _ h2=>?_
 cases h2;cases h1 with | d _ _ h1=>?_
 have hxs:=zif xs l hl;rw [hP];have fin:∀ (q:ByteArray) (w':World),q=y5 (Lib.join l sep)→RowKit.Below w.heap.size w w'→∃ μ' x,Ending.returned (.string q)=.returned x∧After cx w σ μ w' σ μ'∧RV w' σ μ' x (.d (.str (Lib.join l sep))):=by
  rintro q w' rfl hb;exact ⟨μ,_,rfl,zc6 hi hb,.d _ _ (.str _)⟩
 cases h1 with
 | sl0 base cap _=>
  have hl0:l=[]:=by cases l with | nil=>rfl | cons a b=>simp at hxs
  subst hl0;refine (Tryz.strings_Join_none base cap (y5 sep) w).mono ?_;rintro e w' ⟨rfl,rfl⟩;exact fin _ _ (by simp [Lib.join,List.intercalate,y5]) (RowKit.Below.refl _ _)
 | sl b o n cap _ _ ys hn hcap hsz hcell hels=>
  subst hn;by_cases h0:l=[]
  ·subst h0;have hx0:xs=[]:=by simpa using hxs
   subst hx0;refine (Tryz.strings_Join_none (some ⟨b,o,none⟩) cap (y5 sep) w).mono ?_;rintro e w' ⟨rfl,rfl⟩;exact fin _ _ (by simp [Lib.join,List.intercalate,y5]) (RowKit.Below.refl _ _)
  have hlen:xs.length=(l.map y5).length:=by rw [hxs]; simp
  have hsz1:sz=1:=by
   have hne:xs ≠ []:=by rw [hxs]; simpa using h0
   obtain ⟨y,hy⟩:=List.exists_mem_of_ne_nil xs hne;have:=hsz y hy;rw [hxs] at hy;obtain ⟨q,_,rfl⟩:=List.mem_map.1 hy;exact this.symm
  subst hsz1;have hmap:(l.map y5).map (·.data.toList)=l:=by
   rw [List.map_map]
   conv=>rhs; rw [←List.map_id l]
   exact List.map_congr_left λ a _=>by simp [y5]
  have hsep:(y5 sep).data.toList=sep:=by simp [y5]
  have hj:=Tryz.strings_Join b o cap (l.map y5) (y5 sep) w (λ j x hx=>?_) ?_ (by rw [←hlen,hxs]; simpa using hc.1) (by rw [←hlen]; exact hcap) (by rw [hmap,hsep]; exact hc.2)
  ·rw [hmap,hsep,←hlen] at hj;refine hj.mono ?_;rintro e w' ⟨rfl,hb⟩;exact fin _ _ rfl hb
  ·rw [List.getElem?_map,Option.map_eq_some_iff] at hx;obtain ⟨q,hq,rfl⟩:=hx;have hjl:j<xs.length:=by rw [hlen]; simpa using (pr.1 hq).1
   have g1:=(hcell j (by omega)).1
   have hlx:xs[j]?=some (.str q):=by rw [hxs,List.getElem?_map,hq]; rfl
   have g2:=hels j 0 (.str q) (.str q) hlx rfl;simp only [Nat.mul_one,Nat.add_zero] at g2;generalize ys j=z at g1 g2;cases g2;exact g1
  ·have hpos:0<xs.length:=by rw [hlen]; simpa using List.length_pos_iff.2 h0
   exact lt_of_cell (hcell 0 (by omega)).1
theorem zgr:∀ l:List Int,(zdi l).Perm l
 | []=>.refl _
 | x::l=>by
  have ins:∀ (x:Int) (l:List Int),(zpe x l).Perm (x::l):=by
   intro x l
   induction l with
   | nil=>exact .refl _
   | cons y r ih=>
    unfold zpe;cases decide (x≤y)
    ·exact (ih.cons y).trans (.swap x y r)
    ·exact .refl _
  exact (ins x _).trans ((zgr l).cons x)
theorem zqf:∀ l:List Int,(zdi l).Pairwise (·≤·)
 | []=>by simp [zdi]
 | x::l=>by
  have ins:∀ (x:Int) (l:List Int),l.Pairwise (·≤·)→(zpe x l).Pairwise (·≤·):=by
   intro x l
   induction l with
   | nil=>intro _; simp [zpe]
   | cons y r ih=>
    intro h;rw [List.pairwise_cons] at h;unfold zpe;by_cases hxy:x≤y
    ·rw [pa hxy];simp only [p5,List.pairwise_cons,List.mem_cons];refine ⟨λ z hz=>?_,h⟩;rcases hz with rfl | hz
     ·exact hxy
     ·exact Int.le_trans hxy (h.1 z hz)
    ·rw [pb hxy];simp only [p6,List.pairwise_cons];refine ⟨λ z hz=>?_,ih h.2⟩;have hz:z=x∨z∈r:=by
      have hp:(zpe x r).Perm (x::r):=by
       clear ih h hz hxy
       induction r with
       | nil=>exact .refl _
       | cons y r ih=>
        unfold zpe;cases decide (x≤y)
        ·exact (ih.cons y).trans (.swap x y r)
        ·exact .refl _
      simpa using hp.mem_iff.1 hz
     rcases hz with rfl | hz
     ·omega
     ·exact h.1 z hz
  exact ins x _ (zqf l)
theorem zqe(l:List Int):(l.mergeSort λ x y=>decide (x≤y))=zdi l:=by
 have h1:(l.mergeSort λ x y=>decide (x≤y)).Pairwise (·≤·):=by
  have:=List.pairwise_mergeSort (le:=λ x y:Int=>decide (x≤y)) (by intro a b c; simp; omega) (by intro a b; simp; omega) l
  exact this.imp λ h=>by simpa using h
 exact ((List.mergeSort_perm l _).trans (zgr l).symm).eq_of_pairwise (λ a b _ _ h1 h2=>by omega) h1 (zqf l)
theorem zn0:∀ {l:List D} {zs:List Int},zt5 l=some zs→l=zs.map (.int .i64)
 | [],zs,h=>by cases h; rfl
 | x::r,zs,h=>by
  unfold zt5 at h;split at h
  ·rename_i he; cases he
  ·rename_i n q he;cases he;split at h
   ·rename_i l hl; cases h; rw [zn0 hl]; rfl
   ·cases h
  ·cases h
theorem zsg(hP:cx.P=Tryz.prog){args:List V}{out:Out}{σ':St}(h:zo4 args σ=some (out,σ')){vs:List Value}(hi:Inv cx w σ μ)(hcan:Canon σ)(hv:RVs w σ μ vs args) :
  ∃ u,out=.ret u∧(∀ k o,zf σ' k=some o→k<σ.length∧∀ i∈o.ids,i<σ.length)∧(∀ i∈u.ids,i<σ.length) ∧
  Calls cx.P 49 vs.toArray w λ e w'=>∃ μ' x,e=.returned x∧After cx w σ μ w' σ' μ'∧RV w' σ' μ' x u:=by
 unfold zo4 at h;split at h
 case h_2=>cases h
 rename_i id k;split at h
 case h_2=>cases h
 rename_i l ho;obtain ⟨hc,h1⟩:=zd h;clear h;obtain ⟨zs,hz,h⟩:=za h1;clear h1;cases h;simp only [pq,decide_eq_true_eq,Bool.not_eq_true'] at hc;obtain ⟨⟨hk,hle⟩,hne⟩:=hc;obtain rfl:=po hk;have hl:=zn0 hz;have hlen:l.length=zs.length:=by rw [hl]; simp
 have hpos:0<l.length:=by cases l with | nil=>simp at hne | cons=>simp
 refine ⟨_,rfl,λ j o hj=>?_,by simp [V.ids,V.idsL],?_⟩
 ·rw [zk] at hj;by_cases h:id=j
  ·subst h;rw [if_pos rfl] at hj;cases hj;exact ⟨(hcan id _ ho).1,by simp [Ob.ids]⟩
  ·rw [if_neg h] at hj;exact hcan j o hj
 obtain ⟨v,rfl⟩:∃ v,vs=[v]:=List.length_eq_one_iff.1 (by simpa using hv.1)
 have hv0:=hv.2 0 v _ rfl rfl;cases hv0 with | slo _ _ _ cap base l' hl' hkl hcap hn hat=>?_
 rw [ho] at hl'; cases hl';rcases hat rfl with ⟨_,_,hc0⟩ | ⟨b,rfl,hb,hf,hend⟩
 ·omega
 obtain ⟨cs,el,hh,hcs,h2,h3,h4,h5⟩:=hi.ob id _ ho b hb;rw [hf] at h2 h4 h5;have hget:∀ (j:Nat) z,zs[j]?=some z→cs[j]?=some (.int .i64 z):=λ j z hj=>by
  have hlj:l[j]?=some (.int .i64 z):=by rw [hl,List.getElem?_map,hj]; rfl
  obtain ⟨v,hv,hvc⟩:=h5 j 0 _ (.int .i64 z) hlj rfl;cases hvc;simpa using hv
 have hH:Holds (Value.int .i64) w b 0 zs.toArray:=λ j hj=>by
  have hj':j<zs.length:=by simpa using hj
  refine ⟨?_,?_⟩
  ·rw [cell_of_heap hh,Nat.zero_add,hget j zs[j] (p9 hj')];rw [getElem!_pos zs.toArray j hj];simp
  ·simp [World.frozen?,hh]
 rw [hP,show ([Value.slice (some ⟨b,0,none⟩) l.length cap]).toArray = #[.slice (some ⟨b,0,none⟩) zs.length cap] by rw [hlen]]
 refine (Tryz.slices_Sort_int b 0 cap zs w hH (lt_of_heap hh) (by omega)).mono ?_
 rintro e w' ⟨rfl,n,os,hw'⟩;rw [zqe] at hw';have hsl:(zdi zs).length=zs.length:=(zgr zs).length_eq;have hlt:=lt_of_heap hh;have hother:∀ b',b' ≠ b→b'<w.heap.size→w'.heap[b']?=w.heap[b']?:=λ b' hb' hlt'=>by
  rw [hw',heap_grow_old _ _ (by simpa [putRow,mapBlock,Sort.ahead] using hlt')]
  simp [putRow,mapBlock,Sort.ahead,Array.getElem?_modify,Ne.symm hb']
 have hnew:w'.heap[b]?=some (.cells (putCells (Value.int .i64) 0 (zdi zs).toArray cs) el (0,0)):=by
  rw [hw',heap_grow_old _ _ (by simpa [putRow,mapBlock,Sort.ahead] using hlt)]
  simp [putRow,mapBlock,Sort.ahead,Array.getElem?_modify,hh,onCells]
 have hsize:w.heap.size≤w'.heap.size:=by rw [hw']; simp [grow,putRow,mapBlock,Sort.ahead]
 have hup:Upd cx w σ μ w' (vv σ id (.row ((zdi zs).map (.int .i64)))) μ [id]:={
  os:=by rw [hw']; rfl,output:=by rw [hw']; rfl,size:=hsize,
  blk:=λ b' hb' hno=>hother b' (λ e=>hno id (by simp) _ ho 0 (by rw [e]; exact hb)) hb',
  cell:=λ b' i x hno hc=>by
   have hne:b' ≠ b:=λ e=>hno id (by simp) _ ho (by rw [e]; exact hb)
   have:=hother b' hne (lt_of_cell hc);unfold World.cell? at hc ⊢;simp only at hc ⊢;rw [this]; exact hc,
  fr:=rfl,same:=λ j hj=>⟨by rw [zk,if_neg (Ne.symm (by simpa using hj))],rfl⟩,
  own:=λ j hj q hq b' i hown _=>by
   simp at hj; subst hj;rw [zk,if_pos rfl] at hq; cases hq;exact ⟨_,ho,hown⟩,
  still:=λ j hj q hq=>by
   simp at hj; subst hj;rw [ho] at hq; cases hq;rw [zk,if_pos rfl];exact ⟨by simp [hsl,hlen],λ _=>rfl⟩,
  apart:=λ j hj j' hj' _ _ _ _ _ _ _ _ _=>by simp at hj hj'; rw [hj,hj'] }
 refine ⟨μ,_,rfl,hup.after hi λ j hj o' ho'=>?_,.tup #[] [] rfl (by simp)⟩
 simp at hj; subst hj;rw [zk,if_pos rfl] at ho'; cases ho';refine wz.of hb hnew (by simp [putCells,hcs]) (by rw [hf]; simp [putCells,hsl]; omega) (λ x hx=>?_) (λ y hy=>?_) λ k c hk=>?_
 ·simp only [putCells,Array.toList_mapIdx,List.mem_mapIdx] at hx;obtain ⟨i,hi',hx⟩:=hx;rw [←hx];split
  ·rfl
  ·exact h3 _ (List.getElem_mem _)
 ·rw [hf];obtain ⟨z,_,rfl⟩:=List.mem_map.1 hy;rfl
 ·have hfl:yc ((zdi zs).map (.int .i64))=(zdi zs).map (.int .i64):=by
   unfold yc;generalize zdi zs=q
   induction q with
   | nil=>rfl
   | cons a q ih=>simp only [List.map_cons,List.flatMap_cons,ih]; rfl
  rw [hfl,List.getElem?_map,Option.map_eq_some_iff] at hk;obtain ⟨z,hz',rfl⟩:=hk;have hklt:=(pr.1 hz').1;refine ⟨.int .i64 z,?_,.int _ _⟩;have hkc:k<cs.size:=by omega
  simp only [putCells,Array.getElem?_mapIdx,Array.getElem?_eq_getElem hkc,Option.map_some];rw [if_pos ⟨Nat.zero_le _,by simpa using hklt⟩]
  rw [getElem!_pos _ _ (by simpa using hklt)]
  have:(zdi zs)[k]=z:=(pr.1 hz').2;simp [this]
theorem zkn{n:Nat}{l:List (List UInt8)}{v:Value}(hi:Inv cx w σ μ)(h:w'.ownsRow w.heap.size 9 1 v n (l.map λ s=>Value.string (y5 s)))(hn:l.length=n)(haf:After cx w σ μ w' σ μ):RD w' (zo σ μ) v (.sl 1 (l.map .str)):=by
 obtain ⟨hlen,h⟩:=h;rcases h with ⟨rfl,h0⟩ | ⟨g,cap,cur,rfl,hg,hh,hcap,_,hsize,htake⟩
 ·have:l=[]:=List.eq_nil_of_length_eq_zero (by omega)
  subst this;exact .sl0 _ _ _
 ·have hfree:∀ i,¬ zo σ μ g i:=λ i ho=>by
   rcases ho with hf | ⟨id,o,ho,hown⟩
   ·exact absurd (hi.frLt _ _ hf) (by omega)
   ·exact absurd (zb2 hi ho hown) (by omega)
  refine RD.ofRow (cs:=cur) hh (by simp [hn]) hcap (λ y hy=>by obtain ⟨s,_,rfl⟩:=List.mem_map.1 hy; rfl) (λ k c hk=>?_) λ k _=>by rw [Nat.zero_add]; exact hfree k
  have hfl:yc (l.map .str)=l.map .str:=by
   unfold yc;clear hlen htake hn hk
   induction l with
   | nil=>rfl
   | cons a q ih=>simp only [List.map_cons,List.flatMap_cons,ih]; rfl
  rw [hfl,List.getElem?_map,Option.map_eq_some_iff] at hk;obtain ⟨s,hs,rfl⟩:=hk;have hklt:=(pr.1 hs).1;have:(cur.toList.take (n * 1))[k]?=some (.string (y5 s)):=by rw [htake,List.getElem?_map,hs]; rfl
  rw [List.getElem?_take,if_pos (by omega)] at this
  exact ⟨_,by simpa using this,.str s,rfl⟩
theorem zqt(hP:cx.P=Tryz.prog){args:List V}{out:Out}{σ':St}(h:zkw args σ=some (out,σ')){vs:List Value}(hi:Inv cx w σ μ)(hcan:Canon σ)(hv:RVs w σ μ vs args) :
  ∃ u,out=.ret u∧(∀ k o,zf σ' k=some o→k<σ.length∧∀ i∈o.ids,i<σ.length)∧(∀ i∈u.ids,i<σ.length) ∧
  Calls cx.P 99 vs.toArray w λ e w'=>∃ μ' x,e=.returned x∧After cx w σ μ w' σ' μ'∧RV w' σ' μ' x u:=by
 unfold zkw at h;split at h
 case h_2=>cases h
 rename_i xs;obtain ⟨hc,h1⟩:=zd h;clear h;obtain ⟨l,hl,h⟩:=za h1;clear h1;cases h;have hc:=pd hc;have hxs:=zif xs l hl;subst hxs;rw [pj] at hc;refine ⟨_,rfl,hcan,by simp [V.ids],?_⟩
 obtain ⟨v,rfl⟩:∃ v,vs=[v]:=List.length_eq_one_iff.1 (by simpa using hv.1)
 have hv0:=hv.2 0 v _ rfl rfl;cases hv0 with | d _ _ hd=>?_
 rw [hP];have e0:∀ zs:List (List UInt8),(zs.map y5).map (Value.string)=zs.map λ s=>Value.string (y5 s):=λ zs=>by rw [List.map_map]; rfl
 by_cases hne:l=[]
 ·subst hne;obtain ⟨base,cap,rfl⟩:=hd.slice_inv;cases base with
  | none=>
   refine (Tryz.slices_Clone_string_nil 0 cap w).mono ?_;rintro e w' ⟨rfl,rfl⟩;exact ⟨μ,_,rfl,After.refl hi,.d _ _ (.sl0 _ _ _)⟩
  | some a=>
   refine (Tryz.slices_Clone_string_zero a cap w).mono ?_;rintro e w' ⟨v',rfl,ho,_,hb⟩;have haf:=zc6 hi hb;exact ⟨μ,_,rfl,haf,.d _ _ (zkn (l:=[]) hi ho rfl haf)⟩
 ·generalize hnl:(l.map D.str)=q at hd;cases hd with
  | sl0=>exact absurd (by simpa using hnl) hne
  | sl b o n cap _ _ ys hn hcap hsz hcell hels=>
   subst hnl;have hn:n=l.length:=by simpa using hn
   subst hn;have hj:=Tryz.slices_Clone_string b o l.length cap (l.map y5) w (by simp) (by omega) (λ j hj=>by
    have hj':j<l.length:=by simpa using hj
    have g1:=(hcell j (by omega)).1
    have hlx:(l.map D.str)[j]?=some (.str l[j]):=by rw [List.getElem?_map,p9 hj']; rfl
    have g2:=hels j 0 (.str l[j]) (.str l[j]) hlx rfl;simp only [Nat.mul_one,Nat.add_zero] at g2;generalize ys j=z at g1 g2;cases g2;rw [g1];simp [List.getD_eq_getElem?_getD,hj'])
   refine hj.mono ?_;rintro e w' ⟨v',rfl,ho,_,hb⟩;have haf:=zc6 hi hb;rw [List.take_of_length_le (by simp),e0] at ho
   exact ⟨μ,_,rfl,haf,.d _ _ (zkn hi ho rfl haf)⟩
theorem zyz(hP : cx.P = Tryz.prog)(hg : ∀ g e, cx.grow g = some e → g = 165 ∧ e = 9) : zx8 cx := by
  intro g e h n w h0 h1;obtain ⟨rfl, rfl⟩ := hg g e h;refine ⟨⟨_, by rw [hP]; exact Tryz.func165, by kernel_rfl⟩, ?_⟩
  obtain ⟨m, rfl⟩ : ∃ m : Nat, n = (m : Int) := ⟨n.toNat, by omega⟩
  rw [hP];by_cases hm : m = 0
  · subst hm;refine (Any8.slices_Grow_room Tryz.growS none 0 0 0 w (by omega) (by omega) (by omega) (by omega)).mono ?_
    rintro x w' ⟨rfl, rfl⟩;exact ⟨none, 0, rfl, .inl ⟨rfl, rfl, rfl⟩⟩
  · have hi9 : Tryz.prog.info? 9 = Tryz.prog.info? 9 := rfl;obtain ⟨i, hi⟩ : ∃ i, Tryz.prog.info? 9 = some i := by
      cases hq : Tryz.prog.info? 9 with
      | some i => exact ⟨i, rfl⟩
      | none => have : (Tryz.prog.info? 9).isSome = true := by kernel_rfl
                rw [hq] at this; cases this
    have hs : (Tryz.prog.info? 9).map (λ i => (i.zero.isSome, i.size, i.bytes)) = some (true, 1, 16) := by kernel_rfl
    rw [hi] at hs;simp only [Option.map_some, Option.some.injEq, Prod.mk.injEq] at hs;obtain ⟨hz, hsz, hby⟩ := hs;obtain ⟨z, hz⟩ := Option.isSome_iff_exists.1 hz;have hzc : z.cells.size = 1 := by
      have : (Tryz.prog.info? 9).bind (λ i => i.zero.map λ z => z.cells.size) = some 1 := by kernel_rfl
      rw [hi] at this;simp only [Option.bind_some, hz, Option.map_some, Option.some.injEq] at this;exact this
    refine (Any8.slices_Grow_grow Tryz.growS i z hi hz (by omega) none 0 0 m [] w (by omega) (by omega) (by rw [hby]; omega) (by omega) (by simp) (λ _ => rfl) (λ a h => by cases h)).mono ?_
    rintro x w' ⟨rfl, rfl⟩;refine ⟨_, _, rfl, .inr ⟨_, _, rfl, rfl, ?_⟩⟩;have hc1 : Tryz.prog.cellsOf 9 = 1 := by kernel_rfl
    have hge := grownCap_ge w (0 + m) 0 9;simp only [Array.size_append, wg, hzc, hc1];show ([] : List Value).toArray.size + (0 + m - 0) * 1 + (_ - (0 + m)) * 1 = _ * 1;simp only [List.size_toArray, p8];have hge : 0 + m ≤ grownCap w (0 + m) 0 (Tryz.growS_ren.t 25) := hge;omega
theorem zhn{f g : Nat}{out : Out}{σ' : St}{vs : List Value}(hfg : f = g)(hfn : ∃ fn, cx.P.funcs[g]? = some fn ∧ fn.body.isNone = false) : (∃ u, out = .ret u ∧ (∀ k o, zf σ' k = some o → k < σ.length ∧ ∀ i ∈ o.ids, i < σ.length) ∧ (∀ i ∈ u.ids, i < σ.length) ∧
      Calls cx.P g vs.toArray w λ e w' => ∃ μ' x, e = .returned x ∧ After cx w σ μ w' σ' μ' ∧ RV w' σ' μ' x u) →
    (∃ fn, cx.P.funcs[f]? = some fn ∧ fn.body.isNone = false) ∧ (∀ k o, zf σ' k = some o → k < σ.length ∧ ∀ i ∈ o.ids, i < σ.length) ∧ (∀ i ∈ (match out with | .ret v => v.ids | .pan v => v.ids), i < σ.length) ∧
    Calls cx.P f vs.toArray w λ e w' => ∃ μ', After cx w σ μ w' σ' μ' ∧
      match out, e with
      | .ret v, .returned x => RV w' σ' μ' x v
      | .pan v, .panicked chain => ∃ x, chain = [{ v := x, recovered := false }] ∧ RV w' σ' μ' x v
      | _, _ => False := by
  intro h;subst hfg;obtain ⟨u, rfl, h1, h2, h3⟩ := h;refine ⟨hfn, h1, h2, h3.mono ?_⟩;rintro e w' ⟨μ', x, rfl, ha, hr⟩;exact ⟨μ', ha, hr⟩
theorem nat_ok(hP:cx.P=Tryz.prog)(hg:∀ g e,cx.grow g=some e→g=165∧e=9)(hG:cx.glob 4=some zh1):vq cx nat:=by
 refine ⟨zyz hP hg,?_⟩;intro f args σ out σ' h w μ vs hi hcan hids hall hv;unfold nat at h;cases h1:Nat.beq f 164 <;> rw [h1] at h
 ·rw [p6] at h;cases h2:Nat.beq f 192 <;> rw [h2] at h
  ·rw [p6] at h;cases h3:Nat.beq f 49 <;> rw [h3] at h
   ·rw [p6] at h;cases h4:Nat.beq f 99 <;> rw [h4] at h
    ·rw [p6] at h;cases h5:Nat.beq f 234 <;> rw [h5] at h
     ·cases h
     ·exact zhn (po h5) ⟨_,by rw [hP]; exact Tryz.func234,by kernel_rfl⟩ (zsh hP hG h hi hcan hv)
    ·exact zhn (po h4) ⟨_,by rw [hP]; exact Tryz.func99,by kernel_rfl⟩ (zqt hP h hi hcan hv)
   ·exact zhn (po h3) ⟨_,by rw [hP]; exact Tryz.func49,by kernel_rfl⟩ (zsg hP h hi hcan hv)
  ·exact zhn (po h2) ⟨_,by rw [hP]; exact Tryz.func192,by kernel_rfl⟩ (zsi hP h hi hcan hv)
 ·exact zhn (po h1) ⟨_,by rw [hP]; exact Tryz.func164,by kernel_rfl⟩ (zuy hP h hi hcan hv)
end
end Go.Vai
end
noncomputable section
namespace Go.Vai
open Go.Proofs
section
variable {α R:Type} {cx:Cx}
theorem zn4(ops:List Oper)(o:Oper)(fr:Fr)(yes no:Fr→Option α)(F:α→Option R):zc (zah ops o fr yes no) F=zah ops o fr (λ fr=>zc (yes fr) F) (λ fr=>zc (no fr) F):=by
 unfold zah;split
 ·rfl
 ·split
  ·rfl
  ·split
   ·simp only [zx]
   ·rfl
   ·rfl
theorem zfh{m nt:Nat}{call:yn}{ops:List Oper}(F:α→Option R):∀ (l:List Oper) (fr:Fr) (σ:St) (K:Ex→Fr→St→Option α),zc (qw cx m nt call ops l fr σ K) F=qw cx m nt call ops l fr σ λ e fr σ=>zc (K e fr σ) F
 | [],_,_,_=>rfl
 | o::r,fr,σ,K=>by
  unfold qw;rw [zi,zn4];congr 2
  ·funext fr;rw [zp];congr 1; funext p;obtain ⟨oc,δ,fp⟩:=p;cases oc with
   | val v=>exact zfh F r _ _ K
   | pan v=>rfl
  ·funext fr;exact zfh F r _ _ K
theorem zcd{m nt:Nat}{call:yn}{ops:List Oper}{pre:List Nat}(F:α→Option R):∀ (l:List Oper) (i:Nat) (log:List Log) (dead:Option (Nat×V)) (fr:Fr) (σ:St) (K:Ex→Fr→St→Option α),zc (x1 cx m nt call ops pre i l log dead fr σ K) F=x1 cx m nt call ops pre i l log dead fr σ λ e fr σ=>zc (K e fr σ) F
 | [],_,log,none,_,_,_=>rfl
 | [],_,log,some (k,v),_,_,_=>by unfold x1; rw [zi]
 | o::r,i,log,dead,fr,σ,K=>by
  unfold x1;rw [zx,zi,zn4,zcd F r];congr 3
  ·funext fr;rw [zp];congr 1; funext p;rw [zi];congr 1;obtain ⟨oc,δ,fp⟩:=p;cases oc with
   | val v=>exact zcd F r _ _ _ _ _ K
   | pan v=>cases dead with
    | none=>exact zcd F r _ _ _ _ _ K
    | some _=>rfl
  ·funext fr;exact zcd F r _ _ _ _ _ K
theorem zjz(m f key:Nat)(fr:Fr)(σ:St)(K:Fr→St→Option α)(F:α→Option R):zc (tidy cx m f key fr σ K) F=tidy cx m f key fr σ λ fr σ=>zc (K fr σ) F:=by
 unfold tidy;simp only [zi]
theorem zqm(nt:Nat)(σ:St)(fr:Fr)(q:Pend)(K:Fr→St→Option α)(F:α→Option R):zc (zc1 cx nt σ fr q K) F=zc1 cx nt σ fr q λ fr σ=>zc (K fr σ) F:=by
 unfold zc1;rw [zi];congr 1;split
 ·simp only [zi,zp];congr 1; congr 1; funext s; congr 1; funext pl; congr 1; funext jv; congr 1; funext v; congr 1; funext y;split
  ·split
   ·simp only [zi,zjl]
   ·rfl
  ·rfl
 ·rfl
theorem zu8(nt:Nat)(ops:List Oper)(k:Nat)(fr:Fr)(σ:St)(K:List Oper→Fr→St→Option α)(F:α→Option R):zc (zai cx nt ops k fr σ K) F=zai cx nt ops k fr σ λ r fr σ=>zc (K r fr σ) F:=by
 unfold zai;split
 ·rw [zp];congr 1; funext q;exact zqm ..
 ·rfl
theorem zu6(nt:Nat)(ops:List Oper)(k:Nat)(fr:Fr)(σ:St)(K:Fr→St→Option α)(F:α→Option R):zc (zbh cx nt ops k fr σ K) F=zbh cx nt ops k fr σ λ fr σ=>zc (K fr σ) F:=by
 unfold zbh;split
 ·rw [zp];congr 1; funext q;rw [zqm];congr 1; funext fr σ;split
  ·rw [zi,zp];congr 1; congr 1; funext pv;rw [zp];congr 1; funext v;split
   ·split
    ·rw [zi]
    ·rfl
   ·rfl
  ·rfl
 ·rfl
theorem zt3{body:Fr→St→(Ex→Fr→St→Option α)→Option α}{body':Fr→St→(Ex→Fr→St→Option R)→Option R}{m f key:Nat}(F:α→Option R)
  (hb:∀ fr σ K,zc (body fr σ K) F=body' fr σ λ e fr σ=>zc (K e fr σ) F):∀ (n:Nat) (fr:Fr) (σ:St) (K:Ex→Fr→St→Option α),zc (iter body (tidy cx m f key) n fr σ K) F=iter body' (tidy cx m f key) n fr σ λ e fr σ=>zc (K e fr σ) F
 | 0,_,_,_=>rfl
 | n+1,fr,σ,K=>by
  unfold iter;rw [hb];congr 1; funext e fr σ;cases e with
  | normal=>
   refine (zjz ..).trans ?_;show tidy cx m f key fr σ _=tidy cx m f key fr σ _;congr 1; funext fr σ;exact zt3 F hb n fr σ K
  | _=>rfl
theorem zvd{f m nt n:Nat}{call:yn}(F:α→Option R):∀ (c:Code) (fr:Fr) (σ:St) (K:Ex→Fr→St→Option α),zc (z7 cx f m nt call n c fr σ K) F=z7 cx f m nt call n c fr σ λ e fr σ=>zc (K e fr σ) F:=by
 intro c
 induction c with
 | skip=>intros; rfl
 | label l=>intros; rfl
 | exit id=>intros; rfl
 | goto l=>intros; rfl
 | ret=>intros; rfl
 | refuse why=>intros; rfl
 | rangeFunc f params assign body _ _=>intros; rfl
 | region id ops draw=>
  intro fr σ K;cases draw
  ·unfold z7;split
   ·exact zfh F _ _ _ _
   ·rw [zfh];congr 1; funext e fr σ;cases e with
    | normal=>
     refine (zu8 ..).trans ?_;show zai cx nt _ _ fr σ _=zai cx nt _ _ fr σ _;congr 1; funext r fr σ;exact zfh F _ _ _ _
    | _=>rfl
  ·unfold z7;split
   ·rw [zi,zcd]
   ·rw [zi,zi,zcd];congr 2;congr 1; funext e fr σ;cases e with
    | normal=>exact zu6 ..
    | _=>rfl
 | seq x y ihx ihy=>
  intro fr σ K;unfold z7;rw [ihx];congr 1; funext e fr σ;cases e <;> first | rfl | exact ihy _ _ _
 | cond c x y ihx ihy=>
  intro fr σ K;unfold z7;simp only [zp,zrx,zx,ihx,ihy]
 | block id c ih=>
  intro fr σ K;unfold z7;rw [ih];congr 1; funext e fr σ;cases e with
  | normal=>exact zjz ..
  | exit id'=>
   show zc (bif Nat.beq id' id then _ else _) F=bif Nat.beq id' id then _ else _;rw [zx];congr 1;exact zjz ..
  | _=>rfl
 | loop c ih=>
  intro fr σ K;unfold z7;rw [zjz];congr 1; funext fr σ;exact zt3 F (λ fr σ K=>ih fr σ K) n fr σ K
 | scope c ih=>
  intro fr σ K;unfold z7;rw [ih];congr 1; funext e fr σ;cases e <;> rfl
def zpk(cx:Cx)(call:CK R)(n f:Nat)(args:List V)(σ:St)(K:Out→St→Option R):Option R:=
 match cx.nat f args σ with
 | some r=>K r.1 r.2
 | none=>
 match cx.P.funcs[f]? with
 | none=>none
 | some fn=>
  match fn.body with
  | none=>none
  | some c=>bif cx.dfr f then zc (v8 cx call.S n f args σ) λ p=>K p.1 p.2
   else xk cx f σ.length fn.ntmps call n c (vw 0 args) σ λ e fr σ'=>zc (zg0 cx f σ.length fn.results.toList e fr σ') λ p=>K p.1 p.2
theorem zxi{call:CK R}{n f:Nat}{args:List V}{σ:St}{K:Out→St→Option R}:zpk cx call n f args σ K=(match v8 cx call.S n f args σ with | some (o,σ')=>K o σ' | none=>none):=by
 have e:∀ o:Option (Out×St),(match o with | some (o,σ')=>K o σ' | none=>none)=zc o λ p=>K p.1 p.2:=λ o=>by rcases o with _ | ⟨_,_⟩ <;> rfl
 rw [e];unfold zpk;cases hd:cx.dfr f
 ·unfold v8;rw [hd];split
  ·rename_i r h; rw [h]; rfl
  ·rename_i h;rw [h];split
   ·rename_i h; rw [h]; rfl
   ·rename_i fn h;rw [h];split
    ·rename_i h; simp only [h]; rfl
    ·rename_i c h;simp only [h,p6];rw [zvd,zfj]
 ·simp only [p5];split
  ·rename_i r h; unfold v8; rw [h]; rfl
  ·rename_i h;split
   ·rename_i h'; unfold v8; rw [h,h']; rfl
   ·rename_i fn h';split
    ·rename_i h''; unfold v8; rw [h,h']; simp only [h'']; rfl
    ·rfl
end
def ztn(K:CK R1)(N:Nat):CK R1 where
 S:=v8 cx K.S N
 run:=zpk cx K N
 ok:=λ g a σ F=>zxi
theorem ze2{K:CK R1}(h:knows cx K.S (zl cx))(N:Nat):knows cx (ztn K N).S (zl cx):=λ f args σ r _ hr=>zqw (zfg h (Nat.le_refl N) f args σ r hr)
def zhx(w:CK R1→CK R1)(N:Nat):Nat→CK R1
 | 0=>w (CK.plain x7)
 | n+1=>w (ztn (zhx w N n) N)
theorem qj{w:CK R1→CK R1}{N:Nat}(hw:∀ K:CK R1,knows cx K.S (zl cx)→knows cx (w K).S (zl cx)):∀ n,knows cx (zhx w N n).S (zl cx)
 | 0=>hw _ yy
 | n+1=>hw _ (ze2 (qj hw n) N)
def zmv:List (List UInt8):=[[85],[83,49],[98,97,115,101],[110,111,114,116,104],[115,111,117,116,104],[108,111,111,112],[102,115,116],[115,110,100],[83,117,115,112],[117,110,103,108,117,101],[109,101,114,105,100],[103,108,117,101],[71,108,117,101],[80,97,116,104],[116,114,97,110,115,112],[104,99,111,109,112],[83,49,101,108,105,109],[83,117,115,112,101,108,105,109]]
def z1n:List Nat:=[0,0,0,0,0,0,1,1,1,1,1,2,2,3,3,3,4,5]
def wdK:List D:=zmv.map .str
def wdV:List D:=z1n.map λ k:Nat=>D.int .i64 k
def zzd:List D→List (List UInt8)→Bool
 | .str s::r,t::l=>decide (s=t)&&zzd r l
 | [],[]=>true
 | _,_=>false
def zzc:List D→List Nat→Bool
 | .int .i64 n::r,m::l=>decide (n=(m:Int))&&zzc r l
 | [],[]=>true
 | _,_=>false
def zk9(ks vs:List D):Bool:=zzd ks zmv&&zzc vs z1n
theorem zog:∀ {r:List D} {l:List (List UInt8)},zzd r l=true→r=l.map .str
 | [],[],_=>rfl
 | .str s::r,t::l,h=>by
  simp only [zzd,pq] at h;rw [pd h.1,zog h.2]; rfl
 | [],_::_,h=>by cases h
 | .str _::_,[],h=>by cases h
 | .bool _::_,_,h | .int _ _::_,_,h=>by cases h
theorem zof:∀ {r:List D} {l:List Nat},zzc r l=true→r=l.map λ k:Nat=>D.int .i64 k
 | [],[],_=>rfl
 | .int .i64 n::r,m::l,h=>by
  simp only [zzc,pq] at h;rw [pd h.1,zof h.2]; rfl
 | [],_::_,h=>by cases h
 | .int .i64 _::_,[],h=>by cases h
theorem ziu{ks vs:List D}(h:zk9 ks vs=true):ks=wdK∧vs=wdV:=by
 unfold zk9 at h;rw [pq] at h;exact ⟨zog h.1,zof h.2⟩
def zlt:List V→Option ((D×D×D)×List UInt8)
 | [.d (.agg [.map ks vs,g,v,i]),.d (.agg [.int .i64 _,.str s,_,_,.int .i64 _])]=>bif zk9 ks vs then some ((g,v,i),s) else none
 | _=>none
def zyn(r:Int×Int×List UInt8):V:=.d (.agg [.int .i64 r.1,.int .i64 r.2.1,.str r.2.2,.sl 2 [],.sl 6 [],.sl 2 []])
def zoi:List V→Option (List UInt8)
 | [.d (.agg [.map ks vs,_,_,_]),.d (.str s)]=>bif zk9 ks vs then some s else none
 | _=>none
def zhy:List V→Option (List UInt8) | [.d (.str s)]=>some s | _=>none
def mk0(_:Unit):V:=.d (.int .i64 0)
def zym(_:Unit):V:=.d (.bool false)
def zt1(_:Unit):V:=.d (.bool true)
def zrl:List V→Option ((D×D×D)×D)
 | [.d (.agg [.map ks vs,g,v,i]),.d t]=>bif zk9 ks vs then some ((g,v,i),t) else none
 | _=>none
def mk6(r:D×D×D×D×D×D):V:=.d (.agg [r.1,r.2.1,r.2.2.1,r.2.2.2.1,r.2.2.2.2.1,r.2.2.2.2.2])
def wNm(pu pw:List UInt8→Option Unit)(pn:(D×D×D)×List UInt8→Option (Int×Int×List UInt8))(pp:(D×D×D)×List UInt8→Option Unit)(K:CK R1):CK R1:=
 xu 126 zhy pu zt1 (xu 79 zoi pw zym (xu 107 zlt pn zyn (xu 185 zlt pp mk0 K)))
def z0e{α β:Type}(f:Nat)(dec:List V→Option α)(sp:α→Option β)(mk:β→V)(S:CK R1):CK R1 where
 S:=λ g args σ=>bif Nat.beq g f&&σ.isEmpty then zc (dec args) λ q=>zc (sp q) λ b=>some (.pan (mk b),[]) else S.S g args σ
 run:=λ g args σ K=>bif Nat.beq g f&&σ.isEmpty then zc (dec args) λ q=>zc (sp q) λ b=>K (.pan (mk b)) [] else S.run g args σ K
 ok:=λ g a σ K=>by
  show _=zcw _ K;rw [xz,yo];cases Nat.beq g f&&σ.isEmpty
  ·exact S.ok g a σ K
  ·simp only [p5,yo];rfl
theorem zsb{α β:Type}{f:Nat}{dec:List V→Option α}{sp:α→Option β}{mk:β→V}{S:CK R1}(hS:knows cx S.S (zl cx))
  (hf:∀ a q b,cx.dom f a=true→dec a=some q→sp q=some b→zl cx f a []=some (.pan (mk b),[])):knows cx (z0e f dec sp mk S).S (zl cx):=by
 intro g args σ r hd h;simp only [z0e] at h;cases hg:(Nat.beq g f&&σ.isEmpty) <;> rw [hg] at h
 ·exact hS g args σ r hd h
 ·rw [pq] at hg;obtain rfl:=po hg.1;obtain rfl:=List.isEmpty_iff.1 hg.2;simp only [p5] at h;obtain ⟨q,hq,h⟩:=za h;obtain ⟨b,hb,h⟩:=za h;cases h;exact hf args q b hd hq hb
def zrm:List V→Option (((D×D×D)×List UInt8)×Int)
 | [.d (.agg [.map ks vs,g,v,i]),.d (.agg [.int .i64 _,.str s,_,_,.int .i64 a])]=>bif zk9 ks vs then some (((g,v,i),s),a) else none
 | _=>none
def z3i(a:Int):V:=.d (.iface 133 (.agg [.int .i64 a,.int .i64 90]))
def wNo(pn:((D×D×D)×List UInt8)×Int→Option Int)(K:CK R1):CK R1:=z0e 107 zrm pn z3i K
def knL:List (List UInt8):=[[85],[83,49],[98,97,115,101],[110,111,114,116,104],[115,111,117,116,104],[102,115,116],[115,110,100],[83,117,115,112],[117,110,103,108,117,101]]
def knN:List Nat:=[3,19,20,24,25,9,10,23,18]
def z1l:List D:=knL.map .str
def zx6:List D:=knN.map λ k:Nat=>D.int .i64 k
def zyo(_:Unit):V:=.d (.map z1l zx6)
def zs6:List V→Option Unit | []=>some () | _=>none
def z4p:List V→Option (D×D) | [.d a,.d b]=>some (a,b) | _=>none
def zgl:List V→Option (List D×List UInt8) | [.d (.sl 1 l),.d (.str s)]=>some (l,s) | _=>none
def z4o:List V→Option (List UInt8)
 | [.d (.agg [.map ks vs,_,_,_]),.d _,.d (.str s)]=>bif zk9 ks vs then some s else none
 | _=>none
def z10(_:Unit):V:=.tup []
def z0j(r:Tr×Int×Int):V:=.tup [.d (trD r.1),.d (.int .i64 r.2.1),.d (.int .i64 r.2.2)]
def zzx:List V→Option (D×D×D×D) | [.d t,.d a,.d b,.d c]=>some (t,a,b,c) | _=>none
def ziq(r:(D×D×D×D×D×D)×Int×Int):V:=.tup [mk6 r.1,.d (.int .i64 r.2.1),.d (.int .i64 r.2.2)]
def K14(p12:List UInt8→Option (Tr×Int×Int))(p42:D×D×D×D→Option ((D×D×D×D×D×D)×Int×Int)):CK R1:=
 xu 12 zhy p12 z0j (xu 42 zzx p42 ziq (CK.plain x7))
def vr(n:Int):D:=.agg [.int .i64 1,.int .i64 n,.str [],.sl 2 [],.sl 6 [],.sl 2 []]
def lmT(t:D):D:=.agg [.int .i64 5,.int .i64 0,.str [],.sl 2 [],.sl 6 [t],.sl 2 []]
def cnT(y:List UInt8):D:=.agg [.int .i64 2,.int .i64 0,.str y,.sl 2 [],.sl 6 [],.sl 2 []]
def zrT:D:=.agg [.int .i64 0,.int .i64 0,.str [],.sl 2 [],.sl 6 [],.sl 2 []]
def zx0:List UInt8×D→Int→V
 | (_,.agg [.sl _ [],.sl _ [],.sl _ []]),_=>.tup [.d (lmT (lmT (vr 0))),.d (.int .i64 0),.d (.int .i64 0)]
 | (_,.agg [.sl _ [],.sl _ [_],.sl _ []]),_=>.tup [.d (lmT (vr 0)),.d (.int .i64 0),.d (.int .i64 0)]
 | (_,.agg [.sl _ [_],.sl _ [_,_,_],.sl _ []]),_=>.tup [.d (vr 1),.d (.int .i64 0),.d (.int .i64 0)]
 | (_,.agg [.sl _ [.str y],.sl _ [],.sl _ [_]]),_=>.tup [.d (cnT y),.d (.int .i64 0),.d (.int .i64 0)]
 | _,a=>.tup [.d zrT,.d (.int .i64 a),.d (.int .i64 90)]
def zwq{α β:Type}(f:Nat)(dec:List V→Option α)(sp:α→Option β)(mk:α→β→V)(S:CK R1):CK R1 where
 S:=λ g args σ=>bif Nat.beq g f&&σ.isEmpty then zc (dec args) λ q=>zc (sp q) λ b=>some (.ret (mk q b),[]) else S.S g args σ
 run:=λ g args σ K=>bif Nat.beq g f&&σ.isEmpty then zc (dec args) λ q=>zc (sp q) λ b=>K (.ret (mk q b)) [] else S.run g args σ K
 ok:=λ g a σ K=>by
  show _=zcw _ K;rw [xz,yo];cases Nat.beq g f&&σ.isEmpty
  ·exact S.ok g a σ K
  ·simp only [p5,yo];rfl
theorem zqk{α β:Type}{f:Nat}{dec:List V→Option α}{sp:α→Option β}{mk:α→β→V}{S:CK R1}(hS:knows cx S.S (zl cx))
  (hf:∀ a q b,cx.dom f a=true→dec a=some q→sp q=some b→zl cx f a []=some (.ret (mk q b),[])):knows cx (zwq f dec sp mk S).S (zl cx):=by
 intro g args σ r hd h;simp only [zwq] at h;cases hg:(Nat.beq g f&&σ.isEmpty) <;> rw [hg] at h
 ·exact hS g args σ r hd h
 ·rw [pq] at hg;obtain rfl:=po hg.1;obtain rfl:=List.isEmpty_iff.1 hg.2;simp only [p5] at h;obtain ⟨q,hq,h⟩:=za h;obtain ⟨b,hb,h⟩:=za h;cases h;exact hf args q b hd hq hb
def zxp:List V→Option (List UInt8×D) | [.d (.str s),.d x]=>some (s,x) | _=>none
def KL4(p12:List UInt8→Option (Tr×Int×Int))(p13:List UInt8→Option Int)(p14:List UInt8×D→Option Int):CK R1:=
 xu 11 zs6 some zt1 (xu 12 zhy p12 z0j (xu 13 zhy p13 mkI (zwq 14 zxp p14 zx0 (CK.plain x7))))
def zta:List V→Option ((List UInt8×Int)×(List UInt8×Int)×Int)
 | [.d (.agg [.int .i64 6,.str [],.sl 5 [.agg [.int .i64 1,.str x,.sl 5 [],.sl 1 [],.int .i64 a],.agg [.int .i64 1,.str y,.sl 5 [],.sl 1 [],.int .i64 b]],.sl 1 [],.int .i64 c])]=>some ((x,a),(y,b),c)
 | _=>none
def nmT(q:List UInt8×Int):D:=.agg [.int .i64 1,.str q.1,.sl 5 [],.sl 1 [],.int .i64 q.2]
def zzu(q:(List UInt8×Int)×(List UInt8×Int)×Int):V:=.tup [.d (nmT q.1),.d (.sl 5 [nmT q.2.1])]
def zzw:List V→Option Unit | _=>none
def z3f(p81:(D×D×D)×D→Option (D×D×D×D×D×D)):CK R1:=
 xu 149 zta some zzu (xu 81 zrl p81 mk6 (xu 150 zzw some z10 (xu 114 zzw some z10 (ztn (CK.plain x7) 5))))
def z0i(b:Bool):V:=.d (.bool b)
theorem e11:we cx 200 11 [] []=some (.ret (z0i true),[]):=by kernel_rfl
theorem m11:zl cx 11 [] []=some (.ret (z0i true),[]):=zk1 e11
theorem zlg{c:UInt8}{r:List UInt8}(h:(yq (c.toNat:Int)||va (c.toNat:Int))=false):fol (c::r):=λ d hd=>by cases hd; exact h
theorem zy5:fol []:=λ c h=>by cases h
theorem z11{x r:List UInt8}{l:List (Int×List UInt8)}(h:zlc x)(hf:fol r)(hr:Lex r l):Lex (x++r) ((1,x)::l):=zt2 h r l hf hr
theorem zo9{x:List UInt8}(h:zlc x):Lex x [(1,x)]:=by
 have:=zt2 h [] [] zy5 .nil
 rwa [List.append_nil] at this
theorem zsn{x r:List UInt8}{l:List (Int×List UInt8)}(h:zlc x)(hf:fol r)(hr:Lex r l):Lex (92::(x++r)) ((2,[92])::(1,x)::l):=by
 have h2:=z11 h hf hr;obtain ⟨b,t,rfl,hb,_⟩:=h;exact Lex.tok (k:=2) (t:=[92]) (zyi hb _) (by simp) (λ _=>rfl) h2
theorem ziy{I:List D}(h:Er I []):I=[]:=by cases h; rfl
theorem vn{I:List D}{k:Int}{t:List UInt8}{l:List (Int×List UInt8)}(h:Er I ((k,t)::l)):∃ a J,I=y4 k t a::J∧Er J l:=by
 cases h with
 | tok h=>exact ⟨_,_,rfl,h⟩
def zft(K:Nat)(L:List D):Option TR:=zc (xo K L 0 1) λ p=>
 bif yp p then zc (zg L (zn p)) λ q=>bif decide (q.1=0) then some (.ok (zb p)) else some (.bad q.2.2 61)
 else some (.bad (yt p) (xj p))
theorem ze5{s:List UInt8}{ks:List (Int×List UInt8)}(h:Lex s ks)(hl:s.length≤65536) :
  ∃ I,Er I ks∧∀ K,xp K s=zft K (I++[y4 0 [] (s.length:Int),y4 0 [] (s.length:Int),y4 0 [] (s.length:Int)]):=by
 obtain ⟨I,hs,he⟩:=zqz h hl;refine ⟨I,he,λ K=>?_⟩;have hE:xg s=0:=by unfold xg; rw [hs]
 have hL:yk s=I++[y4 0 [] (s.length:Int)]:=by unfold yk; rw [hs]
 unfold xp zft;rw [hE,pa rfl,p5,hL,zff,List.append_assoc];rfl
theorem z1g{s:List UInt8}{e:Nat}{l:List D}(h:Cov s e l):∀ (k:Int) (t:List UInt8) (a:Int),y4 k t a∈l→t=[]∨Tk k t:=by
 induction h with
 | fin _ _=>
  intro k t a hm;rcases List.mem_singleton.1 hm with h;exact .inl (zcj h).2.1
 | tok _ _ _ ho hne _ ih=>
  intro k t a hm;cases hm with
  | head=>exact .inr (zid ho hne)
  | tail _ hm=>exact ih k t a hm
theorem zzk{e:Nat}{l:List D}(h:Cov [] e l):l.length=1:=by
 generalize hs:([]:List UInt8)=s at h;cases h with
 | fin _ _=>rfl
 | tok _ _ hlt _ _ _=>subst hs; cases hlt
def z23:Option TR→Bool | some (.ok _)=>true | _=>false
theorem zwm:qm.all (λ s=>!z23 (xp 600000 s))=true:=by kernel_rfl
theorem zyl{s:List UInt8}{t:Tr}(h:xp 600000 s=some (.ok t))(hk:t.k=1)(hn:t.nm=s):zlc s:=by
 rcases ztr s with ⟨I,hT⟩ | ⟨hE,_⟩
 ·rcases zts hT (Nat.le_refl 600000) with ⟨t',n,h1,_,hpos,x,hx,hW⟩ | ⟨a,e,h1,_⟩
  ·rw [h] at h1;cases h1;cases n with
   | zero=>exact hW.elim
   | succ n=>
    obtain ⟨p,hp,_,hnm,_⟩:=hW;have hps:p.2.1=s:=(hnm hk).symm.trans hn;obtain ⟨_,_,_,hg⟩:=qs hp;have hm:=pz hg;rw [zff] at hm;have hm2:y4 p.1 p.2.1 p.2.2∈I++[y4 0 [] (s.length:Int)]:=by
     rcases List.mem_append.1 hm with h | h
     ·exact h
     ·refine List.mem_append_right _ ?_;simpa using h
    rcases z1g hT.cov _ _ _ hm2 with h0 | hk
    ·rw [hps] at h0;subst h0;have hc:=hT.cov;have:=zzk hc;rw [ph] at this;simp only [p7,p8] at this;omega
    ·rw [hps] at hk;rcases hk with ⟨_,b,r,e,hb,hr⟩ | ⟨_,hs⟩
     ·exact ⟨b,r,e,hb,hr⟩
     ·have:=List.all_eq_true.1 zwm s hs;rw [h] at this;cases this
  ·rw [h] at h1; cases h1
 ·unfold xp at h;rw [pb hE,p6] at h;cases h
theorem z13{x:List UInt8}(hx:zlc x):Lex (92::(x++(46::(32::(92::(x++(46::(32::x)))))))) [(2,[92]),(1,x),(2,[46]),(2,[92]),(1,x),(2,[46]),(1,x)]:=
 (zsn hx (zlg rfl) (z0q _ _ (.blank (zsn hx (zlg rfl) (z0q _ _ (.blank (zo9 hx)))))))
theorem z12{x:List UInt8}(hx:zlc x):Lex (92::(x++(46::(32::x)))) [(2,[92]),(1,x),(2,[46]),(1,x)]:=
 (zsn hx (zlg rfl) (z0q _ _ (.blank (zo9 hx))))
theorem zwx{x:List UInt8}(hx:zlc x):Lex x [(1,x)]:=
 (zo9 hx)
theorem a79(n:Nat)(ks vs:List D)(a b c:D)(s:List UInt8):zu cx (CK.plain x7) n 79 [.d (.agg [.map ks vs,a,b,c]),.d (.str s)] []=zc (zae (D.str s) ks 0) λ o=>zkp o (λ i=>vd vs i λ y=>match y with | D.int k' n=>bif decide (k'=IntKind.i64) then some (Out.ret (V.d (D.bool true)),[]) else none | x=>none) (some (Out.ret (V.d (D.bool false)),[])):=by kernel_rfl
theorem z4h(n:Nat)(l:List (List UInt8))(s:List UInt8):zu cx (CK.plain x7) n 132 [.d (.sl 1 (l.map .str)),.d (.str s)] []=LP cx (CK.plain x7) n 132 0 2 n [(0,V.d (D.sl 1 (List.map D.str l))),(1,V.d (D.str s)),(7,V.d (D.int .i64 (↑(List.map D.str l).length:Int))),(8,V.d (D.int .i64 (0:Int)))] [] (AK cx (CK.plain x7) n 132 0 2 (EK cx 132 0)):=by kernel_rfl
theorem z2x(n k:Nat)(l:List (List UInt8))(s:List UInt8)(i:Int):LP cx (CK.plain x7) n 132 0 2 (k+1) [(0,.d (.sl 1 (l.map .str))),(1,.d (.str s)),(7,.d (.int .i64 (l.length:Int))),(8,.d (.int .i64 i))] [] (AK cx (CK.plain x7) n 132 0 2 (EK cx 132 0))=bif decide (i<(↑l.length:Int)) then zh (decide (0≤i)&&decide (i<(↑(List.map D.str l).length:Int))) (vd (List.map D.str l) i.toNat λ y=>vd y.cells 0 λ c=>match c with | D.str s_1=>bif decide (s=s_1) then some (Out.ret (V.d (D.int .i64 i)),[]) else LP cx (CK.plain x7) n 132 0 2 k [(0,V.d (D.sl 1 (List.map D.str l))),(1,V.d (D.str s)),(7,V.d (D.int .i64 (↑l.length:Int))),(8,V.d (D.int .i64 (IntKind.i64.wrap (i+(1:Int)))))] [] (AK cx (CK.plain x7) n 132 0 2 (EK cx 132 0)) | x=>none) else some (Out.ret (V.d (D.int .i64 (Int.negSucc 0))),[]):=by kernel_rfl
theorem z3c(pw:List UInt8→Option Unit)(pi:List D×List UInt8→Option Int)(pc:List D×List UInt8→Option Bool)(n:Nat)(ks vs g v:List D)(i:D)(s:List UInt8)(k a:Int)(kd nm:D):zu cx (zhx (λ K=>xu 146 zs6 some zyo (xu 79 zoi pw zym (xu 132 zgl pi mkI (xu 90 zgl pc mkB K)))) 5 3) n 107 [.d (.agg [.map wdK wdV,.sl 1 g,.sl 1 v,i]),.d (.agg [.int .i64 k,.str s,kd,nm,.int .i64 a])] []=zc (zae (D.str s) (knL.map D.str) 0) λ o=>zkp o (λ i=>vd zx6 i λ y=>match y with | D.int k' n=>bif decide (k'=IntKind.i64) then zc (zae (D.str s) (zmv.map D.str) 0) λ o=>zkp o (λ i=>vd wdV i λ y=>match y with | D.int k' n_1=>bif decide (k'=IntKind.i64) then bif decide (n_1=(0:Int)) then some (Out.ret (V.d (D.agg [D.int .i64 n,D.int .i64 (0:Int),D.str [],D.sl 2 [],D.sl 6 [],D.sl 2 []])),[]) else zc (pw s) λ b=>zc (pi (v,s)) λ b=>bif decide ((0:Int)≤b) then some (Out.ret (V.d (D.agg [D.int .i64 (1:Int),D.int .i64 b,D.str [],D.sl 2 [],D.sl 6 [],D.sl 2 []])),[]) else zc (pc (g,s)) λ b=>bif !b then some (Out.pan (V.d (D.iface 133 (D.agg [D.int .i64 a,D.int .i64 (90:Int)]))),[]) else some (Out.ret (V.d (D.agg [D.int .i64 (2:Int),D.int .i64 (0:Int),D.str s,D.sl 2 [],D.sl 6 [],D.sl 2 []])),[]) else none | x=>none) (some (Out.ret (V.d (D.agg [D.int .i64 n,D.int .i64 (0:Int),D.str [],D.sl 2 [],D.sl 6 [],D.sl 2 []])),[])) else none | x=>none) (zc (pw s) λ b=>zc (pi (v,s)) λ b=>bif decide ((0:Int)≤b) then some (Out.ret (V.d (D.agg [D.int .i64 (1:Int),D.int .i64 b,D.str [],D.sl 2 [],D.sl 6 [],D.sl 2 []])),[]) else zc (pc (g,s)) λ b=>bif !b then some (Out.pan (V.d (D.iface 133 (D.agg [D.int .i64 a,D.int .i64 (90:Int)]))),[]) else some (Out.ret (V.d (D.agg [D.int .i64 (2:Int),D.int .i64 (0:Int),D.str s,D.sl 2 [],D.sl 6 [],D.sl 2 []])),[])):=by kernel_rfl
theorem a13(s:List UInt8):zu cx (CK.plain x7) 30 13 [.d (.str s)] []=bif decide ([85]=s) then some (Out.ret (V.d (D.int .i64 0)),[]) else bif decide ([83,49]=s) then some (Out.ret (V.d (D.int .i64 0)),[]) else bif decide ([98,97,115,101]=s) then some (Out.ret (V.d (D.int .i64 0)),[]) else bif decide ([110,111,114,116,104]=s) then some (Out.ret (V.d (D.int .i64 0)),[]) else bif decide ([115,111,117,116,104]=s) then some (Out.ret (V.d (D.int .i64 0)),[]) else bif decide ([108,111,111,112]=s) then some (Out.ret (V.d (D.int .i64 0)),[]) else bif decide ([102,115,116]=s) then some (Out.ret (V.d (D.int .i64 1)),[]) else bif decide ([115,110,100]=s) then some (Out.ret (V.d (D.int .i64 1)),[]) else bif decide ([83,117,115,112]=s) then some (Out.ret (V.d (D.int .i64 1)),[]) else bif decide ([117,110,103,108,117,101]=s) then some (Out.ret (V.d (D.int .i64 1)),[]) else bif decide ([109,101,114,105,100]=s) then some (Out.ret (V.d (D.int .i64 1)),[]) else bif decide ([103,108,117,101]=s) then some (Out.ret (V.d (D.int .i64 2)),[]) else bif decide ([71,108,117,101]=s) then some (Out.ret (V.d (D.int .i64 2)),[]) else bif decide ([80,97,116,104]=s) then some (Out.ret (V.d (D.int .i64 3)),[]) else bif decide ([116,114,97,110,115,112]=s) then some (Out.ret (V.d (D.int .i64 3)),[]) else bif decide ([104,99,111,109,112]=s) then some (Out.ret (V.d (D.int .i64 3)),[]) else bif decide ([83,49,101,108,105,109]=s) then some (Out.ret (V.d (D.int .i64 4)),[]) else bif decide ([83,117,115,112,101,108,105,109]=s) then some (Out.ret (V.d (D.int .i64 5)),[]) else some (Out.ret (V.d (D.int .i64 (Int.negSucc 0))),[]):=by kernel_rfl
theorem a90(pi:List D×List UInt8→Option Int)(l:List D)(s:List UInt8):zu cx (xu 132 zgl pi mkI (CK.plain x7)) 0 90 [.d (.sl 1 l),.d (.str s)] []=zc (pi (l,s)) λ r=>some (Out.ret (V.d (D.bool (decide (0≤r)))),[]):=by kernel_rfl
theorem z4g(pi:List D×List UInt8→Option Int)(g v:D)(l:List D)(k a:Int)(s:List UInt8)(kd nm:D):zu cx (xu 132 zgl pi mkI (ztn (CK.plain x7) 5)) 5 185 [.d (.agg [.map wdK wdV,g,v,.sl 1 l]),.d (.agg [.int .i64 k,.str s,kd,nm,.int .i64 a])] []=zc (pi (l,s)) λ r=>bif decide (r<0) then some (Out.pan (V.d (D.iface 133 (D.agg [D.int .i64 a,D.int .i64 90]))),[]) else some (Out.ret (V.d (D.int .i64 r)),[]):=by kernel_rfl
theorem z4i(p81:(D×D×D)×D→Option (D×D×D×D×D×D))(g v i:D)(x y:List UInt8)(a b c:Int):zu cx (z3f p81) 5 112 [.d (.agg [.map wdK wdV,g,v,i]),.d (.agg [.int .i64 6,.str [],.sl 5 [.agg [.int .i64 1,.str x,.sl 5 [],.sl 1 [],.int .i64 a],.agg [.int .i64 1,.str y,.sl 5 [],.sl 1 [],.int .i64 b]],.sl 1 [],.int .i64 c])] []=zc (zae (D.str x) (zmv.map D.str) 0) λ o=>zkp o (λ i=>vd wdV i λ y_1=>match y_1 with | D.int k' n=>bif decide (k'=IntKind.i64) then bif decide ((↑[D.agg [D.int .i64 (1:Int),D.str y,D.sl 5 [],D.sl 1 [],D.int .i64 ((x,a),(y,b),c).snd.fst.snd]].length:Int)<n) then none else bif decide (x=[109,101,114,105,100]) then none else bif decide (x=[108,111,111,112]) then none else zh (decide (0≤n)&&decide (n≤(↑[D.agg [D.int .i64 (1:Int),D.str y,D.sl 5 [],D.sl 1 [],D.int .i64 ((x,a),(y,b),c).snd.fst.snd]].length:Int))) none else none | x=>none) (zc (p81 ((g,v,i),D.agg [D.int .i64 (1:Int),D.str x,D.sl 5 [],D.sl 1 [],D.int .i64 a])) λ b_1=>zc (p81 ((g,v,i),D.agg [D.int .i64 (1:Int),D.str y,D.sl 5 [],D.sl 1 [],D.int .i64 b])) λ b=>some (Out.ret (V.d (D.agg [D.int .i64 (6:Int),D.int .i64 (0:Int),D.str [],D.sl 2 [],D.sl 6 [D.agg [b_1.1,b_1.snd.1,b_1.snd.snd.1,b_1.snd.snd.snd.1,b_1.snd.snd.snd.snd.1,b_1.snd.snd.snd.snd.2],D.agg [b.1,b.snd.1,b.snd.snd.1,b.snd.snd.snd.1,b.snd.snd.snd.snd.1,b.snd.snd.snd.snd.2]],D.sl 2 []])),[])):=by kernel_rfl
theorem a14(p12:List UInt8→Option (Tr×Int×Int))(p42:D×D×D×D→Option ((D×D×D×D×D×D)×Int×Int))(s:List UInt8)(g v i:List D):zu cx (K14 p12 p42) 5 14 [.d (.str s),.d (.agg [.sl 1 g,.sl 1 v,.sl 1 i])] []=bif decide (s.length≤4611686018427387904) then zc (p12 s) λ r=>bif !decide (r.snd.snd=0) then some (Out.ret (V.tup [V.d (D.agg [D.int .i64 0,D.int .i64 0,D.str [],D.sl 2 [],D.sl 6 [],D.sl 2 []]),V.d (D.int .i64 r.snd.fst),V.d (D.int .i64 r.snd.snd)]),[]) else zc (p42 (D.agg [D.int .i64 r.fst.k,D.str r.fst.2,D.sl 5 r.fst.3,D.sl 1 r.fst.4,D.int .i64 r.fst.pl],D.sl 1 g,D.sl 1 v,D.sl 1 i)) λ r=>some (Out.ret (V.tup [V.d (D.agg [r.fst.1,r.fst.snd.1,r.fst.snd.snd.1,r.fst.snd.snd.snd.1,r.fst.snd.snd.snd.snd.1,r.fst.snd.snd.snd.snd.2]),V.d (D.int .i64 r.snd.fst),V.d (D.int .i64 r.snd.snd)]),[]) else none:=by kernel_rfl
def zq2(s:List UInt8):Bool:=zmv.any λ t=>decide (s=t)
theorem zbt{s:List UInt8}:∀ (ks:List (List UInt8)) (i:Nat),(ks.any λ t=>decide (s=t))=false→zae (.str s) (ks.map .str) i=some none
 | [],_,_=>rfl
 | t::ks,i,h=>by
  rw [List.any_cons,Bool.or_eq_false_iff] at h;show (bif decide (s=t) then some (some i) else zae (.str s) (ks.map .str) (i+1))=_;rw [h.1,p6];exact zbt ks (i+1) h.2
theorem zt4{s:List UInt8}(h:zq2 s=false):(knL.any λ t=>decide (s=t))=false:=by
 unfold zq2 zmv at h;unfold knL;simp only [List.any_cons,List.any_nil,Bool.or_eq_false_iff,Bool.or_false] at h ⊢;exact ⟨h.1,h.2.1,h.2.2.1,h.2.2.2.1,h.2.2.2.2.1,h.2.2.2.2.2.2.1,h.2.2.2.2.2.2.2.1,h.2.2.2.2.2.2.2.2.1,h.2.2.2.2.2.2.2.2.2.1⟩
theorem z3r(l:List (List UInt8))(s:List UInt8)(hl:zmy l=true):zl cx 132 [.d (.sl 1 (l.map .str)),.d (.str s)] []=some (.ret (mkI (zet (λ t=>decide (s=t)) l)),[]):=by
 refine zw yy (N:=l.length+1) ?_;rw [z4h,pj]
 have h:=zsx (λ k i=>LP cx (CK.plain x7) (l.length+1) 132 0 2 k [(0,.d (.sl 1 (l.map .str))),(1,.d (.str s)),(7,.d (.int .i64 (l.length:Int))),(8,.d (.int .i64 i))] [] (AK cx (CK.plain x7) (l.length+1) 132 0 2 (EK cx 132 0)))
  l (λ t=>decide (s=t)) (λ j=>some (Out.ret (V.d (D.int .i64 j)),[])) (some (Out.ret (V.d (D.int .i64 (Int.negSucc 0))),[])) (zye hl)
  (λ k j x hj hx=>by
   rw [z2x,pj,z0p hj,z0h,zuw,px,hx];rfl) (λ k=>by rw [z2x,z1a,p6]) (Nat.lt_succ_self _)
 refine h.trans ?_;unfold zet;cases xd (λ t=>decide (s=t)) l 0 <;> rfl
def zdh(q:List D×List UInt8):Option Int:=zc (strs q.1) λ l=>zh (zmy l) (some (zet (λ t=>decide (q.2=t)) l))
def zmx(q:List D×List UInt8):Option Bool:=zc (zdh q) λ b=>some (decide (0≤b))
theorem zlu{a:List V}{q}(h:zgl a=some q):a=[.d (.sl 1 q.1),.d (.str q.2)]:=by
 unfold zgl at h; split at h <;> cases h; rfl
theorem z07{K:CK R1}(hK:knows cx K.S (zl cx)):knows cx (xu 132 zgl zdh mkI K).S (zl cx):=yu hK λ a q b _ h hb=>by
 rw [zlu h];obtain ⟨l,hl,hb⟩:=za hb;obtain ⟨h1,hb⟩:=zd hb;cases hb;rw [znc hl];exact z3r l q.2 h1
theorem k90{K:CK R1}(hK:knows cx K.S (zl cx)):knows cx (xu 90 zgl zmx mkB K).S (zl cx):=yu hK λ a q b _ h hb=>by
 rw [zlu h];obtain ⟨r,hr,hb⟩:=za hb;cases hb;refine zw (z07 yy) (N:=0) ?_;rw [a90];show zc (zdh q) _=_;rw [hr];rfl
def spW(s:List UInt8):Option Unit:=bif zq2 s then none else some ()
theorem zs5{a:List V}{s}(h:zoi a=some s):∃ x y z,a=[.d (.agg [.map wdK wdV,x,y,z]),.d (.str s)]:=by
 unfold zoi at h;split at h
 ·rename_i ks vs x y z u;cases hw:zk9 ks vs
  ·rw [hw] at h; cases h
  ·rw [hw] at h;cases h;obtain ⟨rfl,rfl⟩:=ziu hw;exact ⟨_,_,_,rfl⟩
 ·cases h
theorem zka{s:List UInt8}{b:Unit}(h:spW s=some b):zq2 s=false:=by
 unfold spW at h;cases hw:zq2 s
 ·rfl
 ·rw [hw] at h; cases h
theorem k79{K:CK R1}(hK:knows cx K.S (zl cx)):knows cx (xu 79 zoi spW zym K).S (zl cx):=yu hK λ a q b _ h hb=>by
 obtain ⟨x,y,z,rfl⟩:=zs5 h;refine zw yy (N:=0) ?_;rw [a79,show wdK=zmv.map D.str from rfl,zbt zmv 0 (zka hb)];rfl
theorem zlq{a:List V}{q:Unit}(h:zs6 a=some q):a=[]:=by
 unfold zs6 at h; split at h
 ·rfl
 ·cases h
theorem z39:we cx 5 146 [] []=some (.ret (zyo ()),[]):=by kernel_rfl
theorem z3v{K:CK R1}(hK:knows cx K.S (zl cx)):knows cx (xu 146 zs6 some zyo K).S (zl cx):=yu hK λ a q b _ h hb=>by
 rw [zlq h];exact zk1 z39
def zdg(q:(D×D×D)×List UInt8):Option (Int×Int×List UInt8):=
 match q.1.1,q.1.2.1 with
 | .sl 1 g,.sl 1 v=>zc (spW q.2) λ _=>zc (zdh (v,q.2)) λ b=>bif decide (0≤b) then some (1,b,[]) else zc (zmx (g,q.2)) λ c=>bif c then some (2,0,q.2) else none
 | _,_=>none
def zwj(q:((D×D×D)×List UInt8)×Int):Option Int:=
 match q.1.1.1,q.1.1.2.1 with
 | .sl 1 g,.sl 1 v=>zc (spW q.1.2) λ _=>zc (zdh (v,q.1.2)) λ b=>bif decide (0≤b) then none else zc (zmx (g,q.1.2)) λ c=>bif c then none else some q.2
 | _,_=>none
theorem zfl{a:List V}{q}(h:zrm a=some q):∃ k kd nm,a=[.d (.agg [.map wdK wdV,q.1.1.1,q.1.1.2.1,q.1.1.2.2]),.d (.agg [.int .i64 k,.str q.1.2,kd,nm,.int .i64 q.2])]:=by
 unfold zrm at h;split at h
 ·rename_i ks vs x y z k s kd nm a;cases hw:zk9 ks vs
  ·rw [hw] at h; cases h
  ·rw [hw] at h;cases h;obtain ⟨rfl,rfl⟩:=ziu hw;exact ⟨_,_,_,rfl⟩
 ·cases h
theorem zls{a:List V}{q}(h:zlt a=some q):∃ p,zrm a=some (q,p):=by
 unfold zlt at h;unfold zrm;split at h
 ·rename_i ks vs x y z k s kd nm a;cases hw:zk9 ks vs
  ·rw [hw] at h; cases h
  ·rw [hw] at h;cases h;exact ⟨a,rfl⟩
 ·cases h
theorem zms:∀ n,knows cx (zhx (λ K=>xu 146 zs6 some zyo (xu 79 zoi spW zym (xu 132 zgl zdh mkI (xu 90 zgl zmx mkB K)))) 5 n).S (zl cx):=
 qj λ _ h=>z3v (k79 (z07 (k90 h)))
theorem z2z{K:CK R1}(hK:knows cx K.S (zl cx)):knows cx (xu 107 zlt zdg zyn K).S (zl cx):=yu hK λ a q b _ h hb=>by
 obtain ⟨p,h⟩:=zls h;obtain ⟨k,kd,nm,rfl⟩:=zfl h;obtain ⟨⟨g,v,i⟩,s⟩:=q;unfold zdg at hb;split at hb
 ·rename_i g v hg hv;obtain rfl:_=D.sl 1 _:=hg;obtain rfl:_=D.sl 1 _:=hv;obtain ⟨u,hu,hb⟩:=za hb;obtain ⟨c,hc,hb⟩:=za hb;refine zw (zms 3) (N:=0) ?_;show zu cx _ 0 107 [.d (.agg [.map wdK wdV,.sl 1 g,.sl 1 v,i]),.d (.agg [.int .i64 k,.str s,kd,nm,.int .i64 p])] []=_;rw [z3c _ _ _ _ g v,zbt knL 0 (zt4 (zka hu))];show zc (spW s) _=_;rw [hu];show zc (zdh (v,s)) _=_;rw [hc];show (bif decide (0≤c) then _ else _)=_;cases h0:decide (0≤c)
  ·rw [h0,p6] at hb;obtain ⟨d,hd,hb⟩:=za hb;show zc (zmx (g,s)) _=_;rw [hd];cases d
   ·cases hb
   ·cases hb; rfl
  ·rw [h0,p5] at hb;cases hb;rfl
 ·cases hb
theorem kno{K:CK R1}(hK:knows cx K.S (zl cx)):knows cx (wNo zwj K).S (zl cx):=zsb hK λ a q b _ h hb=>by
 obtain ⟨k,kd,nm,rfl⟩:=zfl h;obtain ⟨⟨⟨g,v,i⟩,s⟩,p⟩:=q;unfold zwj at hb;split at hb
 ·rename_i g v hg hv;obtain rfl:_=D.sl 1 _:=hg;obtain rfl:_=D.sl 1 _:=hv;obtain ⟨u,hu,hb⟩:=za hb;obtain ⟨c,hc,hb⟩:=za hb;refine zw (zms 3) (N:=0) ?_;show zu cx _ 0 107 [.d (.agg [.map wdK wdV,.sl 1 g,.sl 1 v,i]),.d (.agg [.int .i64 k,.str s,kd,nm,.int .i64 p])] []=_;rw [z3c _ _ _ _ g v,zbt knL 0 (zt4 (zka hu))];show zc (spW s) _=_;rw [hu];show zc (zdh (v,s)) _=_;rw [hc];show (bif decide (0≤c) then _ else _)=_;cases h0:decide (0≤c)
  ·rw [h0,p6] at hb;obtain ⟨d,hd,hb⟩:=za hb;show zc (zmx (g,s)) _=_;rw [hd];cases d
   ·cases hb; rfl
   ·cases hb
  ·rw [h0,p5] at hb;cases hb
 ·cases hb
def zqd(q:(D×D×D)×List UInt8):Option Unit:=
 match q.1.2.2 with
 | .sl 1 l=>zc (zdh (l,q.2)) λ b=>bif decide (b=0) then some () else none
 | _=>none
theorem z3u{K:CK R1}(hK:knows cx K.S (zl cx)):knows cx (xu 185 zlt zqd mk0 K).S (zl cx):=yu hK λ a q b _ h hb=>by
 obtain ⟨p,h⟩:=zls h;obtain ⟨k,kd,nm,rfl⟩:=zfl h;obtain ⟨⟨g,v,i⟩,s⟩:=q;unfold zqd at hb;split at hb
 ·rename_i l hl;obtain rfl:_=D.sl 1 _:=hl;obtain ⟨c,hc,hb⟩:=za hb;refine zw (z07 (ze2 yy 5)) (N:=5) ?_;show zu cx _ 5 185 [.d (.agg [.map wdK wdV,g,v,.sl 1 l]),.d (.agg [.int .i64 k,.str s,kd,nm,.int .i64 p])] []=_;rw [z4g];show zc (zdh (l,s)) _=_;rw [hc];cases h0:decide (c=0)
  ·rw [h0] at hb; cases hb
  ·have:=pd h0;subst this;rfl
 ·cases hb
def spU(s:List UInt8):Option Unit:=zh (decide (s.length≤big)&&qz s) (some ())
theorem zeg{a:List V}{s}(h:zhy a=some s):a=[.d (.str s)]:=by
 unfold zhy at h; split at h <;> cases h; rfl
theorem z3w{K:CK R1}(hK:knows cx K.S (zl cx)):knows cx (xu 126 zhy spU zt1 K).S (zl cx):=yu hK λ a q b _ h hb=>by
 rw [zeg h];obtain ⟨h1,_⟩:=zd hb;rw [pq] at h1;have:=z2e q (pd h1.1);rw [h1.2] at this;exact this
theorem zdf{K:CK R1}(hK:knows cx K.S (zl cx)):knows cx (wNm spU spW zdg zqd K).S (zl cx):=z3w (k79 (z2z (z3u hK)))
theorem zwu{x:List UInt8}(h:zlc x)(hl:x.length≤1000):qz x=true:=by
 obtain ⟨I,hs,he⟩:=zqz (zo9 h) (by omega)
 obtain ⟨a,J,rfl,he2⟩:=vn he;obtain rfl:=ziy he2;unfold qz xg yk;rw [hs];show (decide ((0:Int)=0)&&(decide ((1:Int)=1)&&decide (x=x)))=true;simp
theorem zz7{x:List UInt8}(h:zlc x)(hl:x.length≤1000):spU x=some ():=by
 unfold spU;rw [zwu h hl,pa (by unfold big; omega)]
 rfl
theorem zz6{x:List UInt8}(h:zq2 x=false):spW x=some ():=by
 unfold spW; rw [h]; rfl
open Classical in
def atQ{α β:Type}(a:α)(b:β)(x:α):Option β:=if x=a then some b else none
theorem zrv{α β:Type}{a:α}{b:β}:atQ a b a=some b:=by unfold atQ; rw [if_pos rfl]
theorem zma{α β:Type}{a x:α}{b c:β}(h:atQ a b x=some c):x=a∧c=b:=by
 unfold atQ at h;split at h
 ·cases h; exact ⟨by assumption,rfl⟩
 ·cases h
theorem m14{s:List UInt8}{g v i:List D}{t:Tr}{r:(D×D×D×D×D×D)×Int×Int}(hs:s.length≤big)(ht:xp 600000 s=some (.ok t))
  (h42:zl cx 42 [.d (trD t),.d (.sl 1 g),.d (.sl 1 v),.d (.sl 1 i)] []=some (.ret (ziq r),[])) :
  zl cx 14 [.d (.str s),.d (.agg [.sl 1 g,.sl 1 v,.sl 1 i])] []=some (.ret (ziq r),[]):=by
 have hk:knows cx (K14 (atQ s (t,0,0)) (atQ (trD t,D.sl 1 g,D.sl 1 v,D.sl 1 i) r)).S (zl cx):=
  yu (yu yy λ a q b _ h hb=>by
   obtain ⟨rfl,rfl⟩:=zma hb;unfold zzx at h;split at h <;> cases h;exact h42) λ a q b _ h hb=>by
   obtain ⟨rfl,rfl⟩:=zma hb;rw [zeg h];exact zw3 600000 q hs _ ht trivial
 refine zw hk (N:=5) ?_;rw [a14,pa (show s.length≤4611686018427387904 from hs),p5,zrv];show zc (atQ (trD t,D.sl 1 g,D.sl 1 v,D.sl 1 i) r (trD t,D.sl 1 g,D.sl 1 v,D.sl 1 i)) _=_;rw [zrv];rfl
def zot:List (List UInt8×Int)→List UInt8→Int
 | [],_=>-1
 | (w,n)::r,s=>bif decide (w=s) then n else zot r s
def zj9:List (List UInt8×Int):=zmv.zip [0,0,0,0,0,0,1,1,1,1,1,2,2,3,3,3,4,5]
theorem zzn(c:Bool)(x y:Int):(bif c then some (Out.ret (V.d (D.int .i64 x)),([]:St)) else some (Out.ret (V.d (D.int .i64 y)),[]))=some (Out.ret (V.d (D.int .i64 (bif c then x else y))),[]):=by cases c <;> rfl
theorem m13(s:List UInt8):zl cx 13 [.d (.str s)] []=some (.ret (mkI (zot zj9 s)),[]):=by
 refine zw yy (N:=30) ?_;rw [a13];simp only [zzn];rfl
theorem zwc{s:List UInt8}:∀ (l:List (List UInt8×Int)),(l.all λ p=>decide (0≤p.2))=true→zot l s<0→((l.map (·.1)).any λ t=>decide (s=t))=false
 | [],_,_=>rfl
 | (w,n)::r,ha,h=>by
  rw [List.all_cons,pq] at ha;have h0:(0:Int)≤n:=pd ha.1;unfold zot at h;by_cases e:w=s
  ·rw [pa e,p5] at h; omega
  ·rw [pb e,p6] at h;rw [List.map_cons,List.any_cons,pb (show ¬ s=w from λ h=>e h.symm),zwc r ha.2 h];rfl
theorem z1s{s:List UInt8}(h:zot zj9 s<0):zq2 s=false:=zwc zj9 (by decide) h
def okN(x:List UInt8):Prop:=zlc x∧x.length≤1000∧zq2 x=false
theorem okN.ln{x:List UInt8}(h:okN x):decide (x.length≤4611686018427387904)=true:=pa (by have:=h.2.1; omega)
theorem okN.uu{x:List UInt8}(h:okN x):spU x=some ():=zz7 h.1 h.2.1
theorem okN.ww{x:List UInt8}(h:okN x):spW x=some ():=zz6 h.2.2
theorem zkk{g v:List D}{i:D}{lv:List (List UInt8)}{s:List UInt8}(n:Nat)(hw:spW s=some ())(hv:strs v=some lv)(hs:zmy lv=true)(hf:xd (λ t=>decide (s=t)) lv 0=some n):zdg ((.sl 1 g,.sl 1 v,i),s)=some (1,(n:Int),[]):=by
 have h1:zdh (v,s)=some (n:Int):=by
  show zc (strs v) _=_;rw [hv,zj,hs];show some (zet (λ t=>decide (s=t)) lv)=_;unfold zet;rw [hf]
 show zc (spW s) _=_;rw [hw,zj,h1,zj,pa (Int.natCast_nonneg n)];rfl
theorem zw7{v:List D}{lv:List (List UInt8)}{s:List UInt8}(hv:strs v=some lv)(hs:zmy lv=true)(hf:xd (λ t=>decide (s=t)) lv 0=none):zdh (v,s)=some (-1):=by
 show zc (strs v) _=_;rw [hv,zj,hs];show some (zet (λ t=>decide (s=t)) lv)=_;unfold zet;rw [hf]
theorem z21{v:List D}{lv:List (List UInt8)}{s:List UInt8}(n:Nat)(hv:strs v=some lv)(hs:zmy lv=true)(hf:xd (λ t=>decide (s=t)) lv 0=some n):zdh (v,s)=some (n:Int):=by
 show zc (strs v) _=_;rw [hv,zj,hs];show some (zet (λ t=>decide (s=t)) lv)=_;unfold zet;rw [hf]
theorem z0c{g v:List D}{i:D}{lv lg:List (List UInt8)}{s:List UInt8}(n:Nat)(hw:spW s=some ())(hv:strs v=some lv)(hs:zmy lv=true)(hf:xd (λ t=>decide (s=t)) lv 0=none)
  (hg:strs g=some lg) (hs':zmy lg=true) (hf':xd (λ t=>decide (s=t)) lg 0=some n):zdg ((.sl 1 g,.sl 1 v,i),s)=some (2,0,s):=by
 show zc (spW s) _=_;rw [hw,zj,zw7 hv hs hf,zj];show zc (zmx (g,s)) _=_;unfold zmx;rw [z21 n hg hs' hf',zj,pa (Int.natCast_nonneg n)];rfl
theorem z1w{g v:List D}{i:D}{lv lg:List (List UInt8)}{s:List UInt8}{a:Int}(hw:spW s=some ())(hv:strs v=some lv)(hs:zmy lv=true)(hf:xd (λ t=>decide (s=t)) lv 0=none)
  (hg:strs g=some lg) (hs':zmy lg=true) (hf':xd (λ t=>decide (s=t)) lg 0=none):zwj (((.sl 1 g,.sl 1 v,i),s),a)=some a:=by
 show zc (spW s) _=_;rw [hw,zj,zw7 hv hs hf,zj];show zc (zmx (g,s)) _=_;unfold zmx;rw [zw7 hg hs' hf'];rfl
structure Ok3 (x y i:List UInt8):Prop where
 ox:okN x
 oy:okN y
 oi:okN i
 xy:x ≠ y
 xi:x ≠ i
 yi:y ≠ i
 xa:x ≠ [97]
 ya:y ≠ [97]
 ia:i ≠ [97]
theorem z4e(pu pw:List UInt8→Option Unit)(pn:(D×D×D)×List UInt8→Option (Int×Int×List UInt8))(pp:(D×D×D)×List UInt8→Option Unit) (x:List UInt8)(a0 a1 a2 a3 a4 a5 a6 z:Int):zu cx (zhx (wNm pu pw pn pp) 30 20) 30 42 [.d (.agg [.int .i64 2,.str [],.sl 5 [D.agg [D.int .i64 2,D.str [],D.sl 5 [D.agg [D.int .i64 1,D.str x,D.sl 5 [],D.sl 1 [],D.int .i64 a6]],D.sl 1 [D.str x],D.int .i64 a3]],.sl 1 [D.str x],.int .i64 a0]),.d (.sl 1 []),.d (.sl 1 []),.d (.sl 1 [])] []=bif decide (x.length≤4611686018427387904) then bif decide (x.length≤4611686018427387904) then zc (pu x) λ r=>bif decide (x.length≤4611686018427387904) then bif decide (x.length≤4611686018427387904) then zc (pu x) λ r=>bif decide (x.length≤4611686018427387904) then zc (pu x) λ r=>zc (pw x) λ r=>zc (pw x) λ r=>zc (pn ((D.sl 1 [],D.sl 1 [D.str x,D.str x],D.sl 1 []),x)) λ r=>some (Out.ret (V.tup [V.d (D.agg [D.int .i64 5,D.int .i64 0,D.str [],D.sl 2 [],D.sl 6 [D.agg [D.int .i64 5,D.int .i64 0,D.str [],D.sl 2 [],D.sl 6 [D.agg [D.int .i64 r.fst,D.int .i64 r.snd.fst,D.str r.snd.2,D.sl 2 [],D.sl 6 [],D.sl 2 []]],D.sl 2 []]],D.sl 2 []]),V.d (D.int .i64 0),V.d (D.int .i64 0)]),[]) else none else none else none else none else none:=by kernel_rfl
theorem z4d(pu pw:List UInt8→Option Unit)(pn:(D×D×D)×List UInt8→Option (Int×Int×List UInt8))(pp:(D×D×D)×List UInt8→Option Unit) (x:List UInt8)(a0 a1 a2 a3 z:Int):zu cx (zhx (wNm pu pw pn pp) 30 20) 30 42 [.d (.agg [.int .i64 2,.str [],.sl 5 [D.agg [D.int .i64 1,D.str x,D.sl 5 [],D.sl 1 [],D.int .i64 a3]],.sl 1 [D.str x],.int .i64 a0]),.d (.sl 1 []),.d (.sl 1 [.str x]),.d (.sl 1 [])] []=zc (pw x) λ r=>bif decide (x.length≤4611686018427387904) then bif decide (x.length≤4611686018427387904) then zc (pu x) λ r=>bif decide (x.length≤4611686018427387904) then zc (pu x) λ r=>zc (pw x) λ r=>zc (pn ((D.sl 1 [],D.sl 1 [D.str x,D.str x],D.sl 1 []),x)) λ r=>some (Out.ret (V.tup [V.d (D.agg [D.int .i64 5,D.int .i64 0,D.str [],D.sl 2 [],D.sl 6 [D.agg [D.int .i64 r.fst,D.int .i64 r.snd.fst,D.str r.snd.2,D.sl 2 [],D.sl 6 [],D.sl 2 []]],D.sl 2 []]),V.d (D.int .i64 0),V.d (D.int .i64 0)]),[]) else none else none else none:=by kernel_rfl
theorem z4c(pu pw:List UInt8→Option Unit)(pn:(D×D×D)×List UInt8→Option (Int×Int×List UInt8))(pp:(D×D×D)×List UInt8→Option Unit) (x:List UInt8)(a0 z:Int):zu cx (zhx (wNm pu pw pn pp) 30 20) 30 42 [.d (.agg [.int .i64 1,.str x,.sl 5 [],.sl 1 [],.int .i64 a0]),.d (.sl 1 [.str x]),.d (.sl 1 [.str [],.str x,.str x]),.d (.sl 1 [])] []=zc (pw x) λ r=>zc (pw []) λ r=>zc (pw x) λ r=>zc (pw x) λ r=>bif decide (x.length≤4611686018427387904) then zc (pu x) λ r=>zc (pn ((D.sl 1 [D.str x],D.sl 1 [D.str [],D.str x,D.str x],D.sl 1 []),x)) λ r=>some (Out.ret (V.tup [V.d (D.agg [D.int .i64 r.fst,D.int .i64 r.snd.fst,D.str r.snd.2,D.sl 2 [],D.sl 6 [],D.sl 2 []]),V.d (D.int .i64 0),V.d (D.int .i64 0)]),[]) else none:=by kernel_rfl
theorem z4b(pu pw:List UInt8→Option Unit)(pn:(D×D×D)×List UInt8→Option (Int×Int×List UInt8))(pp:(D×D×D)×List UInt8→Option Unit) (x:List UInt8)(a0 z:Int):zu cx (zhx (wNm pu pw pn pp) 30 20) 30 42 [.d (.agg [.int .i64 1,.str x,.sl 5 [],.sl 1 [],.int .i64 a0]),.d (.sl 1 [.str x]),.d (.sl 1 []),.d (.sl 1 [.str x])] []=zc (pw x) λ r=>zc (pw x) λ r=>bif decide (x.length≤4611686018427387904) then zc (pu x) λ r=>zc (pn ((D.sl 1 [D.str x],D.sl 1 [],D.sl 1 [D.str x]),x)) λ r=>some (Out.ret (V.tup [V.d (D.agg [D.int .i64 r.fst,D.int .i64 r.snd.fst,D.str r.snd.2,D.sl 2 [],D.sl 6 [],D.sl 2 []]),V.d (D.int .i64 0),V.d (D.int .i64 0)]),[]) else none:=by kernel_rfl
theorem z4a(pu pw:List UInt8→Option Unit)(pn:(D×D×D)×List UInt8→Option (Int×Int×List UInt8))(pp:(D×D×D)×List UInt8→Option Unit)(pm:((D×D×D)×List UInt8)×Int→Option Int)(x:List UInt8)(a0 z:Int):zu cx (zhx (λ K=>wNo pm (wNm pu pw pn pp K)) 30 20) 30 42 [.d (.agg [.int .i64 1,.str x,.sl 5 [],.sl 1 [],.int .i64 a0]),.d (.sl 1 []),.d (.sl 1 []),.d (.sl 1 [.str x])] []=zc (pw x) λ r=>bif decide (x.length≤4611686018427387904) then zc (pu x) λ r=>zc (pm (((D.sl 1 [],D.sl 1 [],D.sl 1 [D.str x]),x),a0)) λ r=>some (Out.ret (V.tup [V.d (D.agg [D.int .i64 0,D.int .i64 0,D.str [],D.sl 2 [],D.sl 6 [],D.sl 2 []]),V.d (D.int .i64 r),V.d (D.int .i64 90)]),[]) else none:=by kernel_rfl
theorem z0o{x:List UInt8}(hx:okN x)(a0 a1 a2 a3 a4 a5 a6:Int):zl cx 42 [.d (.agg [.int .i64 2,.str [],.sl 5 [D.agg [D.int .i64 2,D.str [],D.sl 5 [D.agg [D.int .i64 1,D.str x,D.sl 5 [],D.sl 1 [],D.int .i64 a6]],D.sl 1 [D.str x],D.int .i64 a3]],.sl 1 [D.str x],.int .i64 a0]),.d (.sl 1 []),.d (.sl 1 []),.d (.sl 1 [])] []=some (.ret (ziq ((D.int .i64 5,D.int .i64 0,D.str [],D.sl 2 [],D.sl 6 [D.agg [D.int .i64 5,D.int .i64 0,D.str [],D.sl 2 [],D.sl 6 [D.agg [D.int .i64 1,D.int .i64 0,D.str [],D.sl 2 [],D.sl 6 [],D.sl 2 []]],D.sl 2 []]],D.sl 2 []),0,0)),[]):=by
 have hne : ¬ x=[]:=by obtain ⟨⟨b,t,rfl,_⟩,_⟩:=hx; exact λ h=>nomatch h
 refine zw (qj (N:=30) (λ _ hK=>zdf hK) 20) (N:=30) ?_;refine (z4e spU spW zdg zqd x a0 a1 a2 a3 a4 a5 a6 0).trans ?_;simp only [p5,p6,zj,hx.ln,hx.uu,hx.ww,(show zdg ((D.sl 1 [],D.sl 1 [D.str x,D.str x],D.sl 1 []),x)=_ from zkk 0 hx.ww rfl rfl (by simp [xd,hne]))] <;> rfl
theorem z0n{x:List UInt8}(hx:okN x)(a0 a1 a2 a3:Int):zl cx 42 [.d (.agg [.int .i64 2,.str [],.sl 5 [D.agg [D.int .i64 1,D.str x,D.sl 5 [],D.sl 1 [],D.int .i64 a3]],.sl 1 [D.str x],.int .i64 a0]),.d (.sl 1 []),.d (.sl 1 [.str x]),.d (.sl 1 [])] []=some (.ret (ziq ((D.int .i64 5,D.int .i64 0,D.str [],D.sl 2 [],D.sl 6 [D.agg [D.int .i64 1,D.int .i64 0,D.str [],D.sl 2 [],D.sl 6 [],D.sl 2 []]],D.sl 2 []),0,0)),[]):=by
 have hne : ¬ x=[]:=by obtain ⟨⟨b,t,rfl,_⟩,_⟩:=hx; exact λ h=>nomatch h
 refine zw (qj (N:=30) (λ _ hK=>zdf hK) 20) (N:=30) ?_;refine (z4d spU spW zdg zqd x a0 a1 a2 a3 0).trans ?_;simp only [p5,p6,zj,hx.ww,hx.ln,hx.uu,(show zdg ((D.sl 1 [],D.sl 1 [D.str x,D.str x],D.sl 1 []),x)=_ from zkk 0 hx.ww rfl rfl (by simp [xd,hne]))] <;> rfl
theorem z0m{x:List UInt8}(hx:okN x)(a0:Int):zl cx 42 [.d (.agg [.int .i64 1,.str x,.sl 5 [],.sl 1 [],.int .i64 a0]),.d (.sl 1 [.str x]),.d (.sl 1 [.str [],.str x,.str x]),.d (.sl 1 [])] []=some (.ret (ziq ((D.int .i64 1,D.int .i64 1,D.str [],D.sl 2 [],D.sl 6 [],D.sl 2 []),0,0)),[]):=by
 have hne : ¬ x=[]:=by obtain ⟨⟨b,t,rfl,_⟩,_⟩:=hx; exact λ h=>nomatch h
 refine zw (qj (N:=30) (λ _ hK=>zdf hK) 20) (N:=30) ?_;refine (z4c spU spW zdg zqd x a0 0).trans ?_;simp only [p5,p6,zj,hx.ww,(show spW []=some () from rfl),hx.ln,hx.uu,(show zdg ((D.sl 1 [D.str x],D.sl 1 [D.str [],D.str x,D.str x],D.sl 1 []),x)=_ from zkk 1 hx.ww rfl rfl (by simp [xd,hne]))] <;> rfl
theorem z0l{x:List UInt8}(hx:okN x)(a0:Int):zl cx 42 [.d (.agg [.int .i64 1,.str x,.sl 5 [],.sl 1 [],.int .i64 a0]),.d (.sl 1 [.str x]),.d (.sl 1 []),.d (.sl 1 [.str x])] []=some (.ret (ziq ((D.int .i64 2,D.int .i64 0,D.str x,D.sl 2 [],D.sl 6 [],D.sl 2 []),0,0)),[]):=by
 have hne : ¬ x=[]:=by obtain ⟨⟨b,t,rfl,_⟩,_⟩:=hx; exact λ h=>nomatch h
 refine zw (qj (N:=30) (λ _ hK=>zdf hK) 20) (N:=30) ?_;refine (z4b spU spW zdg zqd x a0 0).trans ?_;simp only [p5,p6,zj,hx.ww,hx.ln,hx.uu,(show zdg ((D.sl 1 [D.str x],D.sl 1 [],D.sl 1 [D.str x]),x)=_ from z0c 0 hx.ww rfl rfl (by simp [xd,hne]) rfl rfl (by simp [xd,hne]))] <;> rfl
theorem z0k{x:List UInt8}(hx:okN x)(a0:Int):zl cx 42 [.d (.agg [.int .i64 1,.str x,.sl 5 [],.sl 1 [],.int .i64 a0]),.d (.sl 1 []),.d (.sl 1 []),.d (.sl 1 [.str x])] []=some (.ret (ziq ((D.int .i64 0,D.int .i64 0,D.str [],D.sl 2 [],D.sl 6 [],D.sl 2 []),a0,90)),[]):=by
 have hne : ¬ x=[]:=by obtain ⟨⟨b,t,rfl,_⟩,_⟩:=hx; exact λ h=>nomatch h
 refine zw (qj (N:=30) (λ _ hK=>kno (zdf hK)) 20) (N:=30) ?_;refine (z4a spU spW zdg zqd zwj x a0 0).trans ?_;simp only [p5,p6,zj,hx.ww,hx.ln,hx.uu,(show zwj (((D.sl 1 [],D.sl 1 [],D.sl 1 [D.str x]),x),a0)=_ from z1w hx.ww rfl rfl (by simp [xd,hne]) rfl rfl (by simp [xd,hne]))] <;> rfl
theorem c81(pn:(D×D×D)×List UInt8→Option (Int×Int×List UInt8))(g v i:D)(s:List UInt8)(a:Int):zu cx (xu 107 zlt pn zyn (CK.plain x7)) 5 81 [.d (.agg [.map wdK wdV,g,v,i]),.d (.agg [.int .i64 1,.str s,.sl 5 [],.sl 1 [],.int .i64 a])] []=zc (pn ((g,v,i),s)) λ r=>some (.ret (zyn r),[]):=by kernel_rfl
theorem z38(x y:List UInt8)(a b c:Int):we cx 40 149 [.d (.agg [.int .i64 6,.str [],.sl 5 [.agg [.int .i64 1,.str x,.sl 5 [],.sl 1 [],.int .i64 a],.agg [.int .i64 1,.str y,.sl 5 [],.sl 1 [],.int .i64 b]],.sl 1 [],.int .i64 c])] []=some (.ret (zzu ((x,a),(y,b),c)),[]):=by kernel_rfl
def six(r:Int×Int×List UInt8):D×D×D×D×D×D:=(.int .i64 r.1,.int .i64 r.2.1,.str r.2.2,.sl 2 [],.sl 6 [],.sl 2 [])
def zz8(q:(D×D×D)×D):Option (D×D×D×D×D×D):=match q.2 with
 | .agg [.int .i64 1,.str s,.sl 5 [],.sl 1 [],.int .i64 _]=>zc (zdg (q.1,s)) λ r=>some (six r)
 | _=>none
theorem zlr{a:List V}{q}(h:zrl a=some q):a=[.d (.agg [.map wdK wdV,q.1.1,q.1.2.1,q.1.2.2]),.d q.2]:=by
 unfold zrl at h;split at h
 ·rename_i ks vs g v i t;cases hw:zk9 ks vs
  ·rw [hw] at h; cases h
  ·rw [hw] at h;cases h;obtain ⟨rfl,rfl⟩:=ziu hw;rfl
 ·cases h
theorem k81{K:CK R1}(hK:knows cx K.S (zl cx)):knows cx (xu 81 zrl zz8 mk6 K).S (zl cx):=yu hK λ a q b _ h hb=>by
 rw [zlr h];obtain ⟨⟨g,v,i⟩,t⟩:=q;unfold zz8 at hb;split at hb
 ·rename_i s p ht;obtain rfl:t=_:=ht;obtain ⟨r,hr,hb⟩:=za hb;cases hb;refine zw (z2z yy) (N:=5) ?_;show zu cx _ 5 81 [.d (.agg [.map wdK wdV,g,v,i]),.d (.agg [.int .i64 1,.str s,.sl 5 [],.sl 1 [],.int .i64 p])] []=_;rw [c81];show zc (zdg ((g,v,i),s)) _=_;rw [hr];rfl
 ·cases hb
theorem zrn{a:List V}{q}(h:zta a=some q):a=[.d (.agg [.int .i64 6,.str [],.sl 5 [nmT q.1,nmT q.2.1],.sl 1 [],.int .i64 q.2.2])]:=by
 unfold zta at h; split at h <;> cases h; rfl
theorem ztm:knows cx (z3f zz8).S (zl cx):=
 yu (k81 (yu (yu (ze2 yy 5) λ _ _ _ _ h=>by cases h) λ _ _ _ _ h=>by cases h)) λ a q b _ h hb=>by
  cases hb;rw [zrn h];exact zk1 (z38 q.1.1 q.2.1.1 q.1.2 q.2.1.2 q.2.2)
def z3d:D×D×D×D×D×D:=(.int .i64 6,.int .i64 0,.str [],.sl 2 [],.sl 6 [vr 1,vr 0],.sl 2 [])
theorem z3s{x y i:List UInt8}(h:Ok3 x y i)(a b c:Int):zl cx 112 [.d (.agg [.map wdK wdV,.sl 1 [.str [97]],.sl 1 [.str y,.str x],.sl 1 []]),.d (.agg [.int .i64 6,.str [],.sl 5 [.agg [.int .i64 1,.str x,.sl 5 [],.sl 1 [],.int .i64 a],.agg [.int .i64 1,.str y,.sl 5 [],.sl 1 [],.int .i64 b]],.sl 1 [],.int .i64 c])] []=some (.ret (mk6 z3d),[]):=by
 refine zw ztm (N:=5) ?_;rw [z4i,zbt zmv 0 h.ox.2.2];show zc (zc (zdg ((.sl 1 [.str [97]],.sl 1 [.str y,.str x],.sl 1 []),x)) λ r=>some (six r)) _=_;rw [show zdg ((.sl 1 [.str [97]],.sl 1 [.str y,.str x],.sl 1 []),x)=_ from zkk 1 h.ox.ww rfl rfl (by simp [xd,h.xy])]
 show zc (zc (zdg ((.sl 1 [.str [97]],.sl 1 [.str y,.str x],.sl 1 []),y)) λ r=>some (six r)) _=_;rw [show zdg ((.sl 1 [.str [97]],.sl 1 [.str y,.str x],.sl 1 []),y)=_ from zkk 0 h.oy.ww rfl rfl (by simp [xd])]
 rfl
theorem hap{x y i:List UInt8}(h:Ok3 x y i)(a4 a5:Int):∀ a q b,cx.dom 112 a=true→zrl a=some q→atQ ((D.sl 1 [D.str [97]],D.sl 1 [D.str y,D.str x],D.sl 1 []),D.agg [D.int .i64 6,D.str [],D.sl 5 [D.agg [D.int .i64 1,D.str x,D.sl 5 [],D.sl 1 [],D.int .i64 a4],D.agg [D.int .i64 1,D.str y,D.sl 5 [],D.sl 1 [],D.int .i64 a5]],D.sl 1 [],D.int .i64 a4]) z3d q=some b→zl cx 112 a []=some (.ret (mk6 b),[]):=λ a q b _ hd hb=>by
 rw [zlr hd];obtain ⟨rfl,rfl⟩:=zma hb;exact z3s h a4 a5 a4
theorem z1u(x:List UInt8)(a0 a1 a2 a3 a4 a5 a6 z:Int):zft 600000 [y4 2 [92] a0,y4 1 x a1,y4 2 [46] a2,y4 2 [92] a3,y4 1 x a4,y4 2 [46] a5,y4 1 x a6,y4 0 [] z,y4 0 [] z,y4 0 [] z]=some (TR.ok { k:=2,nm:=[],kids:=[D.agg [D.int .i64 2,D.str [],D.sl 5 [D.agg [D.int .i64 1,D.str x,D.sl 5 [],D.sl 1 [],D.int .i64 a6]],D.sl 1 [D.str x],D.int .i64 a3]],nms:=[D.str x],pl:=a0 }):=by kernel_rfl
theorem z1t(x:List UInt8)(a0 a1 a2 a3 z:Int):zft 600000 [y4 2 [92] a0,y4 1 x a1,y4 2 [46] a2,y4 1 x a3,y4 0 [] z,y4 0 [] z,y4 0 [] z]=some (TR.ok { k:=2,nm:=[],kids:=[D.agg [D.int .i64 1,D.str x,D.sl 5 [],D.sl 1 [],D.int .i64 a3]],nms:=[D.str x],pl:=a0 }):=by kernel_rfl
theorem zwp(x:List UInt8)(a0 z:Int):zft 600000 [y4 1 x a0,y4 0 [] z,y4 0 [] z,y4 0 [] z]=some (TR.ok { k:=1,nm:=x,kids:=[],nms:=[],pl:=a0 }):=by kernel_rfl
theorem z3q{x:List UInt8}(hx:okN x):zl cx 14 [.d (.str ([92]++x++[46,32,92]++x++[46,32]++x)),.d (.agg [.sl 1 [],.sl 1 [],.sl 1 []])] []=some (.ret (ziq ((D.int .i64 5,D.int .i64 0,D.str [],D.sl 2 [],D.sl 6 [D.agg [D.int .i64 5,D.int .i64 0,D.str [],D.sl 2 [],D.sl 6 [D.agg [D.int .i64 1,D.int .i64 0,D.str [],D.sl 2 [],D.sl 6 [],D.sl 2 []]],D.sl 2 []]],D.sl 2 []),0,0)),[]):=by
 rw [show [92]++x++[46,32,92]++x++[46,32]++x=(92::(x++(46::(32::(92::(x++(46::(32::x)))))))) by simp]
 have lx:=hx.2.1;have hl:((92::(x++(46::(32::(92::(x++(46::(32::x))))))))).length≤65536:=by simp only [ph,p7,p8]; omega
 obtain ⟨I,he0,ht⟩:=ze5 (z13 hx.1) hl;obtain ⟨a0,I0,rfl,he1⟩:=vn he0;obtain ⟨a1,I1,rfl,he2⟩:=vn he1;obtain ⟨a2,I2,rfl,he3⟩:=vn he2;obtain ⟨a3,I3,rfl,he4⟩:=vn he3;obtain ⟨a4,I4,rfl,he5⟩:=vn he4;obtain ⟨a5,I5,rfl,he6⟩:=vn he5;obtain ⟨a6,I6,rfl,he7⟩:=vn he6;obtain rfl:=ziy he7;exact m14 (by unfold big; omega) ((ht 600000).trans (z1u x a0 a1 a2 a3 a4 a5 a6 _)) (z0o hx a0 a1 a2 a3 a4 a5 a6)
theorem z3p{x:List UInt8}(hx:okN x):zl cx 14 [.d (.str ([92]++x++[46,32]++x)),.d (.agg [.sl 1 [],.sl 1 [.str x],.sl 1 []])] []=some (.ret (ziq ((D.int .i64 5,D.int .i64 0,D.str [],D.sl 2 [],D.sl 6 [D.agg [D.int .i64 1,D.int .i64 0,D.str [],D.sl 2 [],D.sl 6 [],D.sl 2 []]],D.sl 2 []),0,0)),[]):=by
 rw [show [92]++x++[46,32]++x=(92::(x++(46::(32::x)))) by simp]
 have lx:=hx.2.1;have hl:((92::(x++(46::(32::x))))).length≤65536:=by simp only [ph,p7,p8]; omega
 obtain ⟨I,he0,ht⟩:=ze5 (z12 hx.1) hl;obtain ⟨a0,I0,rfl,he1⟩:=vn he0;obtain ⟨a1,I1,rfl,he2⟩:=vn he1;obtain ⟨a2,I2,rfl,he3⟩:=vn he2;obtain ⟨a3,I3,rfl,he4⟩:=vn he3;obtain rfl:=ziy he4;exact m14 (by unfold big; omega) ((ht 600000).trans (z1t x a0 a1 a2 a3 _)) (z0n hx a0 a1 a2 a3)
theorem z3o{x:List UInt8}(hx:okN x):zl cx 14 [.d (.str (x)),.d (.agg [.sl 1 [.str x],.sl 1 [.str [],.str x,.str x],.sl 1 []])] []=some (.ret (ziq ((D.int .i64 1,D.int .i64 1,D.str [],D.sl 2 [],D.sl 6 [],D.sl 2 []),0,0)),[]):=by
 have lx:=hx.2.1;have hl:x.length≤65536:=by omega
 obtain ⟨I,he0,ht⟩:=ze5 (zwx hx.1) hl;obtain ⟨a0,I0,rfl,he1⟩:=vn he0;obtain rfl:=ziy he1;exact m14 (by unfold big; omega) ((ht 600000).trans (zwp x a0 _)) (z0m hx a0)
theorem z3n{x:List UInt8}(hx:okN x):zl cx 14 [.d (.str (x)),.d (.agg [.sl 1 [.str x],.sl 1 [],.sl 1 [.str x]])] []=some (.ret (ziq ((D.int .i64 2,D.int .i64 0,D.str x,D.sl 2 [],D.sl 6 [],D.sl 2 []),0,0)),[]):=by
 have lx:=hx.2.1;have hl:x.length≤65536:=by omega
 obtain ⟨I,he0,ht⟩:=ze5 (zwx hx.1) hl;obtain ⟨a0,I0,rfl,he1⟩:=vn he0;obtain rfl:=ziy he1;exact m14 (by unfold big; omega) ((ht 600000).trans (zwp x a0 _)) (z0l hx a0)
theorem z3m{x:List UInt8}(hx:okN x):∃ a0:Int,zl cx 14 [.d (.str (x)),.d (.agg [.sl 1 [],.sl 1 [],.sl 1 [.str x]])] []=some (.ret (ziq ((D.int .i64 0,D.int .i64 0,D.str [],D.sl 2 [],D.sl 6 [],D.sl 2 []),a0,90)),[]):=by
 have lx:=hx.2.1;have hl:x.length≤65536:=by omega
 obtain ⟨I,he0,ht⟩:=ze5 (zwx hx.1) hl;obtain ⟨a0,I0,rfl,he1⟩:=vn he0;obtain rfl:=ziy he1;exact ⟨a0,m14 (by unfold big; omega) ((ht 600000).trans (zwp x a0 _)) (z0k hx a0)⟩
def zr7(s:List UInt8):Option (Tr×Int×Int):=match xp 600000 s with
 | some (.ok t)=>some (t,0,0)
 | some (.bad a e)=>bif decide (e=0) then none else some (⟨0,[],[],[],0⟩,a,e)
 | none=>none
theorem z1r(s:List UInt8):∃ r,zr7 s=some r∧(r.2.2=0→xp 600000 s=some (.ok r.1)):=by
 rcases ztr s with ⟨I,hT⟩ | ⟨hE,_⟩
 ·rcases zts hT (Nat.le_refl 600000) with ⟨t,n,h1,_⟩ | ⟨a,e,h1,_,_,he⟩
  ·exact ⟨(t,0,0),by unfold zr7; rw [h1],λ _=>h1⟩
  ·have h0:e ≠ 0:=by omega
   exact ⟨(⟨0,[],[],[],0⟩,a,e),by unfold zr7; rw [h1]; show (bif decide (e=0) then none else _)=_; rw [pb h0]; rfl,λ h=>absurd h h0⟩
 ·have h1:xp 600000 s=some (.bad (qb s) (xg s)):=by
   unfold xp;rw [pb hE,p6]
  exact ⟨(⟨0,[],[],[],0⟩,qb s,xg s),by unfold zr7; rw [h1]; show (bif decide (xg s=0) then none else _)=_; rw [pb hE]; rfl,λ h=>absurd h hE⟩
theorem k11{K:CK R1}(hK:knows cx K.S (zl cx)):knows cx (xu 11 zs6 some zt1 K).S (zl cx):=yu hK λ a q b _ h hb=>by
 rw [zlq h];exact m11
theorem k12{K:CK R1}(hK:knows cx K.S (zl cx)):knows cx (xu 12 zhy zr7 z0j K).S (zl cx):=yu hK λ a q b hd h hb=>by
 obtain rfl:=zeg h;unfold zr7 at hb;split at hb
 ·rename_i t ht;cases hb;exact zw3 600000 q (pd hd) _ ht trivial
 ·rename_i p e ht;cases h0:decide (e=0) <;> rw [h0] at hb <;> cases hb;exact zw3 600000 q (pd hd) _ ht (of_decide_eq_false h0)
 ·cases hb
def zz9(s:List UInt8):Option Int:=some (zot zj9 s)
theorem k13{K:CK R1}(hK:knows cx K.S (zl cx)):knows cx (xu 13 zhy zz9 mkI K).S (zl cx):=yu hK λ a q b _ h hb=>by
 rw [zeg h];cases hb;exact m13 q
theorem zs9{a:List V}{q}(h:zxp a=some q):a=[.d (.str q.1),.d q.2]:=by
 unfold zxp at h; split at h <;> cases h; rfl
theorem z1z{x:List UInt8}{r:Tr×Int×Int}(hl:x.length≤1000)(ht:r.2.2=0→xp 600000 x=some (.ok r.1))(e0:r.2.2=0)(ek:r.1.k=1)(en:r.1.nm=x)(et : ¬ 0≤zot zj9 x):okN x:=
 ⟨zyl (ht e0) ek en,hl,z1s (by omega)⟩
theorem zyw{x:List UInt8}(h:x.length≤1000):decide ((1000:Int)<Int.ofNat x.length)=false:=pb (by
 show ¬ (1000:Int)<(x.length:Int);omega)
theorem zyy{x:List UInt8}(h : ¬ x.length≤1000):decide ((1000:Int)<Int.ofNat x.length)=true:=pa (by
 show (1000:Int)<(x.length:Int);omega)
theorem z14{x:List UInt8}(h:x.length≤1000):decide (x.length≤4611686018427387904)=true:=pa (by omega)
theorem a4(p12:List UInt8→Option (Tr×Int×Int))(p13:List UInt8→Option Int)(p14:List UInt8×D→Option Int)(x:List UInt8):zu cx (KL4 p12 p13 p14) 5 4 [.d (.str x)] []=bif decide (1000<Int.ofNat x.length) then some (Out.ret (V.d (D.bool true)),[]) else bif decide (x.length≤4611686018427387904) then zc (p12 x) λ r=>bif !decide (r.snd.snd=0) then some (Out.ret (V.d (D.bool true)),[]) else bif !decide (r.fst.k=1) then some (Out.ret (V.d (D.bool true)),[]) else bif !decide (r.fst.2=x) then some (Out.ret (V.d (D.bool true)),[]) else bif decide (x.length≤4611686018427387904) then zc (p13 x) λ r=>bif decide (0≤r) then some (Out.ret (V.d (D.bool true)),[]) else bif decide (1+x.length≤4611686018427387904) then bif decide (([92]++x).length+3≤4611686018427387904) then bif decide (([92]++x++[46,32,92]).length+x.length≤4611686018427387904) then bif decide (([92]++x++[46,32,92]++x).length+2≤4611686018427387904) then bif decide (([92]++x++[46,32,92]++x++[46,32]).length+x.length≤4611686018427387904) then zc (p14 ([92]++x++[46,32,92]++x++[46,32]++x,D.agg [D.sl 1 [],D.sl 1 [],D.sl 1 []])) λ r=>bif decide (1+x.length≤4611686018427387904) then bif decide (([92]++x).length+2≤4611686018427387904) then bif decide (([92]++x++[46,32]).length+x.length≤4611686018427387904) then zc (p14 ([92]++x++[46,32]++x,D.agg [D.sl 1 [],D.sl 1 [D.str x],D.sl 1 []])) λ r=>zc (p14 (x,D.agg [D.sl 1 [D.str x],D.sl 1 [D.str [],D.str x,D.str x],D.sl 1 []])) λ r=>zc (p14 (x,D.agg [D.sl 1 [D.str x],D.sl 1 [],D.sl 1 [D.str x]])) λ r=>zc (p14 (x,D.agg [D.sl 1 [],D.sl 1 [],D.sl 1 [D.str x]])) λ r=>bif decide (x=x) then some (Out.ret (V.d (D.bool true)),[]) else some (Out.ret (V.d (D.bool false)),[]) else none else none else none else none else none else none else none else none else none else none:=by kernel_rfl
open Classical in
def z1b(q:List UInt8×D):Option Int:=if h:∃ a,zl cx 14 [.d (.str q.1),.d q.2] []=some (.ret (zx0 q a),[]) then some h.choose else none
theorem zhr{q:List UInt8×D}{a:Int}(h:zl cx 14 [.d (.str q.1),.d q.2] []=some (.ret (zx0 q a),[])):∃ b,z1b q=some b:=⟨_,dif_pos ⟨a,h⟩⟩
theorem zv2:knows cx (KL4 zr7 zz9 z1b).S (zl cx):=k11 (k12 (k13 (zqk yy λ a q b _ h hb=>by
 rw [zs9 h];unfold z1b at hb;split at hb
 ·rename_i hh;cases hb;exact hh.choose_spec
 ·cases hb)))
theorem m4(x:List UInt8):zl cx 4 [.d (.str x)] []=some (.ret (z0i true),[]):=by
 refine zw zv2 (N:=5) ?_;rw [a4];by_cases hl:x.length≤1000
 ·obtain ⟨r,hr,ht⟩:=z1r x;rw [zyw hl,p6,z14 hl,p5,hr,zj];by_cases e0:r.2.2=0
  ·rw [pa e0,Bool.not_true,p6];by_cases ek:r.1.k=1
   ·rw [pa ek,Bool.not_true,p6];by_cases en:r.1.nm=x
    ·rw [pa en,Bool.not_true,p6];rw [p5,show zz9 x=some (zot zj9 x) from rfl,zj];by_cases et:0≤zot zj9 x
     ·rw [pa et]; rfl
     ·have hx:okN x:=z1z hl ht e0 ek en et;rw [pb et,p6];have L0:decide (1+x.length≤4611686018427387904)=true:=pa (by (try simp only [ph,p7,p8]); omega)
      have L1:decide (([92]++x).length+3≤4611686018427387904)=true:=pa (by (try simp only [ph,p7,p8]); omega)
      have L2:decide (([92]++x++[46,32,92]).length+x.length≤4611686018427387904)=true:=pa (by (try simp only [ph,p7,p8]); omega)
      have L3:decide (([92]++x++[46,32,92]++x).length+2≤4611686018427387904)=true:=pa (by (try simp only [ph,p7,p8]); omega)
      have L4:decide (([92]++x++[46,32,92]++x++[46,32]).length+x.length≤4611686018427387904)=true:=pa (by (try simp only [ph,p7,p8]); omega)
      have L5:decide (([92]++x).length+2≤4611686018427387904)=true:=pa (by (try simp only [ph,p7,p8]); omega)
      have L6:decide (([92]++x++[46,32]).length+x.length≤4611686018427387904)=true:=pa (by (try simp only [ph,p7,p8]); omega)
      obtain ⟨b0,h0⟩:=zhr (q:=([92]++x++[46,32,92]++x++[46,32]++x,D.agg [D.sl 1 [],D.sl 1 [],D.sl 1 []])) (a:=0) (z3q hx);obtain ⟨b1,h1⟩:=zhr (q:=([92]++x++[46,32]++x,D.agg [D.sl 1 [],D.sl 1 [D.str x],D.sl 1 []])) (a:=0) (z3p hx);obtain ⟨b2,h2⟩:=zhr (q:=(x,D.agg [D.sl 1 [D.str x],D.sl 1 [D.str [],D.str x,D.str x],D.sl 1 []])) (a:=0) (z3o hx);obtain ⟨b3,h3⟩:=zhr (q:=(x,D.agg [D.sl 1 [D.str x],D.sl 1 [],D.sl 1 [D.str x]])) (a:=0) (z3n hx);obtain ⟨a0,ha⟩:=z3m hx;obtain ⟨b4,h4⟩:=zhr (q:=(x,D.agg [D.sl 1 [],D.sl 1 [],D.sl 1 [D.str x]])) (a:=a0) ha;simp only [L0,L1,L2,L3,L4,L5,L6,h0,h1,h2,h3,h4,p5,zj,decide_true] <;> rfl
    ·rw [pb en]; rfl
   ·rw [pb ek]; rfl
  ·rw [pb e0]; rfl
 ·rw [zyy hl]; rfl
theorem pure_scopeInner(x:List UInt8):zl cx 4 [.d (.str x)] []=some (.ret (.d (.bool true)),[]):=m4 x
open Go.Proofs.YtmolcgfhgdhgoaaGreatDoor in
theorem glob_says:zq6 cx.P cx.glob Rows.sliceUsesRow.laid:=by
 intro g x h
 match g,h with
 | 0, h => cases h; exact ⟨"hypercube/lex.signs", Rows.laid_hypercube_lex_signs, by simp [Rows.sliceUsesRow], by kernel_rfl, by kernel_rfl⟩
 | 1, h => cases h; exact ⟨"unicode/utf8.first", Rows.laid_unicode_utf8_first, by simp [Rows.sliceUsesRow], by kernel_rfl, by kernel_rfl⟩
 | 2, h => cases h; exact ⟨"unicode/utf8.acceptRanges", Rows.laid_unicode_utf8_acceptRanges, by simp [Rows.sliceUsesRow], by kernel_rfl, by kernel_rfl⟩
 | 3,h=>cases h
 | 4, h => cases h; exact ⟨"math/bits.deBruijn32tab", Rows.laid_math_bits_deBruijn32tab, by simp [Rows.sliceUsesRow], by kernel_rfl, by kernel_rfl⟩
 | n+5,h=>cases h
theorem no_routines:yx cx.P:=by
 have h : (cx.P.funcs.all λ fn => fn.name != "runtime.NumGoroutine") = true := by kernel_rfl
 intro f fn hf;have:=Array.all_eq_true_iff_forall_mem.1 h fn (Array.mem_of_getElem? hf);simpa using this
theorem mixed:cx.P.follows .mixedOrders=true:=by kernel_rfl
def lits:D→Value
 | .int k n=>.int k n
 | .str s=>.string (y5 s)
 | _=>undef
def laidWorld(os:Os):World:=
 { World.holding Tryz.prog os ⟨#[],#[],[]⟩ with heap:=(((((World.holding Tryz.prog os ⟨#[],#[],[]⟩).heap.modify 0 fun
   | .cells _ t frozen=>.cells (x9.cells.map lits).toArray t frozen
   | o=>o).modify 1 fun
   | .cells _ t frozen=>.cells ((unW Go.Pinned.utf8First).map lits).toArray t frozen
   | o=>o).modify 2 fun
   | .cells _ t frozen=>.cells (acc.cells.map lits).toArray t frozen
   | o=>o).modify 4 fun
   | .cells _ t frozen=>.cells ((unW (Go.Proofs.YtmolcgfhgdhgoaaGreatDoor.Rows.laid_math_bits_deBruijn32tab (H:=Unit))).map lits).toArray t frozen
   | o=>o) }
theorem str_rd{w:World}{own:Own}(s:ByteArray):RD w own (.string s) (.str s.data.toList):=by
 have h:=RD.str (w:=w) (own:=own) s.data.toList;have e:y5 s.data.toList=s:=by simp [y5]
 rwa [e] at h
theorem hgrow:∀ g e,cx.grow g=some e→g=165∧e=9:=λ g e h=>by
 have h:grow g=some e:=h;unfold grow at h;cases hg:Nat.beq g 165 <;> rw [hg] at h
 ·cases h
 ·cases h;exact ⟨po hg,rfl⟩
end Go.Vai
end

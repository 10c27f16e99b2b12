/-
  Show: the library's functions that are taken as one step: strings.Builder's String, and strings.Join: they do what is said of them. To: Slice: the document's names of a tree are the same.
-/
import Derived.Test.YtmolcgfhgdhgoaaGreatDoorSliPart4
set_option linter.all false
section
set_option linter.unusedVariables false
namespace Go.Proofs
open Go.Shelf Go.RowKit
variable {P:Program} {ρ:Ren}
set_option maxHeartbeats 2000000 in
set_option maxRecDepth 100000 in
theorem Any.String_core(L:Lays.n169 P ρ)(X:Builder.Extra P ρ)(b:Nat)(w w2:World)(ao p:Option Addr)(n cap:Nat)(s:ByteArray)
  (c1:w.drew.cell? ⟨b,1,none⟩=some (.slice ao n cap))
  (hSD:(Builtin.unsafeSliceData_ #[(ρ.t 37)] (ρ.t 127) #[.slice ao n cap]).run P w.drew=.ok (.pointer p) w.drew)
  (hUS:(Builtin.unsafeString_ #[(ρ.t 127),(ρ.t 3)] (ρ.t 9) #[.pointer p,.int .i64 n]).run P w.drew=.ok (.string s) w2) :
  Calls P (ρ.f 169) #[.pointer (some ⟨b,0,none⟩)] w λ e w'=>e=.returned (.string s)∧w'=w2:=by
 have mixed:=L.mixed;have t72:=L.t72; have a72:=L.a72; have z72:=L.z72; have v72:=L.v72; have u72:=run_underlying L.t72;have t70:=L.t70; have a70:=L.a70; have z70:=L.z70; have v70:=L.v70; have u70:=run_underlying L.t70;have t37:=L.t37; have a37:=L.a37; have z37:=L.z37; have v37:=L.v37; have u37:=run_underlying L.t37;have t127:=L.t127; have a127:=L.a127; have z127:=L.z127; have v127:=L.v127; have u127:=run_underlying L.t127;have t3:=L.t3; have a3:=L.a3; have z3:=L.z3; have v3:=L.v3; have u3:=run_underlying L.t3;have t9:=L.t9; have a9:=L.a9; have z9:=L.z9; have v9:=L.v9; have u9:=run_underlying L.t9;have t5:=X.t5; have a5:=X.a5; have z5:=X.z5; have v5:=X.v5; have u5:=run_underlying X.t5
 go_enter L.f169,Body.n169_ntmps ρ
 go_wp2
 go_region_o
 all_goals (go_wp2; go_ret; exact ⟨rfl,rfl⟩)
theorem Tryz.String_core(b:Nat)(w w2:World)(ao p:Option Addr)(n cap:Nat)(s:ByteArray)
  (c1:w.drew.cell? ⟨b,1,none⟩=some (.slice ao n cap))
  (hSD:(Builtin.unsafeSliceData_ #[174] 232 #[.slice ao n cap]).run Tryz.prog w.drew=.ok (.pointer p) w.drew)
  (hUS:(Builtin.unsafeString_ #[232,3] 9 #[.pointer p,.int .i64 n]).run Tryz.prog w.drew=.ok (.string s) w2) :
  Calls Tryz.prog 164 #[.pointer (some ⟨b,0,none⟩)] w λ e w'=>e=.returned (.string s)∧w'=w2:=
 Any.String_core Tryz.lays169 Tryz.Builder_Extra_169 b w w2 ao p n cap s c1 hSD hUS
end Go.Proofs
namespace Go.Vai
open Go.Proofs Go.Sort
section
variable {cx:Cx} {w w':World} {σ:St} {μ:Mu}
theorem zyj{w w':World}(h:RowKit.Below w.heap.size w w'){b i:Nat}{x:Value}(hc:w.cell? ⟨b,i,none⟩=some x):w'.cell? ⟨b,i,none⟩=some x:=by
 have:=h.block b (lt_of_cell hc);unfold World.cell? at hc ⊢;simp only at hc ⊢;rw [this];exact hc
theorem zic(hi:Inv cx w σ μ)(h:RowKit.Below w.heap.size w w'):After cx w σ μ w' σ μ:=by
 have hu:Upd cx w σ μ w' σ μ []:=⟨h.os,h.output,h.size,λ b hb _=>h.block b hb,λ b i x _ hc=>zyj h hc,rfl,λ _ _=>⟨rfl,rfl⟩,λ _ h=>by simp at h,λ _ h=>by simp at h,λ _ h=>by simp at h⟩
 exact hu.after hi (λ _ h=>by simp at h)
theorem zm6(w:World)(g n:Nat):∀ b,b ≠ g→(w.freeze ⟨g,0,none⟩ n).heap[b]?=w.heap[b]?:=λ b hb=>by
 unfold World.freeze;split
 ·rfl
 ·simp [Array.getElem?_modify,Ne.symm hb]
theorem zvs(w:World)(g n:Nat)(b k:Nat):(w.freeze ⟨g,0,none⟩ n).cell? ⟨b,k,none⟩=w.cell? ⟨b,k,none⟩:=by
 by_cases hbg:b=g
 ·subst hbg;unfold World.freeze;split
  ·rfl
  ·unfold World.cell?;simp only [Array.getElem?_modify,if_true];cases h:w.heap[b]? with
   | none=>rfl
   | some o=>cases o <;> rfl
 ·unfold World.cell?;simp only;rw [zm6 w g n b hbg]
theorem z4j{id k:Nat}(ho:zi σ id=some (.tok k))(hos:w'.os=w.os)(hout:w'.output=w.output)(hsize:w.heap.size≤w'.heap.size)
  (hblk:∀ b,b<w.heap.size→(μ id).blk ≠ some b→w'.heap[b]?=w.heap[b]?) (hcell:∀ b i x,w.cell? ⟨b,i,none⟩=some x→w'.cell? ⟨b,i,none⟩=some x) :
  Upd cx w σ μ w' (qn σ id (.tok (k+1))) (setMu μ id ⟨none,0,0,0⟩) [id] where
 os:=hos
 output:=hout
 size:=hsize
 blk:=λ b hb h=>hblk b hb λ e=>h id (by simp) _ ho (μ id).f ⟨e,Nat.le_refl _⟩
 cell:=λ b i x _ h=>hcell b i x h
 fr:=rfl
 same:=λ j hj=>by
  have:id ≠ j:=λ e=>hj (by simp [e])
  exact ⟨by simp [zq,this],by simp [setMu,Ne.symm this]⟩
 own:=λ j hj q hq b i hown _=>by
  simp at hj; subst hj;simp only [zq,if_true] at hq;cases hq;have:=hown.1;simp [setMu] at this
 still:=λ j hj q hq=>by
  simp at hj; subst hj;rw [ho] at hq; cases hq;simp only [zq,if_true];exact ⟨by omega,λ h=>by omega⟩
 apart:=λ j hj j' hj' _ _ _ _ _ _ _ _ _=>by simp at hj hj'; rw [hj,hj']
theorem zxz{id k:Nat}(hi:Inv cx w σ μ)(ho:zi σ id=some (.tok k))(hos:w'.os=w.os)(hout:w'.output=w.output)(hsize:w.heap.size≤w'.heap.size)
  (hblk:∀ b,b<w.heap.size→(μ id).blk ≠ some b→w'.heap[b]?=w.heap[b]?) (hcell:∀ b i x,w.cell? ⟨b,i,none⟩=some x→w'.cell? ⟨b,i,none⟩=some x) :
  After cx w σ μ w' (qn σ id (.tok (k+1))) (setMu μ id ⟨none,0,0,0⟩):=
 (z4j ho hos hout hsize hblk hcell).after hi λ j hj o' ho'=>by
  simp at hj; subst hj;simp only [zq,if_true] at ho';cases ho';intro b hb;simp [setMu] at hb
theorem zmo:szN 6291457=1:=by decide
theorem z1l{id k:Nat}(hc:Canon σ)(ho:zi σ id=some (.tok k)):∀ j o,zi (qn σ id (.tok (k+1))) j=some o→j<σ.length∧∀ i∈o.ids,i<σ.length:=by
 intro j o hj;rw [zq] at hj;by_cases h:id=j
 ·subst h;rw [if_pos rfl] at hj;cases hj;exact ⟨(hc id _ ho).1,by simp [Ob.ids]⟩
 ·rw [if_neg h] at hj;exact hc j o hj
theorem z0t(hP : cx.P = Tryz.prog){args : List V}{out : Out}{σ' : St}(h : zlz args σ = some (out, σ')){vs : List Value}(hi : Inv cx w σ μ)(hcan : Canon σ)(hv : RVs w σ μ vs args) :
    ∃ u, out = .ret u ∧ (∀ k o, zi σ' k = some o → k < σ.length ∧ ∀ i ∈ o.ids, i < σ.length) ∧ (∀ i ∈ u.ids, i < σ.length) ∧
    Calls cx.P 164 vs.toArray w λ e w' => ∃ μ' x, e = .returned x ∧ After cx w σ μ w' σ' μ' ∧ RV w' σ' μ' x u := by
  unfold zlz at h;obtain ⟨i, hargs, h1⟩ := zd h;clear h;obtain rfl := z0k hargs;obtain ⟨⟨sz, l, id⟩, hq, h2⟩ := zd h1;clear h1;obtain ⟨n, p, r, ho⟩ := zwz hq;obtain ⟨k, hk, h3⟩ := zd h2;clear h2;have ht := zwu hk;obtain ⟨hc, h4⟩ := ze h3;clear h3;obtain ⟨s, hs, h⟩ := zd h4;clear h4;cases h;clear hk hq hargs;simp only at hs hc ht ho;simp only [ph, decide_eq_true_eq] at hc;obtain ⟨⟨hsz, hk⟩, hlen⟩ := hc;have hsz := pg hsz;subst hsz;subst hk;have hl := zpw l s hs;refine ⟨_, rfl, z1l hcan ht, by simp [V.ids], ?_⟩
  -- the argument
  obtain ⟨v, rfl⟩ : ∃ v, vs = [v] := List.length_eq_one_iff.1 (by simpa using hv.1)
  have hv0 := hv.2 0 v _ rfl rfl;cases hv0 with | ptr _ _ b _ hb => ?_
  obtain ⟨b', cs, el, hb', hh, _, _, _, hrs, _⟩ := hi.ob i _ ho;obtain rfl : b = b' := by rw [hb] at hb'; exact Option.some.inj hb'
  obtain ⟨v1, hv1⟩ : ∃ v1, cs.toList[1]? = some v1 := y0 (by rw [hrs.1]; simp [V.cells])
  have hr1 := hrs.2 1 v1 (.sl 6291457 l id) hv1 rfl;cases hr1 with | sl _ _ _ _ n' hrd ht' hn' htail => ?_
  rw [ht] at ht'; cases ht';have htail := htail rfl;rw [zmo] at hrd;obtain ⟨base, cap, rfl⟩ := hrd.slice_inv;have c1 : w.drew.cell? ⟨b, 1, none⟩ = some (.slice base l.length cap) := by
    show w.cell? ⟨b, 1, none⟩ = _;rw [cell_of_heap hh];simpa using hv1
  rw [hP]
  have fin : ∀ w', w'.os = w.os → w'.output = w.output → w.heap.size ≤ w'.heap.size → (∀ b, b < w.heap.size → (μ id).blk ≠ some b → w'.heap[b]? = w.heap[b]?) →
      (∀ b i x, w.cell? ⟨b, i, none⟩ = some x → w'.cell? ⟨b, i, none⟩ = some x) →
      ∃ μ' x, Ending.returned (.string ⟨s.toArray⟩) = .returned x ∧ After cx w σ μ w' (qn σ id (.tok (l.length + 1))) μ' ∧ RV w' (qn σ id (.tok (l.length + 1))) μ' x (.d (.str s)) :=
    λ w' h1 h2 h3 h4 h5 => ⟨_, _, rfl, zxz hi ht h1 h2 h3 h4 h5, .d _ _ (.str s)⟩
  by_cases he : l = []
  · subst he;have hs0 : s = [] := by cases s with | nil => rfl | cons a b => simp at hl
    subst hs0;rcases htail with ⟨h1, _, _, h2⟩ | ⟨b2, o, _, _, _, _, _, h2⟩
    · subst h1
      obtain rfl : base = none := by rcases h2 with h2 | h2; · exact absurd h2 (by decide)
                                     · exact h2
      refine (Tryz.String_core b w w.drew none none 0 0 .empty c1 rfl (Lib.run_unsafeString_none w.drew 232 3 9 none)).mono ?_;rintro e w' ⟨rfl, rfl⟩;exact fin _ rfl rfl (Nat.le_refl _) (λ _ _ _ => rfl) (λ _ _ _ h => h)
    · rcases h2 with h2 | h2
      · exact absurd h2 (by decide)
      · exact absurd h2.2.2 (by simp)
  · have hpos : 0 < l.length := List.length_pos_iff.2 he;rcases htail with ⟨_, h1, _⟩ | ⟨g, o, hbase, hg, hf, hend, hnc, h2⟩
    · omega
    rcases h2 with h2 | ⟨hel, ho0, _⟩
    · exact absurd h2 (by decide)
    subst hbase;subst ho0;obtain ⟨cs', el', fr', hh', hel', hcs', _⟩ := hi.ob id _ ht g hg;have h6 : (6291457 : Nat) / 1048576 = 6 := by decide
    have hel5 : el' = 5 := by rw [hel']; rw [h6] at hel; exact (Nat.succ.inj hel).symm
    rw [zmo] at hend;subst hel5;have hsl : s.length = l.length := by rw [hl]; simp
    have hs0 : s ≠ [] := λ e => by rw [e] at hsl; simp at hsl; omega
    have hcell : ∀ j x, s[j]? = some x → w.drew.cell? ((⟨g, 0, none⟩ : Addr).add j) = some (.int .u8 x.toNat) := by
      intro j x hx;have hj := (pj.1 hx).1;generalize hnl : l.length = nl at hrd;cases hrd with
      | sl0 => exact absurd rfl he
      | sl _ _ _ _ _ _ xs hn hcap hszs hcells hels =>
        have hlx : l[j]? = some (zne x) := by rw [hl, List.getElem?_map, hx]; rfl
        have h1 := hcells j (by omega)
        have h2 := hels j 0 (zne x) (zne x) hlx rfl;simp only [Nat.mul_one, Nat.add_zero] at h2;rw [show (⟨g, 0, none⟩ : Addr).add j = ⟨g, 0 + j, none⟩ from by by_cases hj0 : j = 0 <;> simp [Addr.add, hj0]]
        have h3 : w.cell? ⟨g, 0 + j, none⟩ = some (xs j) := h1.1;generalize xs j = q at h2 h3;unfold zne at h2;cases h2;exact h3
    have hUS := Lib.run_unsafeString_row (P := Tryz.prog) w.drew 232 3 9 5 (by kernel_rfl) (by kernel_rfl) g cs'.size (by show w.shape? g = _; simp [World.shape?, hh']) s hs0 (by rw [hsl, hcs']; omega) (by omega) hcell
    rw [hsl] at hUS;refine (Tryz.String_core b w _ (some ⟨g, 0, none⟩) (some ⟨g, 0, none⟩) l.length cap ⟨s.toArray⟩ c1 (Lib.run_unsafeSliceData_row w.drew _ _ _ _ _ (by omega)) hUS).mono ?_
    rintro e w' ⟨rfl, rfl⟩;refine fin _ ?_ ?_ ?_ (λ b' _ hb' => ?_) (λ b' i' x hx => ?_)
    · unfold World.freeze; split <;> rfl
    · unfold World.freeze; split <;> rfl
    · unfold World.freeze; split
      · exact Nat.le_refl _
      · simp
    · rw [zm6 w.drew g _ b' (λ e => hb' (by rw [e]; exact hg))]
      rfl
    · rw [zvs];exact hx
theorem zw8(hP:cx.P=Tryz.prog){args:List V}{out:Out}{σ':St}(h:zku args σ=some (out,σ')){vs:List Value}(hi:Inv cx w σ μ)(hcan:Canon σ)(hv:RVs w σ μ vs args) :
  ∃ u,out=.ret u∧(∀ k o,zi σ' k=some o→k<σ.length∧∀ i∈o.ids,i<σ.length)∧(∀ i∈u.ids,i<σ.length) ∧
  Calls cx.P 192 vs.toArray w λ e w'=>∃ μ' x,e=.returned x∧After cx w σ μ w' σ' μ'∧RV w' σ' μ' x u:=by
 unfold zku at h;split at h
 case h_2=>cases h
 rename_i sz xs sep;obtain ⟨l,hl,h1⟩:=zd h;clear h;obtain ⟨hc,h⟩:=ze h1;clear h1;cases h;simp only [ph,decide_eq_true_eq] at hc;refine ⟨_,rfl,hcan,by simp [V.ids],?_⟩
 obtain ⟨v1,v2,rfl⟩:∃ v1 v2,vs=[v1,v2]:=by
  have:=hv.1
  match vs,this with
  | [a,b],_=>exact ⟨a,b,rfl⟩
 have h1:=hv.2 0 v1 _ rfl rfl;have h2:=hv.2 1 v2 _ rfl rfl;cases h2 with | d _ _ h2=>?_
 cases h2;cases h1 with | d _ _ h1=>?_
 have hxs:=zll xs l hl;rw [hP];have fin:∀ (q:ByteArray) (w':World),q=xl (Lib.join l sep)→RowKit.Below w.heap.size w w'→∃ μ' x,Ending.returned (.string q)=.returned x∧After cx w σ μ w' σ μ'∧RV w' σ μ' x (.d (.str (Lib.join l sep))):=by
  rintro q w' rfl hb;exact ⟨μ,_,rfl,zic hi hb,.d _ _ (.str _)⟩
 cases h1 with
 | sl0 base cap _=>
  have hl0:l=[]:=by cases l with | nil=>rfl | cons a b=>simp at hxs
  subst hl0;refine (Tryz.strings_Join_none base cap (xl sep) w).mono ?_;rintro e w' ⟨rfl,rfl⟩;exact fin _ _ (by simp [Lib.join,List.intercalate,xl]) (RowKit.Below.refl _ _)
 | sl b o n cap _ _ ys hn hcap hsz hcell hels=>
  subst hn;by_cases h0:l=[]
  ·subst h0;have hx0:xs=[]:=by simpa using hxs
   subst hx0;refine (Tryz.strings_Join_none (some ⟨b,o,none⟩) cap (xl sep) w).mono ?_;rintro e w' ⟨rfl,rfl⟩;exact fin _ _ (by simp [Lib.join,List.intercalate,xl]) (RowKit.Below.refl _ _)
  have hlen:xs.length=(l.map xl).length:=by rw [hxs]; simp
  have hsz1:sz=1:=by
   have hne:xs ≠ []:=by rw [hxs]; simpa using h0
   obtain ⟨y,hy⟩:=List.exists_mem_of_ne_nil xs hne;have:=hsz y hy;rw [hxs] at hy;obtain ⟨q,_,rfl⟩:=List.mem_map.1 hy;exact this.symm
  subst hsz1;have hmap:(l.map xl).map (·.data.toList)=l:=by
   rw [List.map_map]
   conv=>rhs; rw [←List.map_id l]
   exact List.map_congr_left λ a _=>by simp [xl]
  have hsep:(xl sep).data.toList=sep:=by simp [xl]
  have hj:=Tryz.strings_Join b o cap (l.map xl) (xl sep) w (λ j x hx=>?_) ?_ (by rw [←hlen,hxs]; simpa using hc.1) (by rw [←hlen]; exact hcap) (by rw [hmap,hsep]; exact hc.2)
  ·rw [hmap,hsep,←hlen] at hj;refine hj.mono ?_;rintro e w' ⟨rfl,hb⟩;exact fin _ _ rfl hb
  ·rw [List.getElem?_map,Option.map_eq_some_iff] at hx;obtain ⟨q,hq,rfl⟩:=hx;have hjl:j<xs.length:=by rw [hlen]; simpa using (pj.1 hq).1
   have g1:=(hcell j (by omega)).1
   have hlx:xs[j]?=some (.str q):=by rw [hxs,List.getElem?_map,hq]; rfl
   have g2:=hels j 0 (.str q) (.str q) hlx rfl;simp only [Nat.mul_one,Nat.add_zero] at g2;generalize ys j=z at g1 g2;cases g2;exact g1
  ·have hpos:0<xs.length:=by rw [hlen]; simpa using List.length_pos_iff.2 h0
   exact lt_of_cell (hcell 0 (by omega)).1
theorem zji:∀ l:List Int,(vf l).Perm l
 | []=>.refl _
 | x::l=>by
  have ins:∀ (x:Int) (l:List Int),(zh6 x l).Perm (x::l):=by
   intro x l
   induction l with
   | nil=>exact .refl _
   | cons y r ih=>
    unfold zh6;cases decide (x≤y)
    ·exact (ih.cons y).trans (.swap x y r)
    ·exact .refl _
  exact (ins x _).trans ((zji l).cons x)
theorem zus:∀ l:List Int,(vf l).Pairwise (·≤·)
 | []=>by simp [vf]
 | x::l=>by
  have ins:∀ (x:Int) (l:List Int),l.Pairwise (·≤·)→(zh6 x l).Pairwise (·≤·):=by
   intro x l
   induction l with
   | nil=>intro _; simp [zh6]
   | cons y r ih=>
    intro h;rw [List.pairwise_cons] at h;unfold zh6;by_cases hxy:x≤y
    ·rw [pa hxy];simp only [cond_true,List.pairwise_cons,List.mem_cons];refine ⟨λ z hz=>?_,h⟩;rcases hz with rfl | hz
     ·exact hxy
     ·exact Int.le_trans hxy (h.1 z hz)
    ·rw [pb hxy];simp only [cond_false,List.pairwise_cons];refine ⟨λ z hz=>?_,ih h.2⟩;have hz:z=x∨z∈r:=by
      have hp:(zh6 x r).Perm (x::r):=by
       clear ih h hz hxy
       induction r with
       | nil=>exact .refl _
       | cons y r ih=>
        unfold zh6;cases decide (x≤y)
        ·exact (ih.cons y).trans (.swap x y r)
        ·exact .refl _
      simpa using hp.mem_iff.1 hz
     rcases hz with rfl | hz
     ·omega
     ·exact h.1 z hz
  exact ins x _ (zus l)
theorem zur(l:List Int):(l.mergeSort λ x y=>decide (x≤y))=vf l:=by
 have h1:(l.mergeSort λ x y=>decide (x≤y)).Pairwise (·≤·):=by
  have:=List.pairwise_mergeSort (le:=λ x y:Int=>decide (x≤y)) (by intro a b c; simp; omega) (by intro a b; simp; omega) l
  exact this.imp λ h=>by simpa using h
 exact ((List.mergeSort_perm l _).trans (zji l).symm).eq_of_pairwise (λ a b _ _ h1 h2=>by omega) h1 (zus l)
theorem zr3:∀ {l:List D} {zs:List Int},zk1 l=some zs→l=zs.map (.int .i64)
 | [],zs,h=>by cases h; rfl
 | x::r,zs,h=>by
  unfold zk1 at h;split at h
  ·rename_i he; cases he
  ·rename_i n q he;cases he;split at h
   ·rename_i l hl; cases h; rw [zr3 hl]; rfl
   ·cases h
  ·cases h
theorem zw7(hP:cx.P=Tryz.prog){args:List V}{out:Out}{σ':St}(h:zkt args σ=some (out,σ')){vs:List Value}(hi:Inv cx w σ μ)(hcan:Canon σ)(hv:RVs w σ μ vs args) :
  ∃ u,out=.ret u∧(∀ k o,zi σ' k=some o→k<σ.length∧∀ i∈o.ids,i<σ.length)∧(∀ i∈u.ids,i<σ.length) ∧
  Calls cx.P 49 vs.toArray w λ e w'=>∃ μ' x,e=.returned x∧After cx w σ μ w' σ' μ'∧RV w' σ' μ' x u:=by
 unfold zkt at h;split at h
 case h_2=>cases h
 rename_i id k;split at h
 case h_2=>cases h
 rename_i l ho;obtain ⟨hc,h1⟩:=ze h;clear h;obtain ⟨zs,hz,h⟩:=zd h1;clear h1;cases h;simp only [ph,decide_eq_true_eq,Bool.not_eq_true'] at hc;obtain ⟨⟨hk,hle⟩,hne⟩:=hc;obtain rfl:=pg hk;have hl:=zr3 hz;have hlen:l.length=zs.length:=by rw [hl]; simp
 have hpos:0<l.length:=by cases l with | nil=>simp at hne | cons=>simp
 refine ⟨_,rfl,λ j o hj=>?_,by simp [V.ids,V.idsL],?_⟩
 ·rw [zq] at hj;by_cases h:id=j
  ·subst h;rw [if_pos rfl] at hj;cases hj;exact ⟨(hcan id _ ho).1,by simp [Ob.ids]⟩
  ·rw [if_neg h] at hj;exact hcan j o hj
 obtain ⟨v,rfl⟩:∃ v,vs=[v]:=List.length_eq_one_iff.1 (by simpa using hv.1)
 have hv0:=hv.2 0 v _ rfl rfl;cases hv0 with | slo _ _ _ cap base l' hl' hkl hcap hn hat=>?_
 rw [ho] at hl'; cases hl';rcases hat rfl with ⟨_,_,hc0⟩ | ⟨b,rfl,hb,hf,hend⟩
 ·omega
 obtain ⟨cs,el,hh,hcs,h2,h3,h4,h5⟩:=hi.ob id _ ho b hb;rw [hf] at h2 h4 h5;have hget:∀ (j:Nat) z,zs[j]?=some z→cs[j]?=some (.int .i64 z):=λ j z hj=>by
  have hlj:l[j]?=some (.int .i64 z):=by rw [hl,List.getElem?_map,hj]; rfl
  obtain ⟨v,hv,hvc⟩:=h5 j 0 _ (.int .i64 z) hlj rfl;cases hvc;simpa using hv
 have hH:Holds (Value.int .i64) w b 0 zs.toArray:=λ j hj=>by
  have hj':j<zs.length:=by simpa using hj
  refine ⟨?_,?_⟩
  ·rw [cell_of_heap hh,Nat.zero_add,hget j zs[j] (pr hj')];rw [getElem!_pos zs.toArray j hj];simp
  ·simp [World.frozen?,hh]
 rw [hP,show ([Value.slice (some ⟨b,0,none⟩) l.length cap]).toArray = #[.slice (some ⟨b,0,none⟩) zs.length cap] by rw [hlen]]
 refine (Tryz.slices_Sort_int b 0 cap zs w hH (lt_of_heap hh) (by omega)).mono ?_
 rintro e w' ⟨rfl,n,os,hw'⟩;rw [zur] at hw';have hsl:(vf zs).length=zs.length:=(zji zs).length_eq;have hlt:=lt_of_heap hh;have hother:∀ b',b' ≠ b→b'<w.heap.size→w'.heap[b']?=w.heap[b']?:=λ b' hb' hlt'=>by
  rw [hw',heap_grow_old _ _ (by simpa [putRow,mapBlock,Sort.ahead] using hlt')]
  simp [putRow,mapBlock,Sort.ahead,Array.getElem?_modify,Ne.symm hb']
 have hnew:w'.heap[b]?=some (.cells (putCells (Value.int .i64) 0 (vf zs).toArray cs) el (0,0)):=by
  rw [hw',heap_grow_old _ _ (by simpa [putRow,mapBlock,Sort.ahead] using hlt)]
  simp [putRow,mapBlock,Sort.ahead,Array.getElem?_modify,hh,onCells]
 have hsize:w.heap.size≤w'.heap.size:=by rw [hw']; simp [grow,putRow,mapBlock,Sort.ahead]
 have hup:Upd cx w σ μ w' (qn σ id (.row ((vf zs).map (.int .i64)))) μ [id]:={
  os:=by rw [hw']; rfl,output:=by rw [hw']; rfl,size:=hsize,
  blk:=λ b' hb' hno=>hother b' (λ e=>hno id (by simp) _ ho 0 (by rw [e]; exact hb)) hb',
  cell:=λ b' i x hno hc=>by
   have hne:b' ≠ b:=λ e=>hno id (by simp) _ ho (by rw [e]; exact hb)
   have:=hother b' hne (lt_of_cell hc);unfold World.cell? at hc ⊢;simp only at hc ⊢;rw [this]; exact hc,
  fr:=rfl,same:=λ j hj=>⟨by rw [zq,if_neg (Ne.symm (by simpa using hj))],rfl⟩,
  own:=λ j hj q hq b' i hown _=>by
   simp at hj; subst hj;rw [zq,if_pos rfl] at hq; cases hq;exact ⟨_,ho,hown⟩,
  still:=λ j hj q hq=>by
   simp at hj; subst hj;rw [ho] at hq; cases hq;rw [zq,if_pos rfl];exact ⟨by simp [hsl,hlen],λ _=>rfl⟩,
  apart:=λ j hj j' hj' _ _ _ _ _ _ _ _ _=>by simp at hj hj'; rw [hj,hj'] }
 refine ⟨μ,_,rfl,hup.after hi λ j hj o' ho'=>?_,.tup #[] [] rfl (by simp)⟩
 simp at hj; subst hj;rw [zq,if_pos rfl] at ho'; cases ho';refine qj.of hb hnew (by simp [putCells,hcs]) (by rw [hf]; simp [putCells,hsl]; omega) (λ x hx=>?_) (λ y hy=>?_) λ k c hk=>?_
 ·simp only [putCells,Array.toList_mapIdx,List.mem_mapIdx] at hx;obtain ⟨i,hi',hx⟩:=hx;rw [←hx];split
  ·rfl
  ·exact h3 _ (List.getElem_mem _)
 ·rw [hf];obtain ⟨z,_,rfl⟩:=List.mem_map.1 hy;rfl
 ·have hfl:yq ((vf zs).map (.int .i64))=(vf zs).map (.int .i64):=by
   unfold yq;generalize vf zs=q
   induction q with
   | nil=>rfl
   | cons a q ih=>simp only [List.map_cons,List.flatMap_cons,ih]; rfl
  rw [hfl,List.getElem?_map,Option.map_eq_some_iff] at hk;obtain ⟨z,hz',rfl⟩:=hk;have hklt:=(pj.1 hz').1;refine ⟨.int .i64 z,?_,.int _ _⟩;have hkc:k<cs.size:=by omega
  simp only [putCells,Array.getElem?_mapIdx,Array.getElem?_eq_getElem hkc,Option.map_some];rw [if_pos ⟨Nat.zero_le _,by simpa using hklt⟩]
  rw [getElem!_pos _ _ (by simpa using hklt)]
  have:(vf zs)[k]=z:=(pj.1 hz').2;simp [this]
theorem zod{n:Nat}{l:List (List UInt8)}{v:Value}(hi:Inv cx w σ μ)(h:w'.ownsRow w.heap.size 9 1 v n (l.map λ s=>Value.string (xl s)))(hn:l.length=n)(haf:After cx w σ μ w' σ μ):RD w' (zr σ μ) v (.sl 1 (l.map .str)):=by
 obtain ⟨hlen,h⟩:=h;rcases h with ⟨rfl,h0⟩ | ⟨g,cap,cur,rfl,hg,hh,hcap,_,hsize,htake⟩
 ·have:l=[]:=List.eq_nil_of_length_eq_zero (by omega)
  subst this;exact .sl0 _ _ _
 ·have hfree:∀ i,¬ zr σ μ g i:=λ i ho=>by
   rcases ho with hf | ⟨id,o,ho,hown⟩
   ·exact absurd (hi.frLt _ _ hf) (by omega)
   ·exact absurd (zfa hi ho hown) (by omega)
  refine RD.ofRow (cs:=cur) hh (by simp [hn]) hcap (λ y hy=>by obtain ⟨s,_,rfl⟩:=List.mem_map.1 hy; rfl) (λ k c hk=>?_) λ k _=>by rw [Nat.zero_add]; exact hfree k
  have hfl:yq (l.map .str)=l.map .str:=by
   unfold yq;clear hlen htake hn hk
   induction l with
   | nil=>rfl
   | cons a q ih=>simp only [List.map_cons,List.flatMap_cons,ih]; rfl
  rw [hfl,List.getElem?_map,Option.map_eq_some_iff] at hk;obtain ⟨s,hs,rfl⟩:=hk;have hklt:=(pj.1 hs).1;have:(cur.toList.take (n * 1))[k]?=some (.string (xl s)):=by rw [htake,List.getElem?_map,hs]; rfl
  rw [List.getElem?_take,if_pos (by omega)] at this
  exact ⟨_,by simpa using this,.str s,rfl⟩
theorem zu6(hP:cx.P=Tryz.prog){args:List V}{out:Out}{σ':St}(h:zol args σ=some (out,σ')){vs:List Value}(hi:Inv cx w σ μ)(hcan:Canon σ)(hv:RVs w σ μ vs args) :
  ∃ u,out=.ret u∧(∀ k o,zi σ' k=some o→k<σ.length∧∀ i∈o.ids,i<σ.length)∧(∀ i∈u.ids,i<σ.length) ∧
  Calls cx.P 99 vs.toArray w λ e w'=>∃ μ' x,e=.returned x∧After cx w σ μ w' σ' μ'∧RV w' σ' μ' x u:=by
 unfold zol at h;split at h
 case h_2=>cases h
 rename_i xs;obtain ⟨hc,h1⟩:=ze h;clear h;obtain ⟨l,hl,h⟩:=zd h1;clear h1;cases h;have hc:=pc hc;have hxs:=zll xs l hl;subst hxs;rw [pf] at hc;refine ⟨_,rfl,hcan,by simp [V.ids],?_⟩
 obtain ⟨v,rfl⟩:∃ v,vs=[v]:=List.length_eq_one_iff.1 (by simpa using hv.1)
 have hv0:=hv.2 0 v _ rfl rfl;cases hv0 with | d _ _ hd=>?_
 rw [hP];have e0:∀ zs:List (List UInt8),(zs.map xl).map (Value.string)=zs.map λ s=>Value.string (xl s):=λ zs=>by rw [List.map_map]; rfl
 by_cases hne:l=[]
 ·subst hne;obtain ⟨base,cap,rfl⟩:=hd.slice_inv;cases base with
  | none=>
   refine (Tryz.slices_Clone_string_nil 0 cap w).mono ?_;rintro e w' ⟨rfl,rfl⟩;exact ⟨μ,_,rfl,After.refl hi,.d _ _ (.sl0 _ _ _)⟩
  | some a=>
   refine (Tryz.slices_Clone_string_zero a cap w).mono ?_;rintro e w' ⟨v',rfl,ho,_,hb⟩;have haf:=zic hi hb;exact ⟨μ,_,rfl,haf,.d _ _ (zod (l:=[]) hi ho rfl haf)⟩
 ·generalize hnl:(l.map D.str)=q at hd;cases hd with
  | sl0=>exact absurd (by simpa using hnl) hne
  | sl b o n cap _ _ ys hn hcap hsz hcell hels=>
   subst hnl;have hn:n=l.length:=by simpa using hn
   subst hn;have hj:=Tryz.slices_Clone_string b o l.length cap (l.map xl) w (by simp) (by omega) (λ j hj=>by
    have hj':j<l.length:=by simpa using hj
    have g1:=(hcell j (by omega)).1
    have hlx:(l.map D.str)[j]?=some (.str l[j]):=by rw [List.getElem?_map,pr hj']; rfl
    have g2:=hels j 0 (.str l[j]) (.str l[j]) hlx rfl;simp only [Nat.mul_one,Nat.add_zero] at g2;generalize ys j=z at g1 g2;cases g2;rw [g1];simp [List.getD_eq_getElem?_getD,hj'])
   refine hj.mono ?_;rintro e w' ⟨v',rfl,ho,_,hb⟩;have haf:=zic hi hb;rw [List.take_of_length_le (by simp),e0] at ho
   exact ⟨μ,_,rfl,haf,.d _ _ (zod hi ho rfl haf)⟩
theorem z6m(hP : cx.P = Tryz.prog)(hg : ∀ g e, cx.grow g = some e → g = 165 ∧ e = 9) : z5w cx := by
  intro g e h n w h0 h1;obtain ⟨rfl, rfl⟩ := hg g e h;refine ⟨⟨_, by rw [hP]; exact Tryz.func165, by kernel_rfl⟩, ?_⟩
  obtain ⟨m, rfl⟩ : ∃ m : Nat, n = (m : Int) := ⟨n.toNat, by omega⟩
  rw [hP];by_cases hm : m = 0
  · subst hm;refine (Any8.slices_Grow_room Tryz.growS none 0 0 0 w (by omega) (by omega) (by omega) (by omega)).mono ?_
    rintro x w' ⟨rfl, rfl⟩;exact ⟨none, 0, rfl, .inl ⟨rfl, rfl, rfl⟩⟩
  · have hi9 : Tryz.prog.info? 9 = Tryz.prog.info? 9 := rfl;obtain ⟨i, hi⟩ : ∃ i, Tryz.prog.info? 9 = some i := by
      cases hq : Tryz.prog.info? 9 with
      | some i => exact ⟨i, rfl⟩
      | none => have : (Tryz.prog.info? 9).isSome = true := by kernel_rfl
                rw [hq] at this; cases this
    have hs : (Tryz.prog.info? 9).map (λ i => (i.zero.isSome, i.size, i.bytes)) = some (true, 1, 16) := by kernel_rfl
    rw [hi] at hs;simp only [Option.map_some, Option.some.injEq, Prod.mk.injEq] at hs;obtain ⟨hz, hsz, hby⟩ := hs;obtain ⟨z, hz⟩ := Option.isSome_iff_exists.1 hz;have hzc : z.cells.size = 1 := by
      have : (Tryz.prog.info? 9).bind (λ i => i.zero.map λ z => z.cells.size) = some 1 := by kernel_rfl
      rw [hi] at this;simp only [Option.bind_some, hz, Option.map_some, Option.some.injEq] at this;exact this
    refine (Any8.slices_Grow_grow Tryz.growS i z hi hz (by omega) none 0 0 m [] w (by omega) (by omega) (by rw [hby]; omega) (by omega) (by simp) (λ _ => rfl) (λ a h => by cases h)).mono ?_
    rintro x w' ⟨rfl, rfl⟩;refine ⟨_, _, rfl, .inr ⟨_, _, rfl, rfl, ?_⟩⟩;have hc1 : Tryz.prog.cellsOf 9 = 1 := by kernel_rfl
    have hge := grownCap_ge w (0 + m) 0 9;simp only [Array.size_append, vn, hzc, hc1];show ([] : List Value).toArray.size + (0 + m - 0) * 1 + (_ - (0 + m)) * 1 = _ * 1;simp only [List.size_toArray, List.length_nil];have hge : 0 + m ≤ grownCap w (0 + m) 0 (Tryz.growS_ren.t 25) := hge;omega
theorem znr{f g : Nat}{out : Out}{σ' : St}{vs : List Value}(hfg : f = g)(hfn : ∃ fn, cx.P.funcs[g]? = some fn ∧ fn.body.isNone = false) : (∃ u, out = .ret u ∧ (∀ k o, zi σ' k = some o → k < σ.length ∧ ∀ i ∈ o.ids, i < σ.length) ∧ (∀ i ∈ u.ids, i < σ.length) ∧
      Calls cx.P g vs.toArray w λ e w' => ∃ μ' x, e = .returned x ∧ After cx w σ μ w' σ' μ' ∧ RV w' σ' μ' x u) →
    (∃ fn, cx.P.funcs[f]? = some fn ∧ fn.body.isNone = false) ∧ (∀ k o, zi σ' k = some o → k < σ.length ∧ ∀ i ∈ o.ids, i < σ.length) ∧ (∀ i ∈ (match out with | .ret v => v.ids | .pan v => v.ids), i < σ.length) ∧
    Calls cx.P f vs.toArray w λ e w' => ∃ μ', After cx w σ μ w' σ' μ' ∧
      match out, e with
      | .ret v, .returned x => RV w' σ' μ' x v
      | .pan v, .panicked chain => ∃ x, chain = [{ v := x, recovered := false }] ∧ RV w' σ' μ' x v
      | _, _ => False := by
  intro h;subst hfg;obtain ⟨u, rfl, h1, h2, h3⟩ := h;refine ⟨hfn, h1, h2, h3.mono ?_⟩;rintro e w' ⟨μ', x, rfl, ha, hr⟩;exact ⟨μ', ha, hr⟩
theorem nat_ok(hP:cx.P=Tryz.prog)(hg:∀ g e,cx.grow g=some e→g=165∧e=9):zai cx nat:=by
 refine ⟨z6m hP hg,?_⟩;intro f args σ out σ' h w μ vs hi hcan hids hall hv;unfold nat at h;cases h1:Nat.beq f 164 <;> rw [h1] at h
 ·rw [cond_false] at h;cases h2:Nat.beq f 192 <;> rw [h2] at h
  ·rw [cond_false] at h;cases h3:Nat.beq f 49 <;> rw [h3] at h
   ·rw [cond_false] at h;cases h4:Nat.beq f 99 <;> rw [h4] at h
    ·cases h
    ·exact znr (pg h4) ⟨_,by rw [hP]; exact Tryz.func99,by kernel_rfl⟩ (zu6 hP h hi hcan hv)
   ·exact znr (pg h3) ⟨_,by rw [hP]; exact Tryz.func49,by kernel_rfl⟩ (zw7 hP h hi hcan hv)
  ·exact znr (pg h2) ⟨_,by rw [hP]; exact Tryz.func192,by kernel_rfl⟩ (zw8 hP h hi hcan hv)
 ·exact znr (pg h1) ⟨_,by rw [hP]; exact Tryz.func164,by kernel_rfl⟩ (z0t hP h hi hcan hv)
end
end Go.Vai
end
noncomputable section
namespace Go.Vai
theorem znz:∀ {l l':List Int},l.Pairwise (· < ·)→l'.Pairwise (· < ·)→(∀ x,x∈l↔x∈l')→l=l'
 | [],[],_,_,_=>rfl
 | [],y::r,_,_,h=>by have:=(h y).2 (pn ..); cases this
 | x::r,[],_,_,h=>by have:=(h x).1 (pn ..); cases this
 | x::r,y::q,h1,h2,h=>by
  rw [List.pairwise_cons] at h1 h2;have hxy:x=y:=by
   have a:=(h x).1 (pn ..);have b:=(h y).2 (pn ..);rw [List.mem_cons] at a b;rcases a with a | a
   ·exact a
   ·rcases b with b | b
    ·exact b.symm
    ·have:=h2.1 x a; have:=h1.1 y b; omega
  subst hxy;rw [znz h1.2 h2.2 λ z=>?_];constructor
  ·intro hz;have:=(h z).1 (pp _ hz);rw [List.mem_cons] at this;rcases this with rfl | this
   ·have:=h1.1 z hz; omega
   ·exact this
  ·intro hz;have:=(h z).2 (pp _ hz);rw [List.mem_cons] at this;rcases this with rfl | this
   ·have:=h2.1 z hz; omega
   ·exact this
theorem zom{x y:Int}:∀ {l:List Int},y∈zh6 x l↔y=x∨y∈l
 | []=>by simp [zh6]
 | z::l=>by
  unfold zh6;cases decide (x≤z)
  ·simp only [cond_false,List.mem_cons,zom (l:=l)];constructor
   ·rintro (h | h | h)
    ·exact .inr (.inl h)
    ·exact .inl h
    ·exact .inr (.inr h)
   ·rintro (h | h | h)
    ·exact .inr (.inl h)
    ·exact .inl h
    ·exact .inr (.inr h)
  ·simp only [cond_true,List.mem_cons]
theorem zm3{x:Int}:∀ {l:List Int},l.Pairwise (· < ·)→x ∉ l→(zh6 x l).Pairwise (· < ·)
 | [],_,_=>by simp [zh6]
 | z::l,h,hx=>by
  unfold zh6;rw [List.pairwise_cons] at h;simp only [List.mem_cons,not_or] at hx;by_cases hz:x≤z
  ·rw [pa hz];simp only [cond_true,List.pairwise_cons,List.mem_cons];refine ⟨λ y hy=>?_,h⟩;rcases hy with rfl | hy
   ·omega
   ·have:=h.1 y hy; omega
  ·rw [pb hz];simp only [cond_false,List.pairwise_cons];refine ⟨λ y hy=>?_,zm3 h.2 hx.2⟩;rw [zom] at hy;rcases hy with rfl | hy
   ·omega
   ·exact h.1 y hy
theorem zl1{y:Int}:∀ {l:List Int},y∈vf l↔y∈l
 | []=>by simp [vf]
 | z::l=>by simp [vf,zom,zl1 (l:=l)]
theorem zkb:∀ {l:List Int},l.Nodup→(vf l).Pairwise (· < ·)
 | [],_=>by simp [vf]
 | z::l,h=>by
  rw [List.nodup_cons] at h;exact zm3 (zkb h.2) λ hm=>h.1 (zl1.1 hm)
def xn(p:Nat→Bool)(n:Nat):List Nat:=(List.range n).filter p
theorem zw4(p:Nat→Bool)(n:Nat):((xn p n).map λ k:Nat=>(k:Int)).Pairwise (· < ·):=by
 rw [List.pairwise_map];have:(List.range n).Pairwise (· < ·):=List.pairwise_lt_range;refine (this.sublist List.filter_sublist).imp ?_;intro a b h; omega
theorem zth{p:Nat→Bool}{n k:Nat}:k∈xn p n↔k<n∧p k=true:=by simp [xn]
theorem zks{l:List Nat}{k:Nat}:((k:Int)∈l.map λ k:Nat=>(k:Int))↔k∈l:=by
 rw [List.mem_map];constructor
 ·rintro ⟨a,ha,he⟩;have:a=k:=by omega
  exact this ▸ ha
 ·intro h; exact ⟨k,h,rfl⟩
theorem zuq{l:List Nat}{n:Nat}{p:Nat→Bool}(hn:l.Nodup)(h:∀ k,k∈l↔k<n∧p k=true):vf (l.map λ k:Nat=>(k:Int))=(xn p n).map λ k:Nat=>(k:Int):=by
 have hnd:(l.map λ k:Nat=>(k:Int)).Nodup:=by
  unfold List.Nodup;rw [List.pairwise_map];exact hn.imp λ hab e=>hab (by omega)
 refine znz (zkb hnd) (zw4 p n) λ x=>?_;rw [zl1];constructor
 ·intro hx;obtain ⟨k,hk,rfl⟩:=List.mem_map.1 hx;exact zks.2 (zth.2 ((h k).1 hk))
 ·intro hx;obtain ⟨k,hk,rfl⟩:=List.mem_map.1 hx;exact zks.2 ((h k).2 (zth.1 hk))
def Sp.row(U:List (List Nat))(k:Nat):List Nat:=U.getD k []
inductive Reach (U:List (List Nat)) (s:Nat):Nat→Prop
 | here:Reach U s s
 | step {j k:Nat} (h:Reach U s j) (hk:k∈Sp.row U j):Reach U s k
def zik(U:List (List Nat)):Prop:=∀ u∈U,∀ k∈u,k<U.length
theorem zik.row{U:List (List Nat)}(h:zik U){j k:Nat}(hk:k∈Sp.row U j):k<U.length:=by
 unfold Sp.row at hk;rw [List.getD_eq_getElem?_getD] at hk;cases hj:U[j]? with
 | none=>rw [hj] at hk; cases hk
 | some u=>rw [hj] at hk; exact h u (po hj) k hk
theorem Reach.lt{U:List (List Nat)}{s k:Nat}(hU:zik U)(hs:s<U.length)(h:Reach U s k):k<U.length:=by
 cases h with
 | here=>exact hs
 | step _ hk=>exact hU.row hk
def Sp.addN(o:List Nat)(i:Nat):List Nat:=if i∈o then o else o++[i]
def vy(o:List Nat):List Nat→List Nat
 | []=>o
 | i::r=>vy (Sp.addN o i) r
def zez(U:List (List Nat)):Nat→Nat→List Nat→List Nat
 | 0,_,o=>o
 | f+1,k,o=>match o[k]? with | some j=>zez U f (k+1) (vy o (Sp.row U j)) | none=>o
theorem zst{o:List Nat}{i:Nat}(hn:o.Nodup):(Sp.addN o i).Nodup∧(∀ x,x∈Sp.addN o i↔x∈o∨x=i)∧∃ r,Sp.addN o i=o++r:=by
 unfold Sp.addN;by_cases h:i∈o
 ·rw [if_pos h];exact ⟨hn,λ x=>⟨.inl,λ hx=>hx.elim id λ e=>e ▸ h⟩,[],by simp⟩
 ·rw [if_neg h];refine ⟨?_,λ x=>by simp,[i],rfl⟩
  rw [List.nodup_append];exact ⟨hn,by simp,λ a ha b hb=>by simp at hb; subst hb; exact λ e=>h (e ▸ ha)⟩
theorem zii:∀ (u:List Nat) {o:List Nat},o.Nodup→(vy o u).Nodup∧(∀ x,x∈vy o u↔x∈o∨x∈u)∧∃ r,vy o u=o++r
 | [],o,hn=>⟨hn,λ x=>by simp [vy],[],by simp [vy]⟩
 | i::u,o,hn=>by
  obtain ⟨h1,h2,r1,h3⟩:=zst (i:=i) hn;obtain ⟨h4,h5,r2,h6⟩:=zii u h1;refine ⟨h4,λ x=>?_,r1++r2,by rw [vy,h6,h3,List.append_assoc]⟩
  rw [vy,h5,h2,List.mem_cons,or_assoc]
theorem zly{o:List Nat}{n:Nat}(hn:o.Nodup)(h:∀ x∈o,x<n):o.length≤n:=by
 have:∀ (n:Nat) (o:List Nat),o.Nodup→(∀ x∈o,x<n)→o.length≤n:=by
  intro n
  induction n with
  | zero=>
   intro o _ h;cases o with
   | nil=>simp
   | cons a r=>have:=h a (pn ..); omega
  | succ n ih=>
   intro o hn h;have h1:(o.filter λ x=>decide (x ≠ n)).length≤n:=ih _ (hn.filter _) λ x hx=>by
    simp only [List.mem_filter,decide_eq_true_eq] at hx;have:=h x hx.1; omega
   have h2:o.length≤(o.filter λ x=>decide (x ≠ n)).length+1:=by
    clear ih h1 h
    induction o with
    | nil=>simp
    | cons a r ih=>
     rw [List.nodup_cons] at hn;by_cases ha:a=n
     ·subst ha;have:r.filter (λ x=>decide (x ≠ a))=r:=List.filter_eq_self.2 λ x hx=>by simp; exact λ e=>hn.1 (e ▸ hx)
      rw [List.filter_cons,if_neg (by simp),this]
      simp
     ·have:=ih hn.2;simp [ha] at this ⊢;omega
   omega
 exact this n o hn h
theorem z45{U:List (List Nat)}(hU:zik U){s:Nat}(hs:s<U.length):∀ (f k:Nat) (o:List Nat),U.length≤f+k→k≤o.length→o.Nodup→s∈o→(∀ x∈o,Reach U s x) →
  (∀ i j,i<k→o[i]?=some j→∀ x∈Sp.row U j,x∈o)→(zez U f k o).Nodup∧∀ x,x∈zez U f k o↔Reach U s x:=by
 have close:∀ (o:List Nat),s∈o→(∀ x∈o,Reach U s x)→(∀ j∈o,∀ x∈Sp.row U j,x∈o)→∀ x,x∈o↔Reach U s x:=by
  intro o h1 h2 h3 x;refine ⟨h2 x,λ h=>?_⟩
  induction h with
  | here=>exact h1
  | step _ hk ih=>exact h3 _ ih _ hk
 intro f
 induction f with
 | zero=>
  intro k o hf hk hn hs' hr hc;have hlen:=zly hn λ x hx=>(hr x hx).lt hU hs;refine ⟨hn,close o hs' hr λ j hj=>?_⟩;obtain ⟨i,hi⟩:=List.getElem?_of_mem hj;exact hc i j (by have:=(pj.1 hi).1; omega) hi
 | succ f ih=>
  intro k o hf hk hn hs' hr hc;unfold zez;cases hj:o[k]? with
  | none=>
   have hlen:o.length≤k:=List.getElem?_eq_none_iff.1 hj;refine ⟨hn,close o hs' hr λ j hj=>?_⟩;obtain ⟨i,hi⟩:=List.getElem?_of_mem hj;exact hc i j (by have:=(pj.1 hi).1; omega) hi
  | some j=>
   simp only;have hklt:=(pj.1 hj).1;obtain ⟨h1,h2,r,h3⟩:=zii (Sp.row U j) hn;refine ih (k+1) _ (by omega) (by rw [h3]; simp; omega) h1 ((h2 s).2 (.inl hs')) (λ x hx=>?_) λ i q hi hq x hx=>?_
   ·rcases (h2 x).1 hx with h | h
    ·exact hr x h
    ·exact .step (hr j (po hj)) h
   ·rw [h3] at hq;rw [List.getElem?_append_left (by omega)] at hq
    by_cases hik:i=k
    ·subst hik;rw [hj] at hq; cases hq;exact (h2 x).2 (.inr hx)
    ·exact (h2 x).2 (.inl (hc i q (by omega) hq x hx))
open Go.Proofs
def zdw:List V→Option (D×List UInt8) | [.d x,.d (.str s)]=>some (x,s) | _=>none
theorem yd7(n:Nat)(l:List (List UInt8))(s:List UInt8):zl cx (CK.plain zn) n 132 [.d (.sl 1 (l.map .str)),.d (.str s)] []=LP cx (CK.plain zn) n 132 0 2 n [(0,V.d (D.sl 1 (List.map D.str l))),(1,V.d (D.str s)),(7,V.d (D.int .i64 (↑(List.map D.str l).length:Int))),(8,V.d (D.int .i64 (0:Int)))] [] (AK cx (CK.plain zn) n 132 0 2 (EK cx 132 0)):=by kernel_rfl
theorem z8k(n k:Nat)(l:List (List UInt8))(s:List UInt8)(i:Int):LP cx (CK.plain zn) n 132 0 2 (k+1) [(0,.d (.sl 1 (l.map .str))),(1,.d (.str s)),(7,.d (.int .i64 (l.length:Int))),(8,.d (.int .i64 i))] [] (AK cx (CK.plain zn) n 132 0 2 (EK cx 132 0))=bif decide (i<(↑l.length:Int)) then zb (decide (0≤i)&&decide (i<(↑(List.map D.str l).length:Int))) (za (List.map D.str l) i.toNat λ y=>za y.cells 0 λ c=>match c with
 | D.str s_1=>bif decide (s=s_1) then some (Out.ret (V.d (D.int .i64 i)),[]) else LP cx (CK.plain zn) n 132 0 2 k [(0,V.d (D.sl 1 (List.map D.str l))),(1,V.d (D.str s)),(7,V.d (D.int .i64 (↑l.length:Int))),(8,V.d (D.int .i64 (IntKind.i64.wrap (i+(1:Int)))))] [] (AK cx (CK.plain zn) n 132 0 2 (EK cx 132 0))
 | x=>none) else some (Out.ret (V.d (D.int .i64 (Int.negSucc 0))),[]):=by kernel_rfl
theorem yfu(n:Nat)(l:List (List UInt8))(s:List UInt8):zl cx (CK.plain zn) n 93 [.d (.sl 1 (l.map .str)),.d (.str s)] []=LP cx (CK.plain zn) n 93 0 2 n [(0,V.d (D.sl 1 (List.map D.str l))),(1,V.d (D.str s)),(5,V.d (D.int .i64 (0:Int)))] [] (AK cx (CK.plain zn) n 93 0 2 (EK cx 93 0)):=by kernel_rfl
theorem ydl(n k:Nat)(l:List (List UInt8))(s:List UInt8)(i:Int):LP cx (CK.plain zn) n 93 0 2 (k+1) [(0,.d (.sl 1 (l.map .str))),(1,.d (.str s)),(5,.d (.int .i64 i))] [] (AK cx (CK.plain zn) n 93 0 2 (EK cx 93 0))=bif decide (i<(↑(List.map D.str l).length:Int)) then zb (decide (0≤i)&&decide (i<(↑(List.map D.str l).length:Int))) (za (List.map D.str l) i.toNat λ y=>za y.cells 0 λ c=>match c with
 | D.str s_1=>bif decide (s_1=s) then some (Out.ret (V.d (D.bool true)),[]) else LP cx (CK.plain zn) n 93 0 2 k [(0,V.d (D.sl 1 (List.map D.str l))),(1,V.d (D.str s)),(5,V.d (D.int .i64 (IntKind.i64.wrap (i+(1:Int)))))] [] (AK cx (CK.plain zn) n 93 0 2 (EK cx 93 0))
 | x=>none) else some (Out.ret (V.d (D.bool false)),[]):=by kernel_rfl
theorem yfv(n:Nat)(l:List Nat)(i:Int):zl cx (CK.plain zn) n 84 [.d (.sl 1 (l.map λ k:Nat=>D.int .i64 k)),.d (.int .i64 i)] []=LP cx (CK.plain zn) n 84 0 2 n [(0,V.d (D.sl 1 (List.map (λ k:Nat=>D.int .i64 (↑k:Int)) l))),(1,V.d (D.int .i64 i)),(7,V.d (D.int .i64 (↑(List.map (λ k:Nat=>D.int .i64 (↑k:Int)) l).length:Int))),(8,V.d (D.int .i64 (0:Int)))] [] (AK cx (CK.plain zn) n 84 0 2 (EK cx 84 0)):=by kernel_rfl
theorem ydn(n k:Nat)(l:List Nat)(x i:Int):LP cx (CK.plain zn) n 84 0 2 (k+1) [(0,.d (.sl 1 (l.map λ k:Nat=>D.int .i64 k))),(1,.d (.int .i64 x)),(7,.d (.int .i64 (l.length:Int))),(8,.d (.int .i64 i))] [] (AK cx (CK.plain zn) n 84 0 2 (EK cx 84 0))=bif decide (i<(↑l.length:Int)) then zb (decide (0≤i)&&decide (i<(↑(List.map (λ k:Nat=>D.int .i64 (↑k:Int)) l).length:Int))) (za (List.map (λ k:Nat=>D.int .i64 (↑k:Int)) l) i.toNat λ y=>za y.cells 0 λ c=>match c with
 | D.int k' n_1=>bif decide (k'=IntKind.i64) then bif decide (x=n_1) then some (Out.ret (V.d (D.int .i64 i)),[]) else LP cx (CK.plain zn) n 84 0 2 k [(0,V.d (D.sl 1 (List.map (λ k:Nat=>D.int .i64 (↑k:Int)) l))),(1,V.d (D.int .i64 x)),(7,V.d (D.int .i64 (↑l.length:Int))),(8,V.d (D.int .i64 (IntKind.i64.wrap (i+(1:Int)))))] [] (AK cx (CK.plain zn) n 84 0 2 (EK cx 84 0)) else none
 | x=>none) else some (Out.ret (V.d (D.int .i64 (Int.negSucc 0))),[]):=by kernel_rfl
theorem yd2(n:Nat)(l:List Nat)(i:Int):zl cx (CK.plain zn) n 84 [.slo 0 1 l.length,.d (.int .i64 i)] [(0,.row (l.map λ k:Nat=>D.int .i64 k))]=LP cx (CK.plain zn) n 84 1 2 n [(0,V.slo 0 1 l.length),(1,V.d (D.int .i64 i)),(7,V.d (D.int .i64 (↑l.length:Int))),(8,V.d (D.int .i64 (0:Int)))] [(0,Ob.row (List.map (λ k:Nat=>D.int .i64 (↑k:Int)) l))] (AK cx (CK.plain zn) n 84 1 2 (EK cx 84 1)):=by kernel_rfl
theorem z77(n k:Nat)(l:List Nat)(x i:Int):LP cx (CK.plain zn) n 84 1 2 (k+1) [(0,.slo 0 1 l.length),(1,.d (.int .i64 x)),(7,.d (.int .i64 (l.length:Int))),(8,.d (.int .i64 i))] [(0,.row (l.map λ k:Nat=>D.int .i64 k))] (AK cx (CK.plain zn) n 84 1 2 (EK cx 84 1))=bif decide (i<(↑l.length:Int)) then zb (decide (0≤i)&&decide (i<(↑l.length:Int))) (zb (l.length.beq (List.map (λ k:Nat=>D.int .i64 (↑k:Int)) l).length) (za (List.map (λ k:Nat=>D.int .i64 (↑k:Int)) l) i.toNat λ x_1=>za x_1.cells 0 λ c=>match c with
 | D.int k' n_1=>bif decide (k'=IntKind.i64) then bif decide (x=n_1) then some (Out.ret (V.d (D.int .i64 i)),[(0,Ob.row (List.map (λ k:Nat=>D.int .i64 (↑k:Int)) l))]) else LP cx (CK.plain zn) n 84 1 2 k [(0,V.slo 0 1 l.length),(1,V.d (D.int .i64 x)),(7,V.d (D.int .i64 (↑l.length:Int))),(8,V.d (D.int .i64 (IntKind.i64.wrap (i+(1:Int)))))] [(0,Ob.row (List.map (λ k:Nat=>D.int .i64 (↑k:Int)) l))] (AK cx (CK.plain zn) n 84 1 2 (EK cx 84 1)) else none
 | x=>none)) else some (Out.ret (V.d (D.int .i64 (Int.negSucc 0))),[(0,Ob.row (List.map (λ k:Nat=>D.int .i64 (↑k:Int)) l))]):=by kernel_rfl
theorem yf2(n:Nat)(l:List Nat)(i:Int):zl cx (CK.plain zn) n 50 [.d (.sl 1 (l.map λ k:Nat=>D.int .i64 k)),.d (.int .i64 i)] []=LP cx (CK.plain zn) n 50 0 2 n [(0,V.d (D.sl 1 (List.map (λ k:Nat=>D.int .i64 (↑k:Int)) l))),(1,V.d (D.int .i64 i)),(5,V.d (D.int .i64 (0:Int)))] [] (AK cx (CK.plain zn) n 50 0 2 (EK cx 50 0)):=by kernel_rfl
theorem ydq(n k:Nat)(l:List Nat)(x i:Int):LP cx (CK.plain zn) n 50 0 2 (k+1) [(0,.d (.sl 1 (l.map λ k:Nat=>D.int .i64 k))),(1,.d (.int .i64 x)),(5,.d (.int .i64 i))] [] (AK cx (CK.plain zn) n 50 0 2 (EK cx 50 0))=bif decide (i<(↑(List.map (λ k:Nat=>D.int .i64 (↑k:Int)) l).length:Int)) then zb (decide (0≤i)&&decide (i<(↑(List.map (λ k:Nat=>D.int .i64 (↑k:Int)) l).length:Int))) (za (List.map (λ k:Nat=>D.int .i64 (↑k:Int)) l) i.toNat λ y=>za y.cells 0 λ c=>match c with
 | D.int k' n_1=>bif decide (k'=IntKind.i64) then bif decide (n_1=x) then some (Out.ret (V.d (D.bool true)),[]) else LP cx (CK.plain zn) n 50 0 2 k [(0,V.d (D.sl 1 (List.map (λ k:Nat=>D.int .i64 (↑k:Int)) l))),(1,V.d (D.int .i64 x)),(5,V.d (D.int .i64 (IntKind.i64.wrap (i+(1:Int)))))] [] (AK cx (CK.plain zn) n 50 0 2 (EK cx 50 0)) else none
 | x=>none) else some (Out.ret (V.d (D.bool false)),[]):=by kernel_rfl
theorem yd8(n:Nat)(a b:List (List UInt8)):zl cx (CK.plain zn) n 131 [.d (.sl 1 [.sl 1 (a.map .str),.sl 1 (b.map .str)])] []=LP cx (CK.plain zn) n 131 0 3 n [(0,V.d (D.sl 1 [D.sl 1 (List.map D.str a),D.sl 1 (List.map D.str b)])),(3,V.d (D.int .i64 (0:Int))),(9,V.d (D.sl 1 [D.sl 1 (List.map D.str a),D.sl 1 (List.map D.str b)])),(10,V.d (D.int .i64 (↑[D.sl 1 (List.map D.str a),D.sl 1 (List.map D.str b)].length:Int))),(11,V.d (D.int .i64 (0:Int)))] [] (AK cx (CK.plain zn) n 131 0 3 (EK cx 131 0)):=by kernel_rfl
theorem yal(n k:Nat)(a b:List (List UInt8))(c:Int):LP cx (CK.plain zn) n 131 0 3 (k+1) [(0,.d (.sl 1 [.sl 1 (a.map .str),.sl 1 (b.map .str)])),(3,.d (.int .i64 c)),(9,.d (.sl 1 [.sl 1 (a.map .str),.sl 1 (b.map .str)])),(10,.d (.int .i64 2)),(11,.d (.int .i64 0))] [] (AK cx (CK.plain zn) n 131 0 3 (EK cx 131 0))=bif decide (IntKind.i64.wrap (c+(↑(List.map D.str a).length:Int))<(0:Int)) then some (Out.pan (V.d (D.iface 9 (D.str [108,101,110,32,111,117,116,32,111,102,32,114,97,110,103,101]))),[]) else LP cx (CK.plain zn) n 131 0 3 k [(0,V.d (D.sl 1 [D.sl 1 (List.map D.str a),D.sl 1 (List.map D.str b)])),(3,V.d (D.int .i64 (IntKind.i64.wrap (c+(↑(List.map D.str a).length:Int))))),(9,V.d (D.sl 1 [D.sl 1 (List.map D.str a),D.sl 1 (List.map D.str b)])),(10,V.d (D.int .i64 (2:Int))),(11,V.d (D.int .i64 (1:Int)))] [] (AK cx (CK.plain zn) n 131 0 3 (EK cx 131 0)):=by kernel_rfl
theorem yak(n k:Nat)(a b:List (List UInt8))(c:Int):LP cx (CK.plain zn) n 131 0 3 (k+1) [(0,.d (.sl 1 [.sl 1 (a.map .str),.sl 1 (b.map .str)])),(3,.d (.int .i64 c)),(9,.d (.sl 1 [.sl 1 (a.map .str),.sl 1 (b.map .str)])),(10,.d (.int .i64 2)),(11,.d (.int .i64 1))] [] (AK cx (CK.plain zn) n 131 0 3 (EK cx 131 0))=bif decide (IntKind.i64.wrap (c+(↑(List.map D.str b).length:Int))<(0:Int)) then some (Out.pan (V.d (D.iface 9 (D.str [108,101,110,32,111,117,116,32,111,102,32,114,97,110,103,101]))),[]) else LP cx (CK.plain zn) n 131 0 3 k [(0,V.d (D.sl 1 [D.sl 1 (List.map D.str a),D.sl 1 (List.map D.str b)])),(3,V.d (D.int .i64 (IntKind.i64.wrap (c+(↑(List.map D.str b).length:Int))))),(9,V.d (D.sl 1 [D.sl 1 (List.map D.str a),D.sl 1 (List.map D.str b)])),(10,V.d (D.int .i64 (2:Int))),(11,V.d (D.int .i64 (2:Int)))] [] (AK cx (CK.plain zn) n 131 0 3 (EK cx 131 0)):=by kernel_rfl
theorem yaj(n k:Nat)(a b:List (List UInt8))(c:Int):LP cx (CK.plain zn) n 131 0 3 (k+1) [(0,.d (.sl 1 [.sl 1 (a.map .str),.sl 1 (b.map .str)])),(3,.d (.int .i64 c)),(9,.d (.sl 1 [.sl 1 (a.map .str),.sl 1 (b.map .str)])),(10,.d (.int .i64 2)),(11,.d (.int .i64 2))] [] (AK cx (CK.plain zn) n 131 0 3 (EK cx 131 0))=zb (decide (0≤c)&&decide (c≤4294967296)&&true&&true&&true) (LP cx (CK.plain zn) n 131 0 11 n [(6,V.sl 1 [] 24),(25,V.d (D.sl 1 [D.sl 1 (List.map D.str a),D.sl 1 (List.map D.str b)])),(26,V.d (D.int .i64 (↑[D.sl 1 (List.map D.str a),D.sl 1 (List.map D.str b)].length:Int))),(27,V.d (D.int .i64 (0:Int)))] [(24,Ob.tok 0)] (AK cx (CK.plain zn) n 131 0 11 (EK cx 131 0))):=by kernel_rfl
theorem yai(n k:Nat)(a b:List (List UInt8))(l:List D):LP cx (CK.plain zn) n 131 0 11 (k+1) [(6,V.sl 1 l 24),(25,V.d (D.sl 1 [D.sl 1 (List.map D.str a),D.sl 1 (List.map D.str b)])),(26,V.d (D.int .i64 2)),(27,V.d (D.int .i64 (0:Int)))] [(24,Ob.tok l.length)] (AK cx (CK.plain zn) n 131 0 11 (EK cx 131 0))=zb (decide (l.length=l.length)&&decide (l.length+(List.map D.str a).length≤4294967296)) (LP cx (CK.plain zn) n 131 0 11 k [(6,V.sl 1 (l++List.map D.str a) 24),(25,V.d (D.sl 1 [D.sl 1 (List.map D.str a),D.sl 1 (List.map D.str b)])),(26,V.d (D.int .i64 (2:Int))),(27,V.d (D.int .i64 (1:Int)))] [(24,Ob.tok (l.length+(List.map D.str a).length))] (AK cx (CK.plain zn) n 131 0 11 (EK cx 131 0))):=by kernel_rfl
theorem yah(n k:Nat)(a b:List (List UInt8))(l:List D):LP cx (CK.plain zn) n 131 0 11 (k+1) [(6,V.sl 1 l 24),(25,V.d (D.sl 1 [D.sl 1 (List.map D.str a),D.sl 1 (List.map D.str b)])),(26,V.d (D.int .i64 2)),(27,V.d (D.int .i64 (1:Int)))] [(24,Ob.tok l.length)] (AK cx (CK.plain zn) n 131 0 11 (EK cx 131 0))=zb (decide (l.length=l.length)&&decide (l.length+(List.map D.str b).length≤4294967296)) (LP cx (CK.plain zn) n 131 0 11 k [(6,V.sl 1 (l++List.map D.str b) 24),(25,V.d (D.sl 1 [D.sl 1 (List.map D.str a),D.sl 1 (List.map D.str b)])),(26,V.d (D.int .i64 (2:Int))),(27,V.d (D.int .i64 (2:Int)))] [(24,Ob.tok (l.length+(List.map D.str b).length))] (AK cx (CK.plain zn) n 131 0 11 (EK cx 131 0))):=by kernel_rfl
theorem yag(n k:Nat)(a b:List (List UInt8))(l:List D):LP cx (CK.plain zn) n 131 0 11 (k+1) [(6,V.sl 1 l 24),(25,V.d (D.sl 1 [D.sl 1 (List.map D.str a),D.sl 1 (List.map D.str b)])),(26,V.d (D.int .i64 2)),(27,V.d (D.int .i64 (2:Int)))] [(24,Ob.tok l.length)] (AK cx (CK.plain zn) n 131 0 11 (EK cx 131 0))=some (Out.ret (V.d (D.sl 1 l)),[]):=by kernel_rfl
def Sp.mem(s:List UInt8)(l:List (List UInt8)):Bool:=l.any λ x=>decide (x=s)
theorem mem_iff{s:List UInt8}{l:List (List UInt8)}:Sp.mem s l=true↔s∈l:=by
 unfold Sp.mem;rw [List.any_eq_true];constructor
 ·rintro ⟨x,hx,h⟩; have:=pc h; exact this ▸ hx
 ·intro h; exact ⟨s,h,pa rfl⟩
def vu(k:Int)(l:List Nat):Bool:=l.any λ x:Nat=>decide ((x:Int)=k)
theorem zkw{k:Nat}{l:List Nat}:vu (k:Int) l=true↔k∈l:=by
 unfold vu;rw [List.any_eq_true];constructor
 ·rintro ⟨x,hx,h⟩;have:=pc h;have:x=k:=by omega
  exact this ▸ hx
 ·intro h; exact ⟨k,h,pa rfl⟩
abbrev nI(l:List Nat):List D:=l.map λ k:Nat=>D.int .i64 k
theorem zd0{R:Type}{l:List Nat}{i:Nat}{K:D→Option R}:za (nI l) i K=zc l[i]? λ t=>K (.int .i64 t):=by
 unfold za;rw [List.getElem?_map];cases l[i]? <;> rfl
theorem ye5(l:List (List UInt8))(s:List UInt8)(hl:yd l=true):zh cx 132 [.d (.sl 1 (l.map .str)),.d (.str s)] []=some (.ret (mkI (y8 (λ x=>decide (s=x)) l)),[]):=by
 refine zk zm (N:=l.length+1) ?_;rw [yd7,pf]
 have h:=vr (λ k i=>LP cx (CK.plain zn) (l.length+1) 132 0 2 k [(0,.d (.sl 1 (l.map .str))),(1,.d (.str s)),(7,.d (.int .i64 (l.length:Int))),(8,.d (.int .i64 i))] [] (AK cx (CK.plain zn) (l.length+1) 132 0 2 (EK cx 132 0)))
  l (λ x=>decide (s=x)) (λ j=>some (Out.ret (V.d (D.int .i64 j)),[])) (some (Out.ret (V.d (D.int .i64 (Int.negSucc 0))),[])) (yh hl)
  (λ k j x hj hx=>by
   rw [z8k,pf,z6 hj,yy,xx,pm,hx];rfl) (λ k=>by rw [z8k,yj,cond_false]) (Nat.lt_succ_self _)
 refine h.trans ?_;unfold y8;cases ym (λ x=>decide (s=x)) l 0 <;> rfl
theorem m93(l:List (List UInt8))(s:List UInt8)(hl:yd l=true):zh cx 93 [.d (.sl 1 (l.map .str)),.d (.str s)] []=some (.ret (mkB (Sp.mem s l)),[]):=by
 refine zk zm (N:=l.length+1) ?_;rw [yfu]
 have h:=vr (λ k i=>LP cx (CK.plain zn) (l.length+1) 93 0 2 k [(0,.d (.sl 1 (l.map .str))),(1,.d (.str s)),(5,.d (.int .i64 i))] [] (AK cx (CK.plain zn) (l.length+1) 93 0 2 (EK cx 93 0)))
  l (λ x=>decide (x=s)) (λ _=>some (Out.ret (V.d (D.bool true)),[])) (some (Out.ret (V.d (D.bool false)),[])) (yh hl)
  (λ k j x hj hx=>by
   rw [ydl,pf,z6 hj,yy,xx,pm,hx];rfl) (λ k=>by rw [ydl,pf,yj,cond_false]) (Nat.lt_succ_self _)
 refine h.trans ?_;unfold Sp.mem;rw [←zbc l 0];cases ym (λ x=>decide (x=s)) l 0 <;> rfl
theorem m84(l:List Nat)(a:Int)(hl:yd l=true):zh cx 84 [.d (.sl 1 (nI l)),.d (.int .i64 a)] []=some (.ret (mkI (y8 (λ x:Nat=>decide (a=(x:Int))) l)),[]):=by
 refine zk zm (N:=l.length+1) ?_;rw [yfv,pf]
 have h:=vr (λ k i=>LP cx (CK.plain zn) (l.length+1) 84 0 2 k [(0,.d (.sl 1 (nI l))),(1,.d (.int .i64 a)),(7,.d (.int .i64 (l.length:Int))),(8,.d (.int .i64 i))] [] (AK cx (CK.plain zn) (l.length+1) 84 0 2 (EK cx 84 0)))
  l (λ x:Nat=>decide (a=(x:Int))) (λ j=>some (Out.ret (V.d (D.int .i64 j)),[])) (some (Out.ret (V.d (D.int .i64 (Int.negSucc 0))),[])) (yh hl)
  (λ k j x hj hx=>by
   rw [ydn,pf,z6 hj,yy,zd0,pm,hx];rfl) (λ k=>by rw [ydn,yj,cond_false]) (Nat.lt_succ_self _)
 refine h.trans ?_;unfold y8;cases ym (λ x:Nat=>decide (a=(x:Int))) l 0 <;> rfl
theorem ye2(l:List Nat)(a:Int)(hl:yd l=true):zh cx 84 [.slo 0 1 l.length,.d (.int .i64 a)] [(0,.row (nI l))]=some (.ret (mkI (y8 (λ x:Nat=>decide (a=(x:Int))) l)),[(0,.row (nI l))]):=by
 refine zk zm (N:=l.length+1) ?_;rw [yd2]
 have h:=vr (λ k i=>LP cx (CK.plain zn) (l.length+1) 84 1 2 k [(0,.slo 0 1 l.length),(1,.d (.int .i64 a)),(7,.d (.int .i64 (l.length:Int))),(8,.d (.int .i64 i))] [(0,.row (nI l))] (AK cx (CK.plain zn) (l.length+1) 84 1 2 (EK cx 84 1)))
  l (λ x:Nat=>decide (a=(x:Int))) (λ j=>some (Out.ret (V.d (D.int .i64 j)),[(0,.row (nI l))])) (some (Out.ret (V.d (D.int .i64 (Int.negSucc 0))),[(0,.row (nI l))])) (yh hl)
  (λ k j x hj hx=>by
   rw [z77,pf,z6 hj,yy,zd0,pm,hx,Nat.beq_refl];rfl) (λ k=>by rw [z77,yj,cond_false]) (Nat.lt_succ_self _)
 refine h.trans ?_;unfold y8;cases ym (λ x:Nat=>decide (a=(x:Int))) l 0 <;> rfl
theorem m50(l:List Nat)(a:Int)(hl:yd l=true):zh cx 50 [.d (.sl 1 (nI l)),.d (.int .i64 a)] []=some (.ret (mkB (vu a l)),[]):=by
 refine zk zm (N:=l.length+1) ?_;rw [yf2]
 have h:=vr (λ k i=>LP cx (CK.plain zn) (l.length+1) 50 0 2 k [(0,.d (.sl 1 (nI l))),(1,.d (.int .i64 a)),(5,.d (.int .i64 i))] [] (AK cx (CK.plain zn) (l.length+1) 50 0 2 (EK cx 50 0)))
  l (λ x:Nat=>decide ((x:Int)=a)) (λ _=>some (Out.ret (V.d (D.bool true)),[])) (some (Out.ret (V.d (D.bool false)),[])) (yh hl)
  (λ k j x hj hx=>by
   rw [ydq,pf,z6 hj,yy,zd0,pm,hx];rfl) (λ k=>by rw [ydq,pf,yj,cond_false]) (Nat.lt_succ_self _)
 refine h.trans ?_;unfold vu;rw [←zbc l 0];cases ym (λ x:Nat=>decide ((x:Int)=a)) l 0 <;> rfl
theorem ye6(a b:List (List UInt8))(ha:a.length+b.length≤4294967296):zh cx 131 [.d (.sl 1 [.sl 1 (a.map .str),.sl 1 (b.map .str)])] []=some (.ret (.d (.sl 1 ((a++b).map .str))),[]):=by
 refine zk zm (N:=3) ?_;have w1:IntKind.i64.wrap ((0:Int)+(a.length:Int))=((a.length:Nat):Int):=by rw [IntWalk.i64_in _ (by omega)]; omega
 have w2:IntKind.i64.wrap (((a.length:Nat):Int)+(b.length:Int))=((a.length+b.length:Nat):Int):=by rw [IntWalk.i64_in _ (by omega)]; omega
 have e2:((([D.sl 1 (List.map D.str a),D.sl 1 (List.map D.str b)]:List D).length:Nat):Int)=2:=rfl
 rw [yd8,e2,yal,pf,w1,pb (p:=((a.length:Nat):Int)<0) (by omega),cond_false,yak,pf,w2,pb (p:=((a.length+b.length:Nat):Int)<0) (by omega),cond_false,yaj,
  pa (p:=(0:Int)≤((a.length+b.length:Nat):Int)) (by omega),pa (p:=((a.length+b.length:Nat):Int)≤4294967296) (by omega)]
 simp only [Bool.and_self,zb,cond_true];have hd:=yai 3 2 a b [];rw [List.length_nil] at hd;rw [e2];refine hd.trans ?_;rw [pa rfl,pa (p:=0+(List.map D.str a).length≤4294967296) (by simp; omega)]
 simp only [Bool.and_self,zb,cond_true,List.nil_append,Nat.zero_add];refine (yah 3 1 a b (List.map D.str a)).trans ?_;rw [pa rfl,pa (p:=(List.map D.str a).length+(List.map D.str b).length≤4294967296) (by simp; omega)]
 simp only [Bool.and_self,zb,cond_true];rw [←pe,←List.map_append];exact yag 3 0 a b _
theorem zes{a:List V}{q}(h:zdw a=some q):a=[.d q.1,.d (.str q.2)]:=by
 unfold zdw at h;split at h
 ·cases h; rfl
 ·cases h
def Sp.put(l:List (List UInt8))(s:List UInt8):List (List UInt8):=bif Sp.mem s l then l else l++[s]
def zlh:List (List UInt8):=[[85],[83,49],[98,97,115,101],[110,111,114,116,104],[115,111,117,116,104],[108,111,111,112],[102,115,116],[115,110,100],[83,117,115,112],[117,110,103,108,117,101],[109,101,114,105,100],[103,108,117,101],[71,108,117,101],[80,97,116,104],[116,114,97,110,115,112],[104,99,111,109,112],[83,49,101,108,105,109],[83,117,115,112,101,108,105,109]]
def znu:List Nat:=[0,0,0,0,0,0,1,1,1,1,1,2,2,3,3,3,4,5]
def wK:List D:=zlh.map .str
def vh(ks:List D)(s:List UInt8):Bool:=ks.any λ k=>match k with | .str t=>decide (s=t) | _=>false
def zow:D→Bool | .str _=>true | _=>false
def zzr:D→Bool | .int k _=>decide (k=.i64) | _=>false
def okM(ks vs:List D):Bool:=ks.all zow&&vs.all zzr&&decide (ks.length≤vs.length)
def zx4:List V→Option ((List D×List D)×List UInt8) | [.d (.agg [.map ks vs,_,_,_]),.d (.str s)]=>some ((ks,vs),s) | _=>none
def z2u(q:(List D×List D)×List UInt8):Option Bool:=zb (okM q.1.1 q.1.2) (some (vh q.1.1 q.2))
def ztz:List V→Option ((List D×List D)×D) | [.d x,.mfunc 79 [.agg [.map ks vs,_,_,_]]]=>some ((ks,vs),x) | _=>none
def strsOf:List D→Option (List (List UInt8))
 | []=>some []
 | .str s::r=>zc (strsOf r) λ l=>some (s::l)
 | _=>none
def zbk:D→Option (List (List UInt8))
 | .sl sz l=>zb (Nat.beq sz 1&&decide (l.length<4294967296)) (strsOf l)
 | _=>none
def zw2(q:(List D×List D)×D):Option Int:=zb (okM q.1.1 q.1.2) (zc (zbk q.2) λ l=>some (y8 (vh q.1.1) l))
def ya5(q:(List D×List D)×D):Option Bool:=zb (okM q.1.1 q.1.2) (zc (zbk q.2) λ l=>some (l.any (vh q.1.1)))
def zqy:CK R1:=zt 79 zx4 z2u mkB (CK.plain zn)
def z8l:CK R1:=zt 106 ztz zw2 mkI (CK.plain zn)
def xT:D:=.agg [.int .i64 1,.str [120],.sl 5 [],.sl 1 [],.int .i64 0]
def yet(b:Bool):D:=D.agg [D.int .i64 (bif b then 0 else 1),D.int .i64 0,D.str [],D.sl 2 [],D.sl 6 [],D.sl 2 []]
open Classical in
def isD(x:D)(y:D):Bool:=decide (x=y)
def evK(n:Nat):CK R1:=CK.plain (vg cx n)
theorem zsg(n:Nat):knows cx (evK n).S (zh cx):=λ _ _ _ _ _ h=>zh4 h
def K42:CK R1:=zt 78 ztz ya5 mkB (evK 60)
def z4v:List V→Option ((D×D)×(D×D)) | [.d t,.d a,.d b,.d c]=>some ((t,a),(b,c)) | _=>none
def z2g:D→Option (List UInt8) | .sl 1 [.str s]=>some s | _=>none
def z8r(q:(D×D)×(D×D)):Option Bool:=zc (z2g q.1.2) λ s=>zb (isD q.1.1 xT&&isD q.2.1 (.sl 1 [.str [120]])&&isD q.2.2 (.sl 1 [])) (some (vh wK s))
def z6c(b:Bool):V:=.tup [.d (yet b),.d (.int .i64 0),.d (.int .i64 (bif b then 61 else 0))]
def yeh:CK R1:=zt 42 z4v z8r z6c (CK.plain zn)
theorem yf7(s:List UInt8):zl cx K42 5 42 [.d xT,.d (.sl 1 [.str s]),.d (.sl 1 [.str [120]]),.d (.sl 1 [])] []=bif [s].any (vh wK) then some (.ret (z6c true),[]) else some (.ret (z6c false),[]):=by kernel_rfl
theorem yd9(s:List UInt8):zl cx yeh 5 130 [.d (.str s)] []=zc (z8r ((xT,.sl 1 [.str s]),(.sl 1 [.str [120]],.sl 1 []))) λ b=>some (.ret (.d (.bool (!decide ((bif b then (61:Int) else 0)=0)))),[]):=by kernel_rfl
theorem yfw(n:Nat)(ks vs:List D)(a b c:D)(s:List UInt8):zl cx (CK.plain zn) n 79 [.d (.agg [.map ks vs,a,b,c]),.d (.str s)] []=zc (qx (D.str s) ks 0) λ o=>zjj o (λ i=>za vs i λ y=>match y with
 | D.int k' n=>bif decide (k'=IntKind.i64) then some (Out.ret (V.d (D.bool true)),[]) else none
 | x=>none) (some (Out.ret (V.d (D.bool false)),[])):=by kernel_rfl
theorem yav(n:Nat)(ks vs:List D)(a b c:D)(l:List (List UInt8)):zl cx zqy n 106 [.d (.sl 1 (l.map .str)),.mfunc 79 [.agg [.map ks vs,a,b,c]]] []=LP cx zqy n 106 0 2 n [(0,V.d (D.sl 1 (List.map D.str l))),(1,V.mfunc 79 [D.agg [D.map ks vs,a,b,c]]),(7,V.d (D.int .i64 (↑(List.map D.str l).length:Int))),(8,V.d (D.int .i64 (0:Int)))] [] (AK cx zqy n 106 0 2 (EK cx 106 0)):=by kernel_rfl
theorem z5n(n k:Nat)(ks vs:List D)(a b c:D)(l:List (List UInt8))(i:Int):LP cx zqy n 106 0 2 (k+1) [(0,.d (.sl 1 (l.map .str))),(1,.mfunc 79 [.agg [.map ks vs,a,b,c]]),(7,.d (.int .i64 (l.length:Int))),(8,.d (.int .i64 i))] [] (AK cx zqy n 106 0 2 (EK cx 106 0))=bif decide (i<(↑l.length:Int)) then zb (decide (0≤i)&&decide (i<(↑(List.map D.str l).length:Int))) (za (List.map D.str l) i.toNat λ y=>za y.cells 0 λ c_1=>match c_1 with
 | D.str s=>zc (zb (((ks,vs),s).fst.fst.all zow&&((ks,vs),s).fst.snd.all zzr&&decide (((ks,vs),s).fst.fst.length≤((ks,vs),s).fst.snd.length)) (some (vh ((ks,vs),s).fst.fst ((ks,vs),s).snd))) λ b_1=>bif b_1 then some (Out.ret (V.d (D.int .i64 i)),[]) else LP cx zqy n 106 0 2 k [(0,V.d (D.sl 1 (List.map D.str l))),(1,V.mfunc 79 [D.agg [D.map ks vs,a,b,c]]),(7,V.d (D.int .i64 (↑l.length:Int))),(8,V.d (D.int .i64 (IntKind.i64.wrap (i+(1:Int)))))] [] (AK cx zqy n 106 0 2 (EK cx 106 0))
 | x=>none) else some (Out.ret (V.d (D.int .i64 (Int.negSucc 0))),[]):=by kernel_rfl
theorem yd3(n:Nat)(ks vs:List D)(a b c:D)(l:List (List UInt8)):zl cx z8l n 78 [.d (.sl 1 (l.map .str)),.mfunc 79 [.agg [.map ks vs,a,b,c]]] []=zc (zb (((ks,vs),D.sl 1 (List.map D.str l)).fst.fst.all zow&&((ks,vs),D.sl 1 (List.map D.str l)).fst.snd.all zzr&&decide (((ks,vs),D.sl 1 (List.map D.str l)).fst.fst.length≤((ks,vs),D.sl 1 (List.map D.str l)).fst.snd.length)) (zc (zbk ((ks,vs),D.sl 1 (List.map D.str l)).snd) λ l_1=>some (y8 (vh ((ks,vs),D.sl 1 (List.map D.str l)).fst.fst) l_1))) λ b=>some (Out.ret (V.d (D.bool (decide ((0:Int)≤b)))),[]):=by kernel_rfl
theorem zwb{a:List V}{q}(h:zx4 a=some q):∃ x y z,a=[.d (.agg [.map q.1.1 q.1.2,x,y,z]),.d (.str q.2)]:=by
 unfold zx4 at h; split at h <;> cases h; exact ⟨_,_,_,rfl⟩
theorem znb{a:List V}{q}(h:ztz a=some q):∃ x y z,a=[.d q.2,.mfunc 79 [.agg [.map q.1.1 q.1.2,x,y,z]]]:=by
 unfold ztz at h; split at h <;> cases h; exact ⟨_,_,_,rfl⟩
theorem zya{a:List V}{q}(h:z4v a=some q):a=[.d q.1.1,.d q.1.2,.d q.2.1,.d q.2.2]:=by
 unfold z4v at h; split at h <;> cases h; rfl
theorem zws{x:D}{s}(h:z2g x=some s):x=.sl 1 [.str s]:=by
 unfold z2g at h; split at h <;> cases h; rfl
open Classical in
theorem zoy{x y:D}(h:isD x y=true):x=y:=by unfold isD at h; exact pc h
open Classical in
theorem zoz{x:D}:isD x x=true:=by unfold isD; exact pa rfl
theorem ze6:∀ {l:List D} {r:List (List UInt8)},strsOf l=some r→l=r.map .str
 | [],r,h=>by cases h; rfl
 | .str s::l,r,h=>by
  obtain ⟨q,hq,h⟩:=zd h;cases h;rw [ze6 hq]; rfl
theorem zgf:∀ (l:List (List UInt8)),strsOf (l.map .str)=some l
 | []=>rfl
 | s::l=>by show zc (strsOf (l.map .str)) _=_; rw [zgf l]; rfl
theorem za1{x:D}{l}(h:zbk x=some l):x=.sl 1 (l.map .str)∧yd l=true:=by
 unfold zbk at h;split at h
 ·obtain ⟨h1,h2⟩:=ze h;rw [ph] at h1;obtain rfl:=pg h1.1;obtain rfl:=ze6 h2;refine ⟨rfl,?_⟩;have:=pc h1.2;rw [pf] at this;exact pa (p:=l.length<4294967296) (by omega)
 ·cases h
theorem zc0{l:List (List UInt8)}(h:yd l=true):zbk (.sl 1 (l.map .str))=some l:=by
 show zb (Nat.beq 1 1&&decide ((l.map D.str).length<4294967296)) (strsOf (l.map .str))=_;have:=pc h;rw [pf,pa this,zgf];rfl
theorem zl3(s:List UInt8):∀ (ks:List D) (i:Nat),ks.all zow=true→∃ o,qx (.str s) ks i=some o∧o.isSome=vh ks s∧∀ j,o=some j→i≤j∧j<i+ks.length
 | [],i,_=>⟨none,rfl,rfl,λ _ h=>by cases h⟩
 | .str t::ks,i,h=>by
  have h2:ks.all zow=true:=by simpa [zow] using h
  obtain ⟨o,ho,hi,hb⟩:=zl3 s ks (i+1) h2;show ∃ o,(bif decide (s=t) then some (some i) else qx (.str s) ks (i+1))=some o∧o.isSome=(decide (s=t)||vh ks s)∧_
  cases decide (s=t)
  ·refine ⟨o,ho,hi,λ j hj=>?_⟩;have:=hb j hj;simp only [List.length_cons]; omega
  ·exact ⟨some i,rfl,rfl,λ j hj=>by cases hj; simp only [List.length_cons]; omega⟩
 | .bool _::_,_,h | .int _ _::_,_,h=>by cases h
theorem m79(ks vs:List D)(a b c:D)(s:List UInt8)(h:okM ks vs=true):zh cx 79 [.d (.agg [.map ks vs,a,b,c]),.d (.str s)] []=some (.ret (mkB (vh ks s)),[]):=by
 refine zk zm (N:=0) ?_;rw [yfw];unfold okM at h;rw [ph,ph] at h;obtain ⟨⟨h1,h2⟩,h3⟩:=h;have h3:=pc h3;obtain ⟨o,ho,hi,hb⟩:=zl3 s ks 0 h1;rw [ho,←hi];cases o with
 | none=>rfl
 | some i=>
  have hi:=hb i rfl;obtain ⟨y,hy⟩:∃ y,vs[i]?=some y:=⟨vs[i]'(by omega),pr (by omega)⟩
  have:=(List.all_eq_true.1 h2) y (po hy);show (za vs i λ y=>_)=_;unfold za;rw [hy];cases y <;> simp only [zzr] at this <;> try cases this
  rename_i k n;have:=pc this;subst this;rfl
theorem zyr:knows cx zqy.S (zh cx):=zj zm λ a q b hd h hb=>by
 obtain ⟨x,y,z,rfl⟩:=zwb h;obtain ⟨h1,hb⟩:=ze hb;cases hb;exact m79 _ _ _ _ _ _ h1
theorem ybb(ks vs:List D)(a b c:D)(l:List (List UInt8))(hl:yd l=true)(h:okM ks vs=true):zh cx 106 [.d (.sl 1 (l.map .str)),.mfunc 79 [.agg [.map ks vs,a,b,c]]] []=some (.ret (mkI (y8 (vh ks) l)),[]):=by
 refine zk zyr (N:=l.length+1) ?_;rw [yav,pf]
 have h:=vr (λ k i=>LP cx zqy (l.length+1) 106 0 2 k [(0,.d (.sl 1 (l.map .str))),(1,.mfunc 79 [.agg [.map ks vs,a,b,c]]),(7,.d (.int .i64 (l.length:Int))),(8,.d (.int .i64 i))] [] (AK cx zqy (l.length+1) 106 0 2 (EK cx 106 0)))
  l (vh ks) (λ j=>some (Out.ret (V.d (D.int .i64 j)),[])) (some (Out.ret (V.d (D.int .i64 (Int.negSucc 0))),[])) (yh hl)
  (λ k j x hj hx=>by
   rw [z5n,pf,z6 hj,yy,xx,pm,hx];show zc (z2u ((ks,vs),x)) _=_;unfold z2u;simp only [h];rfl) (λ k=>by rw [z5n,yj,cond_false]) (Nat.lt_succ_self _)
 refine h.trans ?_;unfold y8;cases ym (vh ks) l 0 <;> rfl
theorem ye3(ks vs:List D)(a b c:D)(l:List (List UInt8))(hl:yd l=true)(h:okM ks vs=true):zh cx 78 [.d (.sl 1 (l.map .str)),.mfunc 79 [.agg [.map ks vs,a,b,c]]] []=some (.ret (mkB (l.any (vh ks))),[]):=by
 have hk:knows cx z8l.S (zh cx):=zj zm λ a q b hd h hb=>by
  obtain ⟨x,y,z,rfl⟩:=znb h;obtain ⟨h1,hb⟩:=ze hb;obtain ⟨l,hl,hb⟩:=zd hb;cases hb;obtain ⟨h2,h3⟩:=za1 hl;rw [h2];exact ybb _ _ _ _ _ _ h3 h1
 refine zk hk (N:=0) ?_;rw [yd3];show zc (zw2 ((ks,vs),.sl 1 (l.map .str))) _=_;unfold zw2;simp only [h];rw [zc0 hl];show some (Out.ret (mkB (decide ((0:Int)≤y8 (vh ks) l))),[])=_;rw [zgy]
theorem z19:knows cx K42.S (zh cx):=zj (zsg 60) λ a q b hd h hb=>by
 obtain ⟨x,y,z,rfl⟩:=znb h;obtain ⟨h1,hb⟩:=ze hb;obtain ⟨l,hl,hb⟩:=zd hb;cases hb;obtain ⟨h2,h3⟩:=za1 hl;rw [h2];exact ye3 _ _ _ _ _ _ h3 h1
theorem m42(s:List UInt8):zh cx 42 [.d xT,.d (.sl 1 [.str s]),.d (.sl 1 [.str [120]]),.d (.sl 1 [])] []=some (.ret (z6c (vh wK s)),[]):=by
 refine zk z19 (N:=5) ?_;rw [yf7];have:[s].any (vh wK)=vh wK s:=by simp
 rw [this];cases vh wK s <;> rfl
def Sp.word(s:List UInt8):Bool:=vh wK s
theorem ye7(s:List UInt8):zh cx 130 [.d (.str s)] []=some (.ret (mkB (Sp.word s)),[]):=by
 have hk:knows cx yeh.S (zh cx):=zj zm λ a q b hd h hb=>by
  obtain rfl:=zya h;obtain ⟨s,hs,hb⟩:=zd hb;obtain ⟨h1,hb⟩:=ze hb;cases hb;rw [ph,ph] at h1;rw [zoy h1.1.1,zoy h1.1.2,zoy h1.2,zws hs];exact m42 s
 refine zk hk (N:=5) ?_;rw [yd9];unfold z8r;rw [zoz,zoz,zoz];show some (Out.ret (mkB _),[])=_;unfold Sp.word;cases vh wK s <;> rfl
def psN(L:List D):St:=[(0,.val 1 (.sl 1 L 1)),(1,.tok L.length)]
def pdN:St→Option (List D×Nat) | [(0,.val 1 (.sl 1 L 1)),(1,.tok n)]=>some (L,n) | _=>none
def zpk(a:List V)(σ:St):Option ((D×D)×(List D×Nat)):=match a with | [.d t,.d b,.func 89 [.ptr 0 0]]=>zc (pdN σ) λ q=>some ((t,b),q) | _=>none
def zx5(a:List V)(σ:St):Option (List UInt8×(List D×Nat)):=match a with | [.d (.str s),.ptr 0 0]=>zc (pdN σ) λ q=>some (s,q) | _=>none
def stK{α:Type}(f:Nat)(dec:List V→St→Option (α×(List D×Nat)))(sp:α→List D→Option (List D))(S:CK R1):CK R1:=
 more f dec (λ K q=>zc (sp q.1 q.2.1) λ L'=>zb (Nat.beq q.2.2 q.2.1.length) (K (.ret (.tup [])) (psN L')))
  (λ K q=>by
   simp only;rw [vx];congr 1;funext s;simp only [zb,wt];rfl) S
theorem zu1{σ:St}{L:List D}{n:Nat}(h:pdN σ=some (L,n))(hn:Nat.beq n L.length=true):σ=psN L:=by
 unfold pdN at h;split at h
 ·cases h;obtain rfl:=pg hn;rfl
 ·cases h
theorem zq9{α:Type}{f:Nat}{dec:List V→St→Option (α×(List D×Nat))}{sp:α→List D→Option (List D)}{S:CK R1}(hS:knows cx S.S (zh cx))
  (hf:∀ a σ q L n L',dec a σ=some (q,(L,n))→Nat.beq n L.length=true→sp q L=some L'→zh cx f a σ=some (.ret (.tup []),psN L')):knows cx (stK f dec sp S).S (zh cx):=
 we hS λ a σ q r hd h=>by
  obtain ⟨q,L,n⟩:=q;obtain ⟨s,hs,h⟩:=zd h;obtain ⟨h1,h⟩:=ze h;cases h;exact hf a σ q L n s hd h1 hs
def zyb:List V→Option (D×D) | [.d (.sl 1 [x,y])]=>some (x,y) | _=>none
def qr(sp:D→D→List D→Option (List D))(p:D→List UInt8→Option Bool)(w:List UInt8→Bool)(c:D→D→Option (List D))(a:List UInt8→List D→Option (List D)):CK R1:=
 stK 88 zpk (λ q=>sp q.1 q.2) (stK 89 zx5 a (zt 90 zdw (λ q=>p q.1 q.2) mkB (zt 130 za5 (λ s=>some (w s)) mkB (zt 131 zyb (λ q=>c q.1 q.2) (λ x=>.d (.sl 1 x)) (CK.plain zn)))))
def yeb(p:D→List UInt8→Option Bool):CK R1:=zt 90 zdw (λ q=>p q.1 q.2) mkB (CK.plain zn)
def zqz(sp:D→D→List D→Option (List D)):CK R1:=stK 88 zpk (λ q=>sp q.1 q.2) (CK.plain zn)
theorem yau(sp:D→D→List D→Option (List D))(p:D→List UInt8→Option Bool)(w:List UInt8→Bool)(c:D→D→Option (List D))(a:List UInt8→List D→Option (List D))(n:Nat)(b L:List D)(nm:List UInt8)(nms:List (List UInt8))(pl:Int):zl cx (qr sp p w c a) n 88 [.d (.agg [.int .i64 1,.str nm,.sl 5 (T.ds []),.sl 1 (nms.map .str),.int .i64 pl]),.d (.sl 1 b),.func 89 [.ptr 0 0]] (psN L)=zc (p (D.sl 1 b,nm).fst (D.sl 1 b,nm).snd) λ b=>bif !b then zb (decide (nm.length≤big)) (bif !w nm then zc (a (nm,L,L.length).fst (nm,L,L.length).snd.fst) λ L'=>zb ((nm,L,L.length).snd.snd.beq (nm,L,L.length).snd.fst.length) (some (Out.ret (V.tup []),[(0,Ob.val 1 (V.sl 1 L' 1)),(1,Ob.tok L'.length)])) else some (Out.ret (V.tup []),[(0,Ob.val 1 (V.sl 1 L 1)),(1,Ob.tok L.length)])) else some (Out.ret (V.tup []),[(0,Ob.val 1 (V.sl 1 L 1)),(1,Ob.tok L.length)]):=by kernel_rfl
theorem yat(sp:D→D→List D→Option (List D))(p:D→List UInt8→Option Bool)(w:List UInt8→Bool)(c:D→D→Option (List D))(a:List UInt8→List D→Option (List D))(n:Nat)(b L:List D)(nm:List UInt8)(nms:List (List UInt8))(pl:Int)(k1:Int)(m1:List UInt8)(l1:List T)(n1:List (List UInt8))(p1:Int):zl cx (qr sp p w c a) n 88 [.d (.agg [.int .i64 2,.str nm,.sl 5 (T.ds [(T.mk k1 m1 l1 n1 p1)]),.sl 1 (nms.map .str),.int .i64 pl]),.d (.sl 1 b),.func 89 [.ptr 0 0]] (psN L)=zc (c (D.sl 1 b,D.sl 1 (List.map D.str nms)).fst (D.sl 1 b,D.sl 1 (List.map D.str nms)).snd) λ b=>zc (sp ((D.agg [D.int .i64 k1,D.str m1,D.sl 5 (T.ds l1),D.sl 1 (List.map D.str n1),D.int .i64 p1],D.sl 1 b),L,L.length).fst.fst ((D.agg [D.int .i64 k1,D.str m1,D.sl 5 (T.ds l1),D.sl 1 (List.map D.str n1),D.int .i64 p1],D.sl 1 b),L,L.length).fst.snd ((D.agg [D.int .i64 k1,D.str m1,D.sl 5 (T.ds l1),D.sl 1 (List.map D.str n1),D.int .i64 p1],D.sl 1 b),L,L.length).snd.fst) λ L'=>zb (((D.agg [D.int .i64 k1,D.str m1,D.sl 5 (T.ds l1),D.sl 1 (List.map D.str n1),D.int .i64 p1],D.sl 1 b),L,L.length).snd.snd.beq ((D.agg [D.int .i64 k1,D.str m1,D.sl 5 (T.ds l1),D.sl 1 (List.map D.str n1),D.int .i64 p1],D.sl 1 b),L,L.length).snd.fst.length) (some (Out.ret (V.tup []),[(0,Ob.val 1 (V.sl 1 L' 1)),(1,Ob.tok L'.length)])):=by kernel_rfl
theorem yar(sp:D→D→List D→Option (List D))(p:D→List UInt8→Option Bool)(w:List UInt8→Bool)(c:D→D→Option (List D))(a:List UInt8→List D→Option (List D))(n:Nat)(b L:List D)(nm:List UInt8)(nms:List (List UInt8))(pl:Int)(k1:Int)(m1:List UInt8)(l1:List T)(n1:List (List UInt8))(p1:Int)(k2:Int)(m2:List UInt8)(l2:List T)(n2:List (List UInt8))(p2:Int):zl cx (qr sp p w c a) n 88 [.d (.agg [.int .i64 4,.str nm,.sl 5 (T.ds [(T.mk k1 m1 l1 n1 p1),(T.mk k2 m2 l2 n2 p2)]),.sl 1 (nms.map .str),.int .i64 pl]),.d (.sl 1 b),.func 89 [.ptr 0 0]] (psN L)=zc (sp ((D.agg [D.int .i64 k1,D.str m1,D.sl 5 (T.ds l1),D.sl 1 (List.map D.str n1),D.int .i64 p1],D.sl 1 b),L,L.length).fst.fst ((D.agg [D.int .i64 k1,D.str m1,D.sl 5 (T.ds l1),D.sl 1 (List.map D.str n1),D.int .i64 p1],D.sl 1 b),L,L.length).fst.snd ((D.agg [D.int .i64 k1,D.str m1,D.sl 5 (T.ds l1),D.sl 1 (List.map D.str n1),D.int .i64 p1],D.sl 1 b),L,L.length).snd.fst) λ L'=>zb (((D.agg [D.int .i64 k1,D.str m1,D.sl 5 (T.ds l1),D.sl 1 (List.map D.str n1),D.int .i64 p1],D.sl 1 b),L,L.length).snd.snd.beq ((D.agg [D.int .i64 k1,D.str m1,D.sl 5 (T.ds l1),D.sl 1 (List.map D.str n1),D.int .i64 p1],D.sl 1 b),L,L.length).snd.fst.length) (zc (c (D.sl 1 b,D.sl 1 (List.map D.str nms)).fst (D.sl 1 b,D.sl 1 (List.map D.str nms)).snd) λ b=>zc (sp ((D.agg [D.int .i64 k2,D.str m2,D.sl 5 (T.ds l2),D.sl 1 (List.map D.str n2),D.int .i64 p2],D.sl 1 b),L',L'.length).fst.fst ((D.agg [D.int .i64 k2,D.str m2,D.sl 5 (T.ds l2),D.sl 1 (List.map D.str n2),D.int .i64 p2],D.sl 1 b),L',L'.length).fst.snd ((D.agg [D.int .i64 k2,D.str m2,D.sl 5 (T.ds l2),D.sl 1 (List.map D.str n2),D.int .i64 p2],D.sl 1 b),L',L'.length).snd.fst) λ L'_1=>zb (((D.agg [D.int .i64 k2,D.str m2,D.sl 5 (T.ds l2),D.sl 1 (List.map D.str n2),D.int .i64 p2],D.sl 1 b),L',L'.length).snd.snd.beq ((D.agg [D.int .i64 k2,D.str m2,D.sl 5 (T.ds l2),D.sl 1 (List.map D.str n2),D.int .i64 p2],D.sl 1 b),L',L'.length).snd.fst.length) (some (Out.ret (V.tup []),[(0,Ob.val 1 (V.sl 1 L'_1 1)),(1,Ob.tok L'_1.length)]))):=by kernel_rfl
theorem yaq(sp:D→D→List D→Option (List D))(p:D→List UInt8→Option Bool)(w:List UInt8→Bool)(c:D→D→Option (List D))(a:List UInt8→List D→Option (List D))(n:Nat)(b L:List D)(nm:List UInt8)(nms:List (List UInt8))(pl:Int)(k1:Int)(m1:List UInt8)(l1:List T)(n1:List (List UInt8))(p1:Int)(k2:Int)(m2:List UInt8)(l2:List T)(n2:List (List UInt8))(p2:Int):zl cx (qr sp p w c a) n 88 [.d (.agg [.int .i64 5,.str nm,.sl 5 (T.ds [(T.mk k1 m1 l1 n1 p1),(T.mk k2 m2 l2 n2 p2)]),.sl 1 (nms.map .str),.int .i64 pl]),.d (.sl 1 b),.func 89 [.ptr 0 0]] (psN L)=zc (sp ((D.agg [D.int .i64 k1,D.str m1,D.sl 5 (T.ds l1),D.sl 1 (List.map D.str n1),D.int .i64 p1],D.sl 1 b),L,L.length).fst.fst ((D.agg [D.int .i64 k1,D.str m1,D.sl 5 (T.ds l1),D.sl 1 (List.map D.str n1),D.int .i64 p1],D.sl 1 b),L,L.length).fst.snd ((D.agg [D.int .i64 k1,D.str m1,D.sl 5 (T.ds l1),D.sl 1 (List.map D.str n1),D.int .i64 p1],D.sl 1 b),L,L.length).snd.fst) λ L'=>zb (((D.agg [D.int .i64 k1,D.str m1,D.sl 5 (T.ds l1),D.sl 1 (List.map D.str n1),D.int .i64 p1],D.sl 1 b),L,L.length).snd.snd.beq ((D.agg [D.int .i64 k1,D.str m1,D.sl 5 (T.ds l1),D.sl 1 (List.map D.str n1),D.int .i64 p1],D.sl 1 b),L,L.length).snd.fst.length) (zc (c (D.sl 1 b,D.sl 1 (List.map D.str nms)).fst (D.sl 1 b,D.sl 1 (List.map D.str nms)).snd) λ b=>zc (sp ((D.agg [D.int .i64 k2,D.str m2,D.sl 5 (T.ds l2),D.sl 1 (List.map D.str n2),D.int .i64 p2],D.sl 1 b),L',L'.length).fst.fst ((D.agg [D.int .i64 k2,D.str m2,D.sl 5 (T.ds l2),D.sl 1 (List.map D.str n2),D.int .i64 p2],D.sl 1 b),L',L'.length).fst.snd ((D.agg [D.int .i64 k2,D.str m2,D.sl 5 (T.ds l2),D.sl 1 (List.map D.str n2),D.int .i64 p2],D.sl 1 b),L',L'.length).snd.fst) λ L'_1=>zb (((D.agg [D.int .i64 k2,D.str m2,D.sl 5 (T.ds l2),D.sl 1 (List.map D.str n2),D.int .i64 p2],D.sl 1 b),L',L'.length).snd.snd.beq ((D.agg [D.int .i64 k2,D.str m2,D.sl 5 (T.ds l2),D.sl 1 (List.map D.str n2),D.int .i64 p2],D.sl 1 b),L',L'.length).snd.fst.length) (some (Out.ret (V.tup []),[(0,Ob.val 1 (V.sl 1 L'_1 1)),(1,Ob.tok L'_1.length)]))):=by kernel_rfl
theorem yao(sp:D→D→List D→Option (List D))(p:D→List UInt8→Option Bool)(w:List UInt8→Bool)(c:D→D→Option (List D))(a:List UInt8→List D→Option (List D))(n:Nat)(b L:List D)(nm:List UInt8)(nms:List (List UInt8))(pl:Int)(k1:Int)(m1:List UInt8)(l1:List T)(n1:List (List UInt8))(p1:Int)(k2:Int)(m2:List UInt8)(l2:List T)(n2:List (List UInt8))(p2:Int):zl cx (qr sp p w c a) n 88 [.d (.agg [.int .i64 7,.str nm,.sl 5 (T.ds [(T.mk k1 m1 l1 n1 p1),(T.mk k2 m2 l2 n2 p2)]),.sl 1 (nms.map .str),.int .i64 pl]),.d (.sl 1 b),.func 89 [.ptr 0 0]] (psN L)=zc (sp ((D.agg [D.int .i64 k1,D.str m1,D.sl 5 (T.ds l1),D.sl 1 (List.map D.str n1),D.int .i64 p1],D.sl 1 b),L,L.length).fst.fst ((D.agg [D.int .i64 k1,D.str m1,D.sl 5 (T.ds l1),D.sl 1 (List.map D.str n1),D.int .i64 p1],D.sl 1 b),L,L.length).fst.snd ((D.agg [D.int .i64 k1,D.str m1,D.sl 5 (T.ds l1),D.sl 1 (List.map D.str n1),D.int .i64 p1],D.sl 1 b),L,L.length).snd.fst) λ L'=>zb (((D.agg [D.int .i64 k1,D.str m1,D.sl 5 (T.ds l1),D.sl 1 (List.map D.str n1),D.int .i64 p1],D.sl 1 b),L,L.length).snd.snd.beq ((D.agg [D.int .i64 k1,D.str m1,D.sl 5 (T.ds l1),D.sl 1 (List.map D.str n1),D.int .i64 p1],D.sl 1 b),L,L.length).snd.fst.length) (some (Out.ret (V.tup []),[(0,Ob.val 1 (V.sl 1 L' 1)),(1,Ob.tok L'.length)])):=by kernel_rfl
theorem z67(sp:D→D→List D→Option (List D))(p:D→List UInt8→Option Bool)(w:List UInt8→Bool)(c:D→D→Option (List D))(a:List UInt8→List D→Option (List D))(n:Nat)(b L:List D)(nm:List UInt8)(nms:List (List UInt8))(pl:Int)(x:T)(kids:List T):zl cx (qr sp p w c a) n 88 [.d (.agg [.int .i64 11,.str nm,.sl 5 (T.ds (x::kids)),.sl 1 (nms.map .str),.int .i64 pl]),.d (.sl 1 b),.func 89 [.ptr 0 0]] (psN L)=zb (decide ((1:Int)≤(↑(x.d::T.ds kids).length:Int))) (LP cx (qr sp p w c a) n 88 2 20 n [(1,V.d (D.sl 1 b)),(2,V.func 89 [V.ptr 0 0]),(88,V.d (D.sl 5 (List.drop (1:Int).toNat (List.take (x.d::T.ds kids).length (x.d::T.ds kids))))),(89,V.d (D.int .i64 (↑(List.drop (1:Int).toNat (List.take (x.d::T.ds kids).length (x.d::T.ds kids))).length:Int))),(90,V.d (D.int .i64 (0:Int)))] [(0,Ob.val 1 (V.sl 1 L 1)),(1,Ob.tok L.length)] (AK cx (qr sp p w c a) n 88 2 20 (EK cx 88 2))):=by kernel_rfl
theorem yas(sp:D→D→List D→Option (List D))(p:D→List UInt8→Option Bool)(w:List UInt8→Bool)(c:D→D→Option (List D))(a:List UInt8→List D→Option (List D))(n:Nat)(b L:List D)(nm:List UInt8)(nms:List (List UInt8))(pl:Int)(kids:List T):zl cx (qr sp p w c a) n 88 [.d (.agg [.int .i64 3,.str nm,.sl 5 (T.ds kids),.sl 1 (nms.map .str),.int .i64 pl]),.d (.sl 1 b),.func 89 [.ptr 0 0]] (psN L)=LP cx (qr sp p w c a) n 88 2 3 n [(1,V.d (D.sl 1 b)),(2,V.func 89 [V.ptr 0 0]),(13,V.d (D.sl 5 (T.ds kids))),(14,V.d (D.int .i64 (↑(T.ds kids).length:Int))),(15,V.d (D.int .i64 (0:Int)))] [(0,Ob.val 1 (V.sl 1 L 1)),(1,Ob.tok L.length)] (AK cx (qr sp p w c a) n 88 2 3 (EK cx 88 2)):=by kernel_rfl
theorem yap(sp:D→D→List D→Option (List D))(p:D→List UInt8→Option Bool)(w:List UInt8→Bool)(c:D→D→Option (List D))(a:List UInt8→List D→Option (List D))(n:Nat)(b L:List D)(nm:List UInt8)(nms:List (List UInt8))(pl:Int)(kids:List T):zl cx (qr sp p w c a) n 88 [.d (.agg [.int .i64 6,.str nm,.sl 5 (T.ds kids),.sl 1 (nms.map .str),.int .i64 pl]),.d (.sl 1 b),.func 89 [.ptr 0 0]] (psN L)=LP cx (qr sp p w c a) n 88 2 3 n [(1,V.d (D.sl 1 b)),(2,V.func 89 [V.ptr 0 0]),(13,V.d (D.sl 5 (T.ds kids))),(14,V.d (D.int .i64 (↑(T.ds kids).length:Int))),(15,V.d (D.int .i64 (0:Int)))] [(0,Ob.val 1 (V.sl 1 L 1)),(1,Ob.tok L.length)] (AK cx (qr sp p w c a) n 88 2 3 (EK cx 88 2)):=by kernel_rfl
theorem yan(sp:D→D→List D→Option (List D))(p:D→List UInt8→Option Bool)(w:List UInt8→Bool)(c:D→D→Option (List D))(a:List UInt8→List D→Option (List D))(n:Nat)(b L:List D)(nm:List UInt8)(nms:List (List UInt8))(pl:Int)(kids:List T):zl cx (qr sp p w c a) n 88 [.d (.agg [.int .i64 8,.str nm,.sl 5 (T.ds kids),.sl 1 (nms.map .str),.int .i64 pl]),.d (.sl 1 b),.func 89 [.ptr 0 0]] (psN L)=LP cx (qr sp p w c a) n 88 2 3 n [(1,V.d (D.sl 1 b)),(2,V.func 89 [V.ptr 0 0]),(13,V.d (D.sl 5 (T.ds kids))),(14,V.d (D.int .i64 (↑(T.ds kids).length:Int))),(15,V.d (D.int .i64 (0:Int)))] [(0,Ob.val 1 (V.sl 1 L 1)),(1,Ob.tok L.length)] (AK cx (qr sp p w c a) n 88 2 3 (EK cx 88 2)):=by kernel_rfl
theorem yam(sp:D→D→List D→Option (List D))(p:D→List UInt8→Option Bool)(w:List UInt8→Bool)(c:D→D→Option (List D))(a:List UInt8→List D→Option (List D))(n:Nat)(b L:List D)(nm:List UInt8)(nms:List (List UInt8))(pl:Int)(kids:List T):zl cx (qr sp p w c a) n 88 [.d (.agg [.int .i64 9,.str nm,.sl 5 (T.ds kids),.sl 1 (nms.map .str),.int .i64 pl]),.d (.sl 1 b),.func 89 [.ptr 0 0]] (psN L)=LP cx (qr sp p w c a) n 88 2 3 n [(1,V.d (D.sl 1 b)),(2,V.func 89 [V.ptr 0 0]),(13,V.d (D.sl 5 (T.ds kids))),(14,V.d (D.int .i64 (↑(T.ds kids).length:Int))),(15,V.d (D.int .i64 (0:Int)))] [(0,Ob.val 1 (V.sl 1 L 1)),(1,Ob.tok L.length)] (AK cx (qr sp p w c a) n 88 2 3 (EK cx 88 2)):=by kernel_rfl
theorem z68(sp:D→D→List D→Option (List D))(p:D→List UInt8→Option Bool)(w:List UInt8→Bool)(c:D→D→Option (List D))(a:List UInt8→List D→Option (List D))(n:Nat)(b L:List D)(nm:List UInt8)(nms:List (List UInt8))(pl:Int)(kids:List T):zl cx (qr sp p w c a) n 88 [.d (.agg [.int .i64 10,.str nm,.sl 5 (T.ds kids),.sl 1 (nms.map .str),.int .i64 pl]),.d (.sl 1 b),.func 89 [.ptr 0 0]] (psN L)=LP cx (qr sp p w c a) n 88 2 3 n [(1,V.d (D.sl 1 b)),(2,V.func 89 [V.ptr 0 0]),(13,V.d (D.sl 5 (T.ds kids))),(14,V.d (D.int .i64 (↑(T.ds kids).length:Int))),(15,V.d (D.int .i64 (0:Int)))] [(0,Ob.val 1 (V.sl 1 L 1)),(1,Ob.tok L.length)] (AK cx (qr sp p w c a) n 88 2 3 (EK cx 88 2)):=by kernel_rfl
theorem yfs(sp:D→D→List D→Option (List D))(p:D→List UInt8→Option Bool)(w:List UInt8→Bool)(c:D→D→Option (List D))(a:List UInt8→List D→Option (List D))(n k:Nat)(b L:List D)(kids:List T)(i:Int):LP cx (qr sp p w c a) n 88 2 3 (k+1) [(1,V.d (D.sl 1 b)),(2,V.func 89 [V.ptr 0 0]),(13,V.d (D.sl 5 (T.ds kids))),(14,V.d (D.int .i64 (kids.length:Int))),(15,V.d (D.int .i64 i))] [(0,Ob.val 1 (V.sl 1 L 1)),(1,Ob.tok L.length)] (AK cx (qr sp p w c a) n 88 2 3 (EK cx 88 2))=bif decide (i<(↑kids.length:Int)) then zb (decide (0≤i)&&decide (i<(↑(T.ds kids).length:Int))) (za (T.ds kids) i.toNat λ y=>za y.cells 0 λ c_1=>za y.cells 1 λ c_2=>za y.cells 2 λ c_3=>za y.cells 3 λ c_4=>za y.cells 4 λ c_5=>zc (sp ((D.agg [c_1,c_2,c_3,c_4,c_5],D.sl 1 b),L,L.length).fst.fst ((D.agg [c_1,c_2,c_3,c_4,c_5],D.sl 1 b),L,L.length).fst.snd ((D.agg [c_1,c_2,c_3,c_4,c_5],D.sl 1 b),L,L.length).snd.fst) λ L'=>zb (((D.agg [c_1,c_2,c_3,c_4,c_5],D.sl 1 b),L,L.length).snd.snd.beq ((D.agg [c_1,c_2,c_3,c_4,c_5],D.sl 1 b),L,L.length).snd.fst.length) (LP cx (qr sp p w c a) n 88 2 3 k [(1,V.d (D.sl 1 b)),(2,V.func 89 [V.ptr 0 0]),(13,V.d (D.sl 5 (T.ds kids))),(14,V.d (D.int .i64 (↑kids.length:Int))),(15,V.d (D.int .i64 (IntKind.i64.wrap (i+(1:Int)))))] [(0,Ob.val 1 (V.sl 1 L' 1)),(1,Ob.tok L'.length)] (AK cx (qr sp p w c a) n 88 2 3 (EK cx 88 2)))) else some (Out.ret (V.tup []),[(0,Ob.val 1 (V.sl 1 L 1)),(1,Ob.tok L.length)]):=by kernel_rfl
theorem ydm(sp:D→D→List D→Option (List D))(p:D→List UInt8→Option Bool)(w:List UInt8→Bool)(c:D→D→Option (List D))(a:List UInt8→List D→Option (List D))(n k:Nat)(b L:List D)(kids:List T)(i:Int):LP cx (qr sp p w c a) n 88 2 20 (k+1) [(1,V.d (D.sl 1 b)),(2,V.func 89 [V.ptr 0 0]),(88,V.d (D.sl 5 (T.ds kids))),(89,V.d (D.int .i64 (kids.length:Int))),(90,V.d (D.int .i64 i))] [(0,Ob.val 1 (V.sl 1 L 1)),(1,Ob.tok L.length)] (AK cx (qr sp p w c a) n 88 2 20 (EK cx 88 2))=bif decide (i<(↑kids.length:Int)) then zb (decide (0≤i)&&decide (i<(↑(T.ds kids).length:Int))) (za (T.ds kids) i.toNat λ y=>za y.cells 0 λ c_1=>za y.cells 1 λ c_2=>za y.cells 2 λ c_3=>za y.cells 3 λ c_4=>za y.cells 4 λ c_5=>zc (sp ((D.agg [c_1,c_2,c_3,c_4,c_5],D.sl 1 b),L,L.length).fst.fst ((D.agg [c_1,c_2,c_3,c_4,c_5],D.sl 1 b),L,L.length).fst.snd ((D.agg [c_1,c_2,c_3,c_4,c_5],D.sl 1 b),L,L.length).snd.fst) λ L'=>zb (((D.agg [c_1,c_2,c_3,c_4,c_5],D.sl 1 b),L,L.length).snd.snd.beq ((D.agg [c_1,c_2,c_3,c_4,c_5],D.sl 1 b),L,L.length).snd.fst.length) (LP cx (qr sp p w c a) n 88 2 20 k [(1,V.d (D.sl 1 b)),(2,V.func 89 [V.ptr 0 0]),(88,V.d (D.sl 5 (T.ds kids))),(89,V.d (D.int .i64 (↑kids.length:Int))),(90,V.d (D.int .i64 (IntKind.i64.wrap (i+(1:Int)))))] [(0,Ob.val 1 (V.sl 1 L' 1)),(1,Ob.tok L'.length)] (AK cx (qr sp p w c a) n 88 2 20 (EK cx 88 2)))) else some (Out.ret (V.tup []),[(0,Ob.val 1 (V.sl 1 L 1)),(1,Ob.tok L.length)]):=by kernel_rfl
theorem yd1(p:D→List UInt8→Option Bool)(n:Nat)(L:List D)(s:List UInt8):zl cx (yeb p) n 89 [.d (.str s),.ptr 0 0] (psN L)=zc (p (D.sl 1 L,s).fst (D.sl 1 L,s).snd) λ b=>bif !b then zb (decide (L.length=L.length)&&decide (L.length+[D.str s].length≤4294967296)) (some (Out.ret (V.tup []),[(0,Ob.val 1 (V.sl 1 (L++[D.str s]) 1)),(1,Ob.tok (L.length+[D.str s].length))])) else some (Out.ret (V.tup []),[(0,Ob.val 1 (V.sl 1 L 1)),(1,Ob.tok L.length)]):=by kernel_rfl
theorem yf0(sp:D→D→List D→Option (List D))(n:Nat)(l:List T):zl cx (zqz sp) n 52 [.d (.sl 5 (T.ds l))] []=LP cx (zqz sp) n 52 0 3 n [(3,V.ptr 3 0),(6,V.d (D.sl 5 (T.ds l))),(7,V.d (D.int .i64 (↑(T.ds l).length:Int))),(8,V.d (D.int .i64 (0:Int)))] [(3,Ob.val 1 (V.sl 1 [] 20)),(20,Ob.tok 0)] (AK cx (zqz sp) n 52 0 3 (EK cx 52 0)):=by kernel_rfl
theorem ydo(sp:D→D→List D→Option (List D))(n k:Nat)(l:List T)(L:List D)(i:Int):LP cx (zqz sp) n 52 0 3 (k+1) [(3,V.ptr 3 0),(6,V.d (D.sl 5 (T.ds l))),(7,V.d (D.int .i64 (l.length:Int))),(8,V.d (D.int .i64 i))] [(3,Ob.val 1 (V.sl 1 L 20)),(20,Ob.tok L.length)] (AK cx (zqz sp) n 52 0 3 (EK cx 52 0))=bif decide (i<(↑l.length:Int)) then zb (decide (0≤i)&&decide (i<(↑(T.ds l).length:Int))) (za (T.ds l) i.toNat λ y=>za y.cells 0 λ c=>za y.cells 1 λ c_1=>za y.cells 2 λ c_2=>za y.cells 3 λ c_3=>za y.cells 4 λ c_4=>zc (sp ((D.agg [c,c_1,c_2,c_3,c_4],D.sl 1 []),L,L.length).fst.fst ((D.agg [c,c_1,c_2,c_3,c_4],D.sl 1 []),L,L.length).fst.snd ((D.agg [c,c_1,c_2,c_3,c_4],D.sl 1 []),L,L.length).snd.fst) λ L'=>zb (((D.agg [c,c_1,c_2,c_3,c_4],D.sl 1 []),L,L.length).snd.snd.beq ((D.agg [c,c_1,c_2,c_3,c_4],D.sl 1 []),L,L.length).snd.fst.length) (LP cx (zqz sp) n 52 0 3 k [(3,V.ptr 3 0),(6,V.d (D.sl 5 (T.ds l))),(7,V.d (D.int .i64 (↑l.length:Int))),(8,V.d (D.int .i64 (IntKind.i64.wrap (i+(1:Int)))))] [(3,Ob.val 1 (V.sl 1 L' 20)),(20,Ob.tok L'.length)] (AK cx (zqz sp) n 52 0 3 (EK cx 52 0)))) else some (Out.ret (V.d (D.sl 1 L)),[]):=by kernel_rfl
theorem yd0(p:D→List UInt8→Option Int)(n:Nat)(l:List D)(s:List UInt8):zl cx (zt 132 zdw (λ q=>p q.1 q.2) mkI (CK.plain zn)) n 90 [.d (.sl 1 l),.d (.str s)] []=zc (p (.sl 1 l) s) λ b=>some (.ret (.d (.bool (decide ((0:Int)≤b)))),[]):=by kernel_rfl
theorem ye1(l:List (List UInt8))(s:List UInt8)(hl:yd l=true):zh cx 90 [.d (.sl 1 (l.map .str)),.d (.str s)] []=some (.ret (mkB (Sp.mem s l)),[]):=by
 have hk:knows cx (zt 132 zdw (λ q=>(λ (x:D) s=>zc (zbk x) λ l=>some (y8 (λ x=>decide (s=x)) l)) q.1 q.2) mkI (CK.plain zn)).S (zh cx):=zj zm λ a q b hd h hb=>by
  obtain rfl:=zes h;obtain ⟨l,hl,hb⟩:=zd hb;cases hb;obtain ⟨h1,h2⟩:=za1 hl;rw [h1];exact ye5 l q.2 h2
 refine zk hk (N:=0) ?_;refine (yd0 (λ (x:D) s=>zc (zbk x) λ l=>some (y8 (λ x=>decide (s=x)) l)) 0 _ s).trans ?_;rw [zc0 hl];show some (Out.ret (mkB (decide ((0:Int)≤y8 (λ x=>decide (s=x)) l))),[])=_;rw [zgy];have:(l.any λ x=>decide (s=x))=Sp.mem s l:=by
  unfold Sp.mem;congr 1;funext x;by_cases h:s=x
  ·subst h; rfl
  ·rw [pb h,pb (λ e=>h e.symm)]
 rw [this]
def p90(x:D)(s:List UInt8):Option Bool:=zc (zbk x) λ l=>some (Sp.mem s l)
theorem zri{f:List V}{q:D×List UInt8}{b:Bool}(h:zdw f=some q)(hb:p90 q.1 q.2=some b):zh cx 90 f []=some (.ret (mkB b),[]):=by
 obtain rfl:=zes h;obtain ⟨l,hl,hb⟩:=zd hb;cases hb;obtain ⟨h1,h2⟩:=za1 hl;rw [h1];exact ye1 l q.2 h2
theorem m89(l:List (List UInt8))(s:List UInt8)(hl:l.length+1<4294967296):zh cx 89 [.d (.str s),.ptr 0 0] (psN (l.map .str))=some (.ret (.tup []),psN ((Sp.put l s).map .str)):=by
 have hk:knows cx (yeb p90).S (zh cx):=zj zm λ a q b hd h hb=>zri h hb;refine zk hk (N:=0) ?_;rw [yd1];show zc (p90 (.sl 1 (l.map .str)) s) _=_;unfold p90;rw [zc0 (pa (by omega))]
 unfold Sp.put;show (bif !Sp.mem s l then _ else _)=_;cases Sp.mem s l
 ·simp only [Bool.not_false,cond_true,cond_false];rw [pa (p:=(l.map D.str).length+[D.str s].length≤4294967296) (by simp only [pf,List.length_cons,List.length_nil]; omega)]
  simp only [zb,decide_true,Bool.and_self,cond_true,psN,List.map_append,List.map_cons,List.map_nil,pe]
 ·rfl
mutual
def xb:T→List (List UInt8)→List (List UInt8)→List (List UInt8)
 | .mk k nm kids nms _,b,acc=>bif decide (k=1) then (bif Sp.mem nm b||Sp.word nm then acc else Sp.put acc nm) else vl kids k nms b 0 acc
def vl:List T→Int→List (List UInt8)→List (List UInt8)→Nat→List (List UInt8)→List (List UInt8)
 | [],_,_,_,_,acc=>acc
 | t::r,k,nms,b,i,acc=>vl r k nms b (i+1)
   (bif (decide (k=7)&&decide (i=1))||(decide (k=11)&&decide (i=0)) then acc
    else xb t (bif decide (k=2)||(decide (i=1)&&(decide (k=4)||decide (k=5))) then b++nms else b) acc)
end
mutual
def Sp.cnt:T→Nat
 | .mk _ _ kids nms _=>1+nms.length+xg kids
def xg:List T→Nat
 | []=>0
 | t::l=>Sp.cnt t+xg l
end
theorem z56(l:List (List UInt8))(s:List UInt8):(Sp.put l s).length≤l.length+1:=by
 unfold Sp.put;cases Sp.mem s l <;> simp
mutual
theorem zff:∀ (t:T) (b acc:List (List UInt8)),(xb t b acc).length≤acc.length+Sp.cnt t
 | .mk k nm kids nms _,b,acc=>by
  unfold xb;have h1:=zvq kids k nms b 0 acc;have h2:=z56 acc nm;unfold Sp.cnt;cases decide (k=1)
  ·simp only [cond_false]; omega
  ·simp only [cond_true];cases Sp.mem nm b||Sp.word nm
   ·simp only [cond_false]; omega
   ·simp only [cond_true]; omega
theorem zvq:∀ (l:List T) (k:Int) (nms b:List (List UInt8)) (i:Nat) (acc:List (List UInt8)),(vl l k nms b i acc).length≤acc.length+xg l
 | [],k,nms,b,i,acc=>by simp [vl]
 | t::r,k,nms,b,i,acc=>by
  unfold vl xg;refine Nat.le_trans (zvq r k nms b (i+1) _) ?_;cases (decide (k=7)&&decide (i=1))||(decide (k=11)&&decide (i=0))
  ·simp only [cond_false];have:=zff t (bif decide (k=2)||(decide (i=1)&&(decide (k=4)||decide (k=5))) then b++nms else b) acc
   omega
  ·simp only [cond_true]; omega
end
def xk(b acc:List (List UInt8))(l:List T):List (List UInt8):=l.foldl (λ a t=>xb t b a) acc
theorem z38{k:Int}{nms b:List (List UInt8)}(h2:k ≠ 2)(h4:k ≠ 4)(h5:k ≠ 5)(h7:k ≠ 7)(h11:k ≠ 11):∀ (l:List T) (i:Nat) (acc:List (List UInt8)),vl l k nms b i acc=xk b acc l
 | [],i,acc=>by simp [vl,xk]
 | t::r,i,acc=>by
  unfold vl;rw [pb h2,pb h4,pb h5,pb h7,pb h11];simp only [Bool.false_and,Bool.or_false,Bool.and_false,cond_false];exact z38 h2 h4 h5 h7 h11 r (i+1) _
theorem z36{nms b:List (List UInt8)}:∀ (l:List T) (i:Nat) (acc:List (List UInt8)),0<i→vl l 11 nms b i acc=xk b acc l
 | [],i,acc,_=>by simp [vl,xk]
 | t::r,i,acc,hi=>by
  unfold vl;rw [pb (p:=i=0) (by omega),show decide ((11:Int)=7)=false from rfl,show decide ((11:Int)=2)=false from rfl,show decide ((11:Int)=4)=false from rfl,show decide ((11:Int)=5)=false from rfl]
  simp only [Bool.false_and,Bool.or_false,Bool.and_false,cond_false];exact z36 r (i+1) _ (Nat.succ_pos _)
theorem zf3{R α S:Type}(L:Nat→Int→S→Option R)(xs:List α)(step:S→α→S)(I:Nat→S→Prop)(E:S→Option R)(hs:xs.length<4294967296)
  (H:∀ (k j:Nat) x s,j<xs.length→xs[j]?=some x→I j s→L (k+1) j s=L k (IntKind.i64.wrap ((j:Int)+1)) (step s x)∧I (j+1) (step s x)) (HE:∀ k s,L (k+1) xs.length s=E s) {s:S} (h0:I 0 s) {k:Nat} (hk:xs.length<k) :
  L k 0 s=E (xs.foldl step s):=by
 have key:∀ (d j:Nat) (k:Nat) (s:S),j+d=xs.length→d<k→I j s→L k j s=E ((xs.drop j).foldl step s):=by
  intro d
  induction d with
  | zero=>
   intro j k s hj hk hi;obtain ⟨k,rfl⟩:∃ k',k=k'+1:=⟨k - 1,by omega⟩
   obtain rfl:j=xs.length:=by omega
   rw [HE,List.drop_length]; rfl
  | succ d ih=>
   intro j k s hj hk hi;obtain ⟨k,rfl⟩:∃ k',k=k'+1:=⟨k - 1,by omega⟩
   have hlt:j<xs.length:=by omega
   obtain ⟨h1,h2⟩:=H k j xs[j] s hlt (pr hlt) hi;rw [h1,IntWalk.i64_in _ (by omega)]
   have e:((j:Int)+1)=((j+1:Nat):Int):=by omega
   rw [e,ih (j+1) k _ (by omega) (by omega) h2,List.drop_eq_getElem_cons hlt]
   rfl
 have:=key xs.length 0 k s (by omega) hk h0
 rw [List.drop_zero] at this;exact this
def okG(t:T)(b l:List (List UInt8)):Bool:=(Sp.right t||Sp.elem t)&&decide (b.length+Sp.cnt t<2147483648)&&decide (l.length+Sp.cnt t<2147483648)
def zat(m:Nat)(x y:D)(L:List D):Option (List D):=zc (zg m x) λ t=>zc (zbk y) λ b=>zc (strsOf L) λ l=>zb (okG t b l) (some ((xb t b l).map .str))
def zdm(x y:D):Option (List D):=zc (zbk x) λ a=>zc (zbk y) λ b=>zb (decide (a.length+b.length<4294967296)) (some ((a++b).map .str))
def a89(s:List UInt8)(L:List D):Option (List D):=zc (strsOf L) λ l=>zb (decide (l.length+1<4294967296)) (some ((Sp.put l s).map .str))
theorem zwd{a:List V}{σ:St}{q L n}(h:zpk a σ=some (q,(L,n))):a=[.d q.1,.d q.2,.func 89 [.ptr 0 0]]∧pdN σ=some (L,n):=by
 unfold zpk at h;split at h
 ·obtain ⟨p,hp,h⟩:=zd h;cases h;exact ⟨rfl,hp⟩
 ·cases h
theorem zwc{a:List V}{σ:St}{q L n}(h:zx5 a σ=some (q,(L,n))):a=[.d (.str q),.ptr 0 0]∧pdN σ=some (L,n):=by
 unfold zx5 at h;split at h
 ·obtain ⟨p,hp,h⟩:=zd h;cases h;exact ⟨rfl,hp⟩
 ·cases h
theorem zwg{a:List V}{q}(h:zyb a=some q):a=[.d (.sl 1 [q.1,q.2])]:=by
 unfold zyb at h; split at h <;> cases h; rfl
def ztn(m:Nat):Prop:=∀ (t:T) (b l:List (List UInt8)),t.depth≤m→t.ok=true→okG t b l=true→zh cx 88 [.d t.d,.d (.sl 1 (b.map .str)),.func 89 [.ptr 0 0]] (psN (l.map .str))=some (.ret (.tup []),psN ((xb t b l).map .str))
theorem zn0{m:Nat}(hm:ztn m){S:CK R1}(hS:knows cx S.S (zh cx)):knows cx (stK 88 zpk (λ q=>zat m q.1 q.2) S).S (zh cx):=zq9 hS λ a σ q L n L' hd hn h=>by
 obtain ⟨rfl,hp⟩:=zwd hd;obtain ⟨t,ht,h⟩:=zd h;obtain ⟨b,hb,h⟩:=zd h;obtain ⟨l,hl,h⟩:=zd h;obtain ⟨ho,h⟩:=ze h;cases h;obtain ⟨h1,h2,h3⟩:=y5 ht;rw [h1,(za1 hb).1,zu1 hp hn,ze6 hl];exact hm t b l h2 h3 ho
theorem z11{m:Nat}(hm:ztn m):knows cx (qr (zat m) p90 Sp.word zdm a89).S (zh cx):=
 zn0 hm <| zq9 (zj (zj (zj zm λ a q b hd h hb=>by
   obtain rfl:=zwg h;obtain ⟨x,hx,hb⟩:=zd hb;obtain ⟨y,hy,hb⟩:=zd hb;obtain ⟨h1,hb⟩:=ze hb;cases hb;have:=pc h1;rw [(za1 hx).1,(za1 hy).1];exact ye6 x y (by omega)) λ a q b hd h hb=>by
   cases hb;obtain rfl:=vm h;exact ye7 q) λ a q b hd h hb=>zri h hb) λ a σ q L n L' hd hn h=>by
  obtain ⟨rfl,hp⟩:=zwc hd;obtain ⟨l,hl,h⟩:=zd h;obtain ⟨ho,h⟩:=ze h;cases h;rw [zu1 hp hn,ze6 hl];exact m89 l q (pc ho)
theorem zin{m:Nat}{t:T}{b l:List (List UInt8)}(hd:t.depth≤m)(ho:t.ok=true)(h:okG t b l=true):zat m t.d (.sl 1 (b.map .str)) (l.map .str)=some ((xb t b l).map .str):=by
 have hb:yd b=true:=by
  unfold okG at h;rw [ph,ph] at h;have:=pc h.1.2;exact pa (by omega)
 unfold zat;rw [zdu hd ho,zc0 hb,zgf];show zb (okG t b l) _=_;rw [h];rfl
theorem zbr{t:T}{b l:List (List UInt8)}:okG t b l=true↔(Sp.right t||Sp.elem t)=true∧b.length+Sp.cnt t<2147483648∧l.length+Sp.cnt t<2147483648:=by
 unfold okG;rw [ph,ph,decide_eq_true_eq,decide_eq_true_eq,and_assoc]
theorem z3k{m:Nat}(n:Nat)(b acc:List (List UInt8))(kids:List T)(hk:kids.length<n)(hs:yd kids=true)(hd:∀ t∈kids,t.depth≤m∧t.ok=true∧(Sp.right t||Sp.elem t)=true)
  (hb:b.length+xg kids<2147483648) (ha:acc.length+xg kids<2147483648) (blk:Nat) (v1 v2 v3:Nat)
  (HL:∀ (k:Nat) (L:List D) (i:Int),(λ (k:Nat) (i:Int) (L:List D)=>LP cx (qr (zat m) p90 Sp.word zdm a89) n 88 2 blk k [(1,V.d (D.sl 1 (b.map .str))),(2,V.func 89 [V.ptr 0 0]),(v1,V.d (D.sl 5 (T.ds kids))),(v2,V.d (D.int .i64 (kids.length:Int))),(v3,V.d (D.int .i64 i))] [(0,Ob.val 1 (V.sl 1 L 1)),(1,Ob.tok L.length)] (AK cx (qr (zat m) p90 Sp.word zdm a89) n 88 2 blk (EK cx 88 2))) (k+1) i L =
   bif decide (i<(kids.length:Int)) then zb (decide (0≤i)&&decide (i<((T.ds kids).length:Int))) (za (T.ds kids) i.toNat λ y=>
    za y.cells 0 λ c_1=>za y.cells 1 λ c_2=>za y.cells 2 λ c_3=>za y.cells 3 λ c_4=>za y.cells 4 λ c_5=>
     zc (zat m (D.agg [c_1,c_2,c_3,c_4,c_5]) (D.sl 1 (b.map .str)) L) λ L'=>zb (L.length.beq L.length)
      ((λ (k:Nat) (i:Int) (L:List D)=>LP cx (qr (zat m) p90 Sp.word zdm a89) n 88 2 blk k [(1,V.d (D.sl 1 (b.map .str))),(2,V.func 89 [V.ptr 0 0]),(v1,V.d (D.sl 5 (T.ds kids))),(v2,V.d (D.int .i64 (kids.length:Int))),(v3,V.d (D.int .i64 i))] [(0,Ob.val 1 (V.sl 1 L 1)),(1,Ob.tok L.length)] (AK cx (qr (zat m) p90 Sp.word zdm a89) n 88 2 blk (EK cx 88 2))) k (IntKind.i64.wrap (i+1)) L'))
   else some (Out.ret (V.tup []),[(0,Ob.val 1 (V.sl 1 L 1)),(1,Ob.tok L.length)])) :
  LP cx (qr (zat m) p90 Sp.word zdm a89) n 88 2 blk n [(1,V.d (D.sl 1 (b.map .str))),(2,V.func 89 [V.ptr 0 0]),(v1,V.d (D.sl 5 (T.ds kids))),(v2,V.d (D.int .i64 (kids.length:Int))),(v3,V.d (D.int .i64 0))] (psN (acc.map .str)) (AK cx (qr (zat m) p90 Sp.word zdm a89) n 88 2 blk (EK cx 88 2)) =
   some (.ret (.tup []),psN ((xk b acc kids).map .str)):=by
 have h:=zf3 (λ k i (l:List (List UInt8))=>LP cx (qr (zat m) p90 Sp.word zdm a89) n 88 2 blk k [(1,V.d (D.sl 1 (b.map .str))),(2,V.func 89 [V.ptr 0 0]),(v1,V.d (D.sl 5 (T.ds kids))),(v2,V.d (D.int .i64 (kids.length:Int))),(v3,V.d (D.int .i64 i))] [(0,Ob.val 1 (V.sl 1 (l.map .str) 1)),(1,Ob.tok (l.map D.str).length)] (AK cx (qr (zat m) p90 Sp.word zdm a89) n 88 2 blk (EK cx 88 2)))
  kids (λ a t=>xb t b a) (λ j l=>l.length+xg (kids.drop j)<2147483648) (λ l=>some (.ret (.tup []),psN (l.map .str))) (yh hs)
  (λ k j x l hj hx hi=>by
   have hmem:=po hx;obtain ⟨h1,h2,h3⟩:=hd x hmem;have hdr:kids.drop j=x::kids.drop (j+1):=by
    have:=List.drop_eq_getElem_cons hj;rw [pr hj] at hx;cases hx;exact this
   have hc:∀ {l:List T},x∈l→Sp.cnt x≤xg l:=by
    intro l
    induction l with
    | nil=>intro h; cases h
    | cons y r ih=>
     intro h;simp only [xg];cases h with
     | head=>omega
     | tail _ h=>have:=ih h; omega
   have hc:=hc hmem;rw [hdr] at hi;simp only [xg] at hi;have hg:=zff x b l;refine ⟨?_,by omega⟩
   refine (HL k (l.map .str) j).trans ?_;rw [z6 hj,zo,z6 hj,yy,zz,pm,hx];show za x.d.cells 0 _=_;rw [yb];simp only [xo,wz,vc,vb,va,wj];rw [zin h1 h2 (zbr.2 ⟨h3,by omega,by omega⟩)]
   show zb _ _=_;rw [Nat.beq_refl];rfl)
  (λ k l=>by
   refine (HL k (l.map .str) kids.length).trans ?_;rw [yj,cond_false];rfl) (s:=acc) (by rw [List.drop_zero]; exact ha) hk
 exact h
inductive Shp (k:Int) (kids:List T):Prop
 | nam (h:k=1) (e:kids=[])
 | lam (h:k=2) {a:T} (e:kids=[a]) (ha:Sp.right a=true)
 | all (h:k=3∨k=6∨k=8∨k=9∨k=10) (ha:∀ t∈kids,(Sp.right t||Sp.elem t)=true)
 | pi (h:k=4∨k=5) {a b:T} (e:kids=[a,b]) (ha:Sp.right a=true) (hb:Sp.right b=true)
 | at (h:k=7) {a b:T} (e:kids=[a,b]) (ha:Sp.right a=true)
 | elem (h:k=11) {f:T} {r:List T} (e:kids=f::r) (ha:∀ t∈r,(Sp.right t||Sp.elem t)=true)
theorem z2x{k:Int}{nm:List UInt8}{kids:List T}{nms:List (List UInt8)}{pl:Int}(h:(Sp.right (.mk k nm kids nms pl)||Sp.elem (.mk k nm kids nms pl))=true):Shp k kids:=by
 rw [Bool.or_eq_true] at h;rcases h with h | h
 ·rcases kids with _ | ⟨a,_ | ⟨b,_ | ⟨c,l⟩⟩⟩
  ·simp only [Sp.right,ph,Bool.or_eq_true,decide_eq_true_eq] at h;rcases h.2 with h | h
   ·exact .nam h.1 rfl
   ·exact .all (by omega) λ t ht=>by cases ht
  ·simp only [Sp.right,ph,Bool.or_eq_true,decide_eq_true_eq] at h;rcases h.2 with ⟨⟨⟨h1 | h1,_⟩,_⟩,h2⟩ | ⟨⟨h1,_⟩,h2⟩
   ·exact .lam h1 rfl h2
   ·exact .all (by omega) λ t ht=>by
     rw [List.mem_singleton] at ht; subst ht; rw [h2]; rfl
   ·exact .all (by omega) λ t ht=>by
     rw [List.mem_singleton] at ht; subst ht; rw [h2,Bool.or_true]
  ·simp only [Sp.right,ph,Bool.or_eq_true,decide_eq_true_eq] at h;rcases h.2 with ((h1 | h1) | h1) | h1
   ·exact .pi h1.1.1.1.1 rfl h1.1.2 h1.2
   ·exact .all (by omega) λ t ht=>by
     simp only [List.mem_cons,List.not_mem_nil,or_false] at ht;rcases ht with rfl | rfl
     ·rw [h1.1.2]; rfl
     ·rw [h1.2]; rfl
   ·exact .at h1.1.1.1 rfl h1.1.2
   ·exact .all (by omega) λ t ht=>by
     simp only [List.mem_cons,List.not_mem_nil,or_false] at ht;rcases ht with rfl | rfl
     ·rw [h1.1.2,Bool.or_true]
     ·rw [h1.2,Bool.or_true]
  ·simp only [Sp.right,ph,decide_eq_true_eq,zf6] at h;obtain ⟨⟨⟨_,h0⟩,_⟩,⟨⟨h1,h2⟩,h3⟩,h4⟩:=h;exact .all (by omega) λ t ht=>by
    simp only [List.mem_cons] at ht;rcases ht with rfl | rfl | rfl | ht
    ·rw [h1,Bool.or_true]
    ·rw [h2,Bool.or_true]
    ·rw [h3,Bool.or_true]
    ·rw [List.all_eq_true.1 h4 t ht,Bool.or_true]
 ·rcases kids with _ | ⟨a,_ | ⟨b,_ | ⟨c,l⟩⟩⟩
  ·simp [Sp.elem] at h
  ·simp only [Sp.elem,ph,decide_eq_true_eq] at h;exact .elem h.1.1.1 rfl λ t ht=>by cases ht
  ·simp only [Sp.elem,ph,decide_eq_true_eq] at h;exact .elem h.1.1.1.1 rfl λ t ht=>by
    rw [List.mem_singleton] at ht; subst ht; rw [h.2]; rfl
  ·simp [Sp.elem] at h
theorem qw{R:Type}(x:Option R):zb true x=x:=rfl
theorem zz3{a b:List (List UInt8)}(h:a.length+b.length<4294967296):zdm (.sl 1 (a.map .str)) (.sl 1 (b.map .str))=some ((a++b).map .str):=by
 unfold zdm;rw [zc0 (pa (by omega)),zc0 (pa (by omega))]
 show zb (decide (a.length+b.length<4294967296)) _=_;rw [pa h];rfl
theorem z8w{b:List (List UInt8)}{s:List UInt8}(h:yd b=true):p90 (.sl 1 (b.map .str)) s=some (Sp.mem s b):=by
 unfold p90;rw [zc0 h]; rfl
theorem yaw{l:List (List UInt8)}{s:List UInt8}(h:l.length+1<4294967296):a89 s (l.map .str)=some ((Sp.put l s).map .str):=by
 unfold a89;rw [zgf];show zb (decide (l.length+1<4294967296)) _=_;rw [pa h];rfl
theorem zer{t:T}:∀ {l:List T},t∈l→t.depth≤T.depths l
 | u::l,h=>by
  simp only [T.depths];cases h with
  | head=>omega
  | tail _ h=>have:=zer h; omega
theorem m88:∀ m,ztn m
 | 0=>λ t b l hd _ _=>by cases t; simp only [T.depth] at hd; omega
 | m+1=>λ t b l hd ho hg=>by
  obtain ⟨k,nm,kids,nms,pl⟩:=t;obtain ⟨hr,hb,hl⟩:=zbr.1 hg;have hsh:=z2x hr;have ho2:=ho;simp only [T.ok,ph] at ho2;obtain ⟨⟨⟨⟨o1,o2⟩,o3⟩,o4⟩,o5⟩:=ho2;simp only [T.depth] at hd;simp only [Sp.cnt] at hb hl;have hbs:yd b=true:=pa (by omega)
  refine zk (z11 (m88 m)) (N:=kids.length+1) ?_;have kid:∀ t∈kids,t.depth≤m∧t.ok=true:=λ t ht=>⟨by have:=zer ht; omega,wn o5 ht⟩
  cases hsh with
  | nam h e=>
   subst h; subst e;refine (yau (zat m) p90 Sp.word zdm a89 _ _ _ _ _ _).trans ?_;show zc (p90 (.sl 1 (b.map .str)) nm) _=_;rw [z8w hbs];show (bif !Sp.mem nm b then zb (decide (nm.length≤big)) (bif !Sp.word nm then zc (a89 nm (l.map .str)) _ else _) else _)=_;rw [ql o1,yaw (by omega)]
   show _=some (Out.ret (V.tup []),psN ((bif Sp.mem nm b||Sp.word nm then l else Sp.put l nm).map .str))
   cases Sp.mem nm b
   ·cases Sp.word nm
    ·show zb (Nat.beq _ _) _=_;rw [Nat.beq_refl];rfl
    ·rfl
   ·rfl
  | lam h e ha=>
   subst h; subst e;rename_i a;obtain ⟨k1,m1,l1,n1,p1⟩:=a;obtain ⟨d1,d2⟩:=kid _ (List.mem_singleton.2 rfl);simp only [xg] at hb hl;refine (yat (zat m) p90 Sp.word zdm a89 _ _ _ _ _ _ _ _ _ _ _).trans ?_;show zc (zdm (.sl 1 (b.map .str)) (.sl 1 (nms.map .str))) _=_;rw [zz3 (by omega)]
   show zc (zat m (T.mk k1 m1 l1 n1 p1).d (.sl 1 ((b++nms).map .str)) (l.map .str)) _=_;rw [zin d1 d2 (zbr.2 ⟨by rw [ha]; rfl,by rw [pe]; omega,by omega⟩)]
   show zb (Nat.beq _ _) _=_;rw [Nat.beq_refl];rfl
  | all h ha=>
   have e:xb (.mk k nm kids nms pl) b l=xk b l kids:=by
    unfold xb;rw [pb (p:=k=1) (by omega),cond_false]
    exact z38 (by omega) (by omega) (by omega) (by omega) (by omega) kids 0 l
   rw [e];have hloop:=z3k (m:=m) (kids.length+1) b l kids (Nat.lt_succ_self _) o2 (λ t ht=>⟨(kid t ht).1,(kid t ht).2,ha t ht⟩) (by omega) (by omega) 3 13 14 15 (λ k L i=>yfs (zat m) p90 Sp.word zdm a89 _ k _ L kids i)
   have lds:=zo kids;rcases h with rfl | rfl | rfl | rfl | rfl
   ·have g:=yas (zat m) p90 Sp.word zdm a89 (kids.length+1) (b.map .str) (l.map .str) nm nms pl kids;rw [lds] at g;exact g.trans hloop
   ·have g:=yap (zat m) p90 Sp.word zdm a89 (kids.length+1) (b.map .str) (l.map .str) nm nms pl kids;rw [lds] at g;exact g.trans hloop
   ·have g:=yan (zat m) p90 Sp.word zdm a89 (kids.length+1) (b.map .str) (l.map .str) nm nms pl kids;rw [lds] at g;exact g.trans hloop
   ·have g:=yam (zat m) p90 Sp.word zdm a89 (kids.length+1) (b.map .str) (l.map .str) nm nms pl kids;rw [lds] at g;exact g.trans hloop
   ·have g:=z68 (zat m) p90 Sp.word zdm a89 (kids.length+1) (b.map .str) (l.map .str) nm nms pl kids;rw [lds] at g;exact g.trans hloop
  | pi h e ha hb2=>
   subst e;rename_i a c;obtain ⟨k1,m1,l1,n1,p1⟩:=a;obtain ⟨k2,m2,l2,n2,p2⟩:=c;obtain ⟨d1,d2⟩:=kid (T.mk k1 m1 l1 n1 p1) (by simp)
   obtain ⟨d3,d4⟩:=kid (T.mk k2 m2 l2 n2 p2) (by simp)
   simp only [xg] at hb hl;have hgl:=zff (T.mk k1 m1 l1 n1 p1) b l
   have fin:zc (zat m (T.mk k1 m1 l1 n1 p1).d (.sl 1 (b.map .str)) (l.map .str)) (λ L'=>zb (Nat.beq (l.map D.str).length (l.map D.str).length) (zc (zdm (.sl 1 (b.map .str)) (.sl 1 (nms.map .str))) λ b=>zc (zat m (T.mk k2 m2 l2 n2 p2).d (.sl 1 b) L') λ L''=>zb (Nat.beq L'.length L'.length) (some (Out.ret (V.tup []),psN L'')))) =
     some (Out.ret (V.tup []),psN ((xb (T.mk k2 m2 l2 n2 p2) (b++nms) (xb (T.mk k1 m1 l1 n1 p1) b l)).map .str)):=by
    rw [zin d1 d2 (zbr.2 ⟨by rw [ha]; rfl,by omega,by omega⟩)]
    show zb (Nat.beq _ _) _=_;rw [Nat.beq_refl,zz3 (by omega)]
    show zc (zat m (T.mk k2 m2 l2 n2 p2).d (.sl 1 ((b++nms).map .str)) ((xb (T.mk k1 m1 l1 n1 p1) b l).map .str)) _=_;rw [zin d3 d4 (zbr.2 ⟨by rw [hb2]; rfl,by rw [pe]; omega,by omega⟩)]
    show zb (Nat.beq _ _) _=_;rw [Nat.beq_refl];rfl
   rcases h with rfl | rfl
   ·exact (yar (zat m) p90 Sp.word zdm a89 _ _ _ _ _ _ _ _ _ _ _ _ _ _ _ _).trans fin
   ·exact (yaq (zat m) p90 Sp.word zdm a89 _ _ _ _ _ _ _ _ _ _ _ _ _ _ _ _).trans fin
  | «at» h e ha=>
   subst h; subst e;rename_i a c;obtain ⟨k1,m1,l1,n1,p1⟩:=a;obtain ⟨k2,m2,l2,n2,p2⟩:=c;obtain ⟨d1,d2⟩:=kid (T.mk k1 m1 l1 n1 p1) (by simp)
   simp only [xg] at hb hl;refine (yao (zat m) p90 Sp.word zdm a89 _ _ _ _ _ _ _ _ _ _ _ _ _ _ _ _).trans ?_;show zc (zat m (T.mk k1 m1 l1 n1 p1).d (.sl 1 (b.map .str)) (l.map .str)) _=_;rw [zin d1 d2 (zbr.2 ⟨by rw [ha]; rfl,by omega,by omega⟩)]
   show zb (Nat.beq _ _) _=_;rw [Nat.beq_refl];rfl
  | elem h e ha=>
   subst h; subst e;rename_i f r;simp only [xg] at hb hl;have e:xb (.mk 11 nm (f::r) nms pl) b l=xk b l r:=by
    unfold xb;rw [show decide ((11:Int)=1)=false from rfl,cond_false];unfold vl;exact z36 r 1 l (Nat.succ_pos _)
   rw [e];have hloop:=z3k (m:=m) ((f::r).length+1) b l r (by simp only [List.length_cons]; omega) (pa (by have:=yh o2; simp only [List.length_cons] at this; omega)) (λ t ht=>⟨(kid t (pp _ ht)).1,(kid t (pp _ ht)).2,ha t ht⟩) (by omega) (by omega) 20 88 89 90 (λ k L i=>ydm (zat m) p90 Sp.word zdm a89 _ k _ L r i)
   refine (z67 (zat m) p90 Sp.word zdm a89 _ _ _ _ _ _ _ _).trans ?_;have e2:List.drop (1:Int).toNat (List.take (f.d::T.ds r).length (f.d::T.ds r))=T.ds r:=by
    rw [List.take_length]; rfl
   rw [e2,zo,pa (p:=(1:Int)≤((f.d::T.ds r).length:Int)) (by simp only [List.length_cons]; omega)]
   exact (qw _).trans hloop
def zjh:List (List UInt8)→List Nat→List UInt8→Int
 | w::ws,n::ns,s=>bif decide (w=s) then n else zjh ws ns s
 | _,_,_=>-1
def zs1:List (List UInt8)→List Nat→List UInt8→Option R1
 | w::ws,n::ns,s=>bif decide (w=s) then some (.ret (.d (.int .i64 n)),[]) else zs1 ws ns s
 | _,_,_=>some (.ret (.d (.int .i64 (-1))),[])
theorem ygg(s:List UInt8):zl cx (CK.plain zn) 20 13 [.d (.str s)] []=zs1 zlh znu s:=by kernel_rfl
theorem zq6(s:List UInt8):∀ (w:List (List UInt8)) (n:List Nat),zs1 w n s=some (.ret (mkI (zjh w n s)),[])
 | [],_=>rfl
 | _::_,[]=>rfl
 | w::ws,n::ns=>by
  unfold zs1 zjh;rw [zq6 s ws ns];cases decide (w=s) <;> rfl
theorem zny:∀ (w:List (List UInt8)) (n:List Nat) (s:List UInt8),w.length=n.length→decide (0≤zjh w n s)=vh (w.map .str) s
 | [],[],s,_=>rfl
 | w::ws,n::ns,s,h=>by
  have ih:=zny ws ns s (by simpa using h)
  unfold zjh;show _=(decide (s=w)||vh (ws.map .str) s)
  by_cases hw:w=s
  ·subst hw;simp
  ·have e1:decide (w=s)=false:=pb hw;have e2:decide (s=w)=false:=pb λ e=>hw e.symm;rw [e1,e2,cond_false,ih,Bool.false_or]
theorem m13(s:List UInt8):zh cx 13 [.d (.str s)] []=some (.ret (mkI (zjh zlh znu s)),[]):=by
 refine zk zm (N:=20) ?_;rw [ygg];exact zq6 s zlh znu
def zwf:List V→Option (D×(D×D)) | [.d h,.d t,.d b]=>some (h,(t,b)) | _=>none
def K60(sp:D→D→D→Option (List D))(p:D→List UInt8→Option Bool)(q:List UInt8→Int)(u:D→List UInt8→Option (List D)):CK R1:=
 zt 60 zwf (λ x=>sp x.1 x.2.1 x.2.2) (λ x=>.d (.sl 1 x)) (zt 93 zdw (λ x=>p x.1 x.2) mkB (zt 13 za5 (λ s=>some (q s)) mkI (zt 98 zdw (λ x=>u x.1 x.2) (λ x=>.d (.sl 1 x)) (CK.plain zn))))
theorem ydz(p:D→List UInt8→Option Bool)(n:Nat)(l:List D)(s:List UInt8):zl cx (zt 93 zdw (λ q=>p q.1 q.2) mkB (CK.plain zn)) n 98 [.d (.sl 1 l),.d (.str s)] []=zc (p (D.sl 1 l,s).fst (D.sl 1 l,s).snd) λ b=>bif b then some (Out.ret (V.d (D.sl 1 l)),[]) else zb (decide (([]:List D).length+l.length≤4294967296)) (zb (decide (([]:List D).length+l.length=l.length)&&decide (l.length+[D.str s].length≤4294967296)) (some (Out.ret (V.d (D.sl 1 (l++[D.str s]))),[]))):=by kernel_rfl
theorem yfx(sp:D→D→D→Option (List D))(p:D→List UInt8→Option Bool)(q:List UInt8→Int)(u:D→List UInt8→Option (List D))(n:Nat)(h b:List D)(k:Int)(nm:List UInt8)(kids:List T)(nms:List (List UInt8))(pl:Int):zl cx (K60 sp p q u) n 60 [.d (.sl 1 h),.d (.agg [.int .i64 k,.str nm,.sl 5 (T.ds kids),.sl 1 (nms.map .str),.int .i64 pl]),.d (.sl 1 b)] []=bif decide (k=(1:Int)) then zc (p (D.sl 1 b,nm).fst (D.sl 1 b,nm).snd) λ b=>bif b then some (Out.ret (V.d (D.sl 1 h)),[]) else zb (decide (nm.length≤big)) (bif decide ((0:Int)≤q nm) then some (Out.ret (V.d (D.sl 1 h)),[]) else zc (u (D.sl 1 h,nm).fst (D.sl 1 h,nm).snd) λ b=>some (Out.ret (V.d (D.sl 1 b)),[])) else LP cx (K60 sp p q u) n 60 0 6 n [(0,V.d (D.sl 1 h)),(2,V.d (D.sl 1 b)),(4,V.ptr 4 0),(7,V.d (D.int .i64 (0:Int)))] [(4,Ob.val 5 (V.d (D.agg [D.int .i64 k,D.str nm,D.sl 5 (T.ds kids),D.sl 1 (List.map D.str nms),D.int .i64 pl])))] (AK cx (K60 sp p q u) n 60 0 6 (EK cx 60 0)):=by kernel_rfl
theorem z5l(sp:D→D→D→Option (List D))(p:D→List UInt8→Option Bool)(q:List UInt8→Int)(u:D→List UInt8→Option (List D))(n m:Nat)(h b:List D)(nm:List UInt8)(kids:List T)(nms:List (List UInt8))(pl i:Int):LP cx (K60 sp p q u) n 60 0 6 (m+1) [(0,V.d (D.sl 1 h)),(2,V.d (D.sl 1 b)),(4,V.ptr 4 0),(7,V.d (D.int .i64 i))] [(4,Ob.val 5 (V.d (D.agg [D.int .i64 2,D.str nm,D.sl 5 (T.ds kids),D.sl 1 (List.map D.str nms),D.int .i64 pl])))] (AK cx (K60 sp p q u) n 60 0 6 (EK cx 60 0))=bif decide (i<(↑(T.ds kids).length:Int)) then zb (decide (([]:List D).length+b.length≤4294967296)) (zb (decide (([]:List D).length+b.length=b.length)&&decide (b.length+(List.map D.str nms).length≤4294967296)) (zb (decide (0≤i)&&decide (i<(↑(T.ds kids).length:Int))) (za (T.ds kids) i.toNat λ y=>za y.cells 0 λ c=>za y.cells 1 λ c_1=>za y.cells 2 λ c_2=>za y.cells 3 λ c_3=>za y.cells 4 λ c_4=>zc (sp (D.sl 1 h,D.agg [c,c_1,c_2,c_3,c_4],D.sl 1 (b++List.map D.str nms)).fst (D.sl 1 h,D.agg [c,c_1,c_2,c_3,c_4],D.sl 1 (b++List.map D.str nms)).snd.fst (D.sl 1 h,D.agg [c,c_1,c_2,c_3,c_4],D.sl 1 (b++List.map D.str nms)).snd.snd) λ b_1=>LP cx (K60 sp p q u) n 60 0 6 m [(0,V.d (D.sl 1 b_1)),(2,V.d (D.sl 1 b)),(4,V.ptr 4 0),(7,V.d (D.int .i64 (IntKind.i64.wrap (i+(1:Int)))))] [(4,Ob.val 5 (V.d (D.agg [D.int .i64 (2:Int),D.str nm,D.sl 5 (T.ds kids),D.sl 1 (List.map D.str nms),D.int .i64 pl])))] (AK cx (K60 sp p q u) n 60 0 6 (EK cx 60 0))))) else some (Out.ret (V.d (D.sl 1 h)),[]):=by kernel_rfl
theorem z5k(sp:D→D→D→Option (List D))(p:D→List UInt8→Option Bool)(q:List UInt8→Int)(u:D→List UInt8→Option (List D))(n m:Nat)(h b:List D)(nm:List UInt8)(kids:List T)(nms:List (List UInt8))(pl i:Int):LP cx (K60 sp p q u) n 60 0 6 (m+1) [(0,V.d (D.sl 1 h)),(2,V.d (D.sl 1 b)),(4,V.ptr 4 0),(7,V.d (D.int .i64 i))] [(4,Ob.val 5 (V.d (D.agg [D.int .i64 3,D.str nm,D.sl 5 (T.ds kids),D.sl 1 (List.map D.str nms),D.int .i64 pl])))] (AK cx (K60 sp p q u) n 60 0 6 (EK cx 60 0))=bif decide (i<(↑(T.ds kids).length:Int)) then bif decide (i=(1:Int)) then zb (decide (0≤i)&&decide (i<(↑(T.ds kids).length:Int))) (za (T.ds kids) i.toNat λ y=>za y.cells 0 λ c=>za y.cells 1 λ c_1=>za y.cells 2 λ c_2=>za y.cells 3 λ c_3=>za y.cells 4 λ c_4=>zc (sp (D.sl 1 h,D.agg [c,c_1,c_2,c_3,c_4],D.sl 1 b).fst (D.sl 1 h,D.agg [c,c_1,c_2,c_3,c_4],D.sl 1 b).snd.fst (D.sl 1 h,D.agg [c,c_1,c_2,c_3,c_4],D.sl 1 b).snd.snd) λ b_1=>LP cx (K60 sp p q u) n 60 0 6 m [(0,V.d (D.sl 1 b_1)),(2,V.d (D.sl 1 b)),(4,V.ptr 4 0),(7,V.d (D.int .i64 (IntKind.i64.wrap (i+(1:Int)))))] [(4,Ob.val 5 (V.d (D.agg [D.int .i64 (3:Int),D.str nm,D.sl 5 (T.ds kids),D.sl 1 (List.map D.str nms),D.int .i64 pl])))] (AK cx (K60 sp p q u) n 60 0 6 (EK cx 60 0))) else zb (decide (0≤i)&&decide (i<(↑(T.ds kids).length:Int))) (za (T.ds kids) i.toNat λ y=>za y.cells 0 λ c=>za y.cells 1 λ c_1=>za y.cells 2 λ c_2=>za y.cells 3 λ c_3=>za y.cells 4 λ c_4=>zc (sp (D.sl 1 h,D.agg [c,c_1,c_2,c_3,c_4],D.sl 1 b).fst (D.sl 1 h,D.agg [c,c_1,c_2,c_3,c_4],D.sl 1 b).snd.fst (D.sl 1 h,D.agg [c,c_1,c_2,c_3,c_4],D.sl 1 b).snd.snd) λ b_1=>LP cx (K60 sp p q u) n 60 0 6 m [(0,V.d (D.sl 1 b_1)),(2,V.d (D.sl 1 b)),(4,V.ptr 4 0),(7,V.d (D.int .i64 (IntKind.i64.wrap (i+(1:Int)))))] [(4,Ob.val 5 (V.d (D.agg [D.int .i64 (3:Int),D.str nm,D.sl 5 (T.ds kids),D.sl 1 (List.map D.str nms),D.int .i64 pl])))] (AK cx (K60 sp p q u) n 60 0 6 (EK cx 60 0))) else some (Out.ret (V.d (D.sl 1 h)),[]):=by kernel_rfl
theorem z5j(sp:D→D→D→Option (List D))(p:D→List UInt8→Option Bool)(q:List UInt8→Int)(u:D→List UInt8→Option (List D))(n m:Nat)(h b:List D)(nm:List UInt8)(kids:List T)(nms:List (List UInt8))(pl i:Int):LP cx (K60 sp p q u) n 60 0 6 (m+1) [(0,V.d (D.sl 1 h)),(2,V.d (D.sl 1 b)),(4,V.ptr 4 0),(7,V.d (D.int .i64 i))] [(4,Ob.val 5 (V.d (D.agg [D.int .i64 4,D.str nm,D.sl 5 (T.ds kids),D.sl 1 (List.map D.str nms),D.int .i64 pl])))] (AK cx (K60 sp p q u) n 60 0 6 (EK cx 60 0))=bif decide (i<(↑(T.ds kids).length:Int)) then bif decide (i=(1:Int)) then zb (decide (([]:List D).length+b.length≤4294967296)) (zb (decide (([]:List D).length+b.length=b.length)&&decide (b.length+(List.map D.str nms).length≤4294967296)) (zb (decide (0≤i)&&decide (i<(↑(T.ds kids).length:Int))) (za (T.ds kids) i.toNat λ y=>za y.cells 0 λ c=>za y.cells 1 λ c_1=>za y.cells 2 λ c_2=>za y.cells 3 λ c_3=>za y.cells 4 λ c_4=>zc (sp (D.sl 1 h,D.agg [c,c_1,c_2,c_3,c_4],D.sl 1 (b++List.map D.str nms)).fst (D.sl 1 h,D.agg [c,c_1,c_2,c_3,c_4],D.sl 1 (b++List.map D.str nms)).snd.fst (D.sl 1 h,D.agg [c,c_1,c_2,c_3,c_4],D.sl 1 (b++List.map D.str nms)).snd.snd) λ b_1=>LP cx (K60 sp p q u) n 60 0 6 m [(0,V.d (D.sl 1 b_1)),(2,V.d (D.sl 1 b)),(4,V.ptr 4 0),(7,V.d (D.int .i64 (IntKind.i64.wrap (i+(1:Int)))))] [(4,Ob.val 5 (V.d (D.agg [D.int .i64 (4:Int),D.str nm,D.sl 5 (T.ds kids),D.sl 1 (List.map D.str nms),D.int .i64 pl])))] (AK cx (K60 sp p q u) n 60 0 6 (EK cx 60 0))))) else zb (decide (0≤i)&&decide (i<(↑(T.ds kids).length:Int))) (za (T.ds kids) i.toNat λ y=>za y.cells 0 λ c=>za y.cells 1 λ c_1=>za y.cells 2 λ c_2=>za y.cells 3 λ c_3=>za y.cells 4 λ c_4=>zc (sp (D.sl 1 h,D.agg [c,c_1,c_2,c_3,c_4],D.sl 1 b).fst (D.sl 1 h,D.agg [c,c_1,c_2,c_3,c_4],D.sl 1 b).snd.fst (D.sl 1 h,D.agg [c,c_1,c_2,c_3,c_4],D.sl 1 b).snd.snd) λ b_1=>LP cx (K60 sp p q u) n 60 0 6 m [(0,V.d (D.sl 1 b_1)),(2,V.d (D.sl 1 b)),(4,V.ptr 4 0),(7,V.d (D.int .i64 (IntKind.i64.wrap (i+(1:Int)))))] [(4,Ob.val 5 (V.d (D.agg [D.int .i64 (4:Int),D.str nm,D.sl 5 (T.ds kids),D.sl 1 (List.map D.str nms),D.int .i64 pl])))] (AK cx (K60 sp p q u) n 60 0 6 (EK cx 60 0))) else some (Out.ret (V.d (D.sl 1 h)),[]):=by kernel_rfl
theorem z5i(sp:D→D→D→Option (List D))(p:D→List UInt8→Option Bool)(q:List UInt8→Int)(u:D→List UInt8→Option (List D))(n m:Nat)(h b:List D)(nm:List UInt8)(kids:List T)(nms:List (List UInt8))(pl i:Int):LP cx (K60 sp p q u) n 60 0 6 (m+1) [(0,V.d (D.sl 1 h)),(2,V.d (D.sl 1 b)),(4,V.ptr 4 0),(7,V.d (D.int .i64 i))] [(4,Ob.val 5 (V.d (D.agg [D.int .i64 5,D.str nm,D.sl 5 (T.ds kids),D.sl 1 (List.map D.str nms),D.int .i64 pl])))] (AK cx (K60 sp p q u) n 60 0 6 (EK cx 60 0))=bif decide (i<(↑(T.ds kids).length:Int)) then bif decide (i=(1:Int)) then zb (decide (([]:List D).length+b.length≤4294967296)) (zb (decide (([]:List D).length+b.length=b.length)&&decide (b.length+(List.map D.str nms).length≤4294967296)) (zb (decide (0≤i)&&decide (i<(↑(T.ds kids).length:Int))) (za (T.ds kids) i.toNat λ y=>za y.cells 0 λ c=>za y.cells 1 λ c_1=>za y.cells 2 λ c_2=>za y.cells 3 λ c_3=>za y.cells 4 λ c_4=>zc (sp (D.sl 1 h,D.agg [c,c_1,c_2,c_3,c_4],D.sl 1 (b++List.map D.str nms)).fst (D.sl 1 h,D.agg [c,c_1,c_2,c_3,c_4],D.sl 1 (b++List.map D.str nms)).snd.fst (D.sl 1 h,D.agg [c,c_1,c_2,c_3,c_4],D.sl 1 (b++List.map D.str nms)).snd.snd) λ b_1=>LP cx (K60 sp p q u) n 60 0 6 m [(0,V.d (D.sl 1 b_1)),(2,V.d (D.sl 1 b)),(4,V.ptr 4 0),(7,V.d (D.int .i64 (IntKind.i64.wrap (i+(1:Int)))))] [(4,Ob.val 5 (V.d (D.agg [D.int .i64 (5:Int),D.str nm,D.sl 5 (T.ds kids),D.sl 1 (List.map D.str nms),D.int .i64 pl])))] (AK cx (K60 sp p q u) n 60 0 6 (EK cx 60 0))))) else zb (decide (0≤i)&&decide (i<(↑(T.ds kids).length:Int))) (za (T.ds kids) i.toNat λ y=>za y.cells 0 λ c=>za y.cells 1 λ c_1=>za y.cells 2 λ c_2=>za y.cells 3 λ c_3=>za y.cells 4 λ c_4=>zc (sp (D.sl 1 h,D.agg [c,c_1,c_2,c_3,c_4],D.sl 1 b).fst (D.sl 1 h,D.agg [c,c_1,c_2,c_3,c_4],D.sl 1 b).snd.fst (D.sl 1 h,D.agg [c,c_1,c_2,c_3,c_4],D.sl 1 b).snd.snd) λ b_1=>LP cx (K60 sp p q u) n 60 0 6 m [(0,V.d (D.sl 1 b_1)),(2,V.d (D.sl 1 b)),(4,V.ptr 4 0),(7,V.d (D.int .i64 (IntKind.i64.wrap (i+(1:Int)))))] [(4,Ob.val 5 (V.d (D.agg [D.int .i64 (5:Int),D.str nm,D.sl 5 (T.ds kids),D.sl 1 (List.map D.str nms),D.int .i64 pl])))] (AK cx (K60 sp p q u) n 60 0 6 (EK cx 60 0))) else some (Out.ret (V.d (D.sl 1 h)),[]):=by kernel_rfl
theorem z5h(sp:D→D→D→Option (List D))(p:D→List UInt8→Option Bool)(q:List UInt8→Int)(u:D→List UInt8→Option (List D))(n m:Nat)(h b:List D)(nm:List UInt8)(kids:List T)(nms:List (List UInt8))(pl i:Int):LP cx (K60 sp p q u) n 60 0 6 (m+1) [(0,V.d (D.sl 1 h)),(2,V.d (D.sl 1 b)),(4,V.ptr 4 0),(7,V.d (D.int .i64 i))] [(4,Ob.val 5 (V.d (D.agg [D.int .i64 6,D.str nm,D.sl 5 (T.ds kids),D.sl 1 (List.map D.str nms),D.int .i64 pl])))] (AK cx (K60 sp p q u) n 60 0 6 (EK cx 60 0))=bif decide (i<(↑(T.ds kids).length:Int)) then bif decide (i=(1:Int)) then zb (decide (0≤i)&&decide (i<(↑(T.ds kids).length:Int))) (za (T.ds kids) i.toNat λ y=>za y.cells 0 λ c=>za y.cells 1 λ c_1=>za y.cells 2 λ c_2=>za y.cells 3 λ c_3=>za y.cells 4 λ c_4=>zc (sp (D.sl 1 h,D.agg [c,c_1,c_2,c_3,c_4],D.sl 1 b).fst (D.sl 1 h,D.agg [c,c_1,c_2,c_3,c_4],D.sl 1 b).snd.fst (D.sl 1 h,D.agg [c,c_1,c_2,c_3,c_4],D.sl 1 b).snd.snd) λ b_1=>LP cx (K60 sp p q u) n 60 0 6 m [(0,V.d (D.sl 1 b_1)),(2,V.d (D.sl 1 b)),(4,V.ptr 4 0),(7,V.d (D.int .i64 (IntKind.i64.wrap (i+(1:Int)))))] [(4,Ob.val 5 (V.d (D.agg [D.int .i64 (6:Int),D.str nm,D.sl 5 (T.ds kids),D.sl 1 (List.map D.str nms),D.int .i64 pl])))] (AK cx (K60 sp p q u) n 60 0 6 (EK cx 60 0))) else zb (decide (0≤i)&&decide (i<(↑(T.ds kids).length:Int))) (za (T.ds kids) i.toNat λ y=>za y.cells 0 λ c=>za y.cells 1 λ c_1=>za y.cells 2 λ c_2=>za y.cells 3 λ c_3=>za y.cells 4 λ c_4=>zc (sp (D.sl 1 h,D.agg [c,c_1,c_2,c_3,c_4],D.sl 1 b).fst (D.sl 1 h,D.agg [c,c_1,c_2,c_3,c_4],D.sl 1 b).snd.fst (D.sl 1 h,D.agg [c,c_1,c_2,c_3,c_4],D.sl 1 b).snd.snd) λ b_1=>LP cx (K60 sp p q u) n 60 0 6 m [(0,V.d (D.sl 1 b_1)),(2,V.d (D.sl 1 b)),(4,V.ptr 4 0),(7,V.d (D.int .i64 (IntKind.i64.wrap (i+(1:Int)))))] [(4,Ob.val 5 (V.d (D.agg [D.int .i64 (6:Int),D.str nm,D.sl 5 (T.ds kids),D.sl 1 (List.map D.str nms),D.int .i64 pl])))] (AK cx (K60 sp p q u) n 60 0 6 (EK cx 60 0))) else some (Out.ret (V.d (D.sl 1 h)),[]):=by kernel_rfl
theorem z5g(sp:D→D→D→Option (List D))(p:D→List UInt8→Option Bool)(q:List UInt8→Int)(u:D→List UInt8→Option (List D))(n m:Nat)(h b:List D)(nm:List UInt8)(kids:List T)(nms:List (List UInt8))(pl i:Int):LP cx (K60 sp p q u) n 60 0 6 (m+1) [(0,V.d (D.sl 1 h)),(2,V.d (D.sl 1 b)),(4,V.ptr 4 0),(7,V.d (D.int .i64 i))] [(4,Ob.val 5 (V.d (D.agg [D.int .i64 7,D.str nm,D.sl 5 (T.ds kids),D.sl 1 (List.map D.str nms),D.int .i64 pl])))] (AK cx (K60 sp p q u) n 60 0 6 (EK cx 60 0))=bif decide (i<(↑(T.ds kids).length:Int)) then bif decide (i=(1:Int)) then bif decide (i=(1:Int)) then LP cx (K60 sp p q u) n 60 0 6 m [(0,V.d (D.sl 1 h)),(2,V.d (D.sl 1 b)),(4,V.ptr 4 0),(7,V.d (D.int .i64 (IntKind.i64.wrap (i+(1:Int)))))] [(4,Ob.val 5 (V.d (D.agg [D.int .i64 (7:Int),D.str nm,D.sl 5 (T.ds kids),D.sl 1 (List.map D.str nms),D.int .i64 pl])))] (AK cx (K60 sp p q u) n 60 0 6 (EK cx 60 0)) else zb (decide (0≤i)&&decide (i<(↑(T.ds kids).length:Int))) (za (T.ds kids) i.toNat λ y=>za y.cells 0 λ c=>za y.cells 1 λ c_1=>za y.cells 2 λ c_2=>za y.cells 3 λ c_3=>za y.cells 4 λ c_4=>zc (sp (D.sl 1 h,D.agg [c,c_1,c_2,c_3,c_4],D.sl 1 b).fst (D.sl 1 h,D.agg [c,c_1,c_2,c_3,c_4],D.sl 1 b).snd.fst (D.sl 1 h,D.agg [c,c_1,c_2,c_3,c_4],D.sl 1 b).snd.snd) λ b_1=>LP cx (K60 sp p q u) n 60 0 6 m [(0,V.d (D.sl 1 b_1)),(2,V.d (D.sl 1 b)),(4,V.ptr 4 0),(7,V.d (D.int .i64 (IntKind.i64.wrap (i+(1:Int)))))] [(4,Ob.val 5 (V.d (D.agg [D.int .i64 (7:Int),D.str nm,D.sl 5 (T.ds kids),D.sl 1 (List.map D.str nms),D.int .i64 pl])))] (AK cx (K60 sp p q u) n 60 0 6 (EK cx 60 0))) else bif decide (i=(1:Int)) then LP cx (K60 sp p q u) n 60 0 6 m [(0,V.d (D.sl 1 h)),(2,V.d (D.sl 1 b)),(4,V.ptr 4 0),(7,V.d (D.int .i64 (IntKind.i64.wrap (i+(1:Int)))))] [(4,Ob.val 5 (V.d (D.agg [D.int .i64 (7:Int),D.str nm,D.sl 5 (T.ds kids),D.sl 1 (List.map D.str nms),D.int .i64 pl])))] (AK cx (K60 sp p q u) n 60 0 6 (EK cx 60 0)) else zb (decide (0≤i)&&decide (i<(↑(T.ds kids).length:Int))) (za (T.ds kids) i.toNat λ y=>za y.cells 0 λ c=>za y.cells 1 λ c_1=>za y.cells 2 λ c_2=>za y.cells 3 λ c_3=>za y.cells 4 λ c_4=>zc (sp (D.sl 1 h,D.agg [c,c_1,c_2,c_3,c_4],D.sl 1 b).fst (D.sl 1 h,D.agg [c,c_1,c_2,c_3,c_4],D.sl 1 b).snd.fst (D.sl 1 h,D.agg [c,c_1,c_2,c_3,c_4],D.sl 1 b).snd.snd) λ b_1=>LP cx (K60 sp p q u) n 60 0 6 m [(0,V.d (D.sl 1 b_1)),(2,V.d (D.sl 1 b)),(4,V.ptr 4 0),(7,V.d (D.int .i64 (IntKind.i64.wrap (i+(1:Int)))))] [(4,Ob.val 5 (V.d (D.agg [D.int .i64 (7:Int),D.str nm,D.sl 5 (T.ds kids),D.sl 1 (List.map D.str nms),D.int .i64 pl])))] (AK cx (K60 sp p q u) n 60 0 6 (EK cx 60 0))) else some (Out.ret (V.d (D.sl 1 h)),[]):=by kernel_rfl
theorem z5f(sp:D→D→D→Option (List D))(p:D→List UInt8→Option Bool)(q:List UInt8→Int)(u:D→List UInt8→Option (List D))(n m:Nat)(h b:List D)(nm:List UInt8)(kids:List T)(nms:List (List UInt8))(pl i:Int):LP cx (K60 sp p q u) n 60 0 6 (m+1) [(0,V.d (D.sl 1 h)),(2,V.d (D.sl 1 b)),(4,V.ptr 4 0),(7,V.d (D.int .i64 i))] [(4,Ob.val 5 (V.d (D.agg [D.int .i64 8,D.str nm,D.sl 5 (T.ds kids),D.sl 1 (List.map D.str nms),D.int .i64 pl])))] (AK cx (K60 sp p q u) n 60 0 6 (EK cx 60 0))=bif decide (i<(↑(T.ds kids).length:Int)) then bif decide (i=(1:Int)) then zb (decide (0≤i)&&decide (i<(↑(T.ds kids).length:Int))) (za (T.ds kids) i.toNat λ y=>za y.cells 0 λ c=>za y.cells 1 λ c_1=>za y.cells 2 λ c_2=>za y.cells 3 λ c_3=>za y.cells 4 λ c_4=>zc (sp (D.sl 1 h,D.agg [c,c_1,c_2,c_3,c_4],D.sl 1 b).fst (D.sl 1 h,D.agg [c,c_1,c_2,c_3,c_4],D.sl 1 b).snd.fst (D.sl 1 h,D.agg [c,c_1,c_2,c_3,c_4],D.sl 1 b).snd.snd) λ b_1=>LP cx (K60 sp p q u) n 60 0 6 m [(0,V.d (D.sl 1 b_1)),(2,V.d (D.sl 1 b)),(4,V.ptr 4 0),(7,V.d (D.int .i64 (IntKind.i64.wrap (i+(1:Int)))))] [(4,Ob.val 5 (V.d (D.agg [D.int .i64 (8:Int),D.str nm,D.sl 5 (T.ds kids),D.sl 1 (List.map D.str nms),D.int .i64 pl])))] (AK cx (K60 sp p q u) n 60 0 6 (EK cx 60 0))) else zb (decide (0≤i)&&decide (i<(↑(T.ds kids).length:Int))) (za (T.ds kids) i.toNat λ y=>za y.cells 0 λ c=>za y.cells 1 λ c_1=>za y.cells 2 λ c_2=>za y.cells 3 λ c_3=>za y.cells 4 λ c_4=>zc (sp (D.sl 1 h,D.agg [c,c_1,c_2,c_3,c_4],D.sl 1 b).fst (D.sl 1 h,D.agg [c,c_1,c_2,c_3,c_4],D.sl 1 b).snd.fst (D.sl 1 h,D.agg [c,c_1,c_2,c_3,c_4],D.sl 1 b).snd.snd) λ b_1=>LP cx (K60 sp p q u) n 60 0 6 m [(0,V.d (D.sl 1 b_1)),(2,V.d (D.sl 1 b)),(4,V.ptr 4 0),(7,V.d (D.int .i64 (IntKind.i64.wrap (i+(1:Int)))))] [(4,Ob.val 5 (V.d (D.agg [D.int .i64 (8:Int),D.str nm,D.sl 5 (T.ds kids),D.sl 1 (List.map D.str nms),D.int .i64 pl])))] (AK cx (K60 sp p q u) n 60 0 6 (EK cx 60 0))) else some (Out.ret (V.d (D.sl 1 h)),[]):=by kernel_rfl
theorem z5e(sp:D→D→D→Option (List D))(p:D→List UInt8→Option Bool)(q:List UInt8→Int)(u:D→List UInt8→Option (List D))(n m:Nat)(h b:List D)(nm:List UInt8)(kids:List T)(nms:List (List UInt8))(pl i:Int):LP cx (K60 sp p q u) n 60 0 6 (m+1) [(0,V.d (D.sl 1 h)),(2,V.d (D.sl 1 b)),(4,V.ptr 4 0),(7,V.d (D.int .i64 i))] [(4,Ob.val 5 (V.d (D.agg [D.int .i64 9,D.str nm,D.sl 5 (T.ds kids),D.sl 1 (List.map D.str nms),D.int .i64 pl])))] (AK cx (K60 sp p q u) n 60 0 6 (EK cx 60 0))=bif decide (i<(↑(T.ds kids).length:Int)) then bif decide (i=(1:Int)) then zb (decide (0≤i)&&decide (i<(↑(T.ds kids).length:Int))) (za (T.ds kids) i.toNat λ y=>za y.cells 0 λ c=>za y.cells 1 λ c_1=>za y.cells 2 λ c_2=>za y.cells 3 λ c_3=>za y.cells 4 λ c_4=>zc (sp (D.sl 1 h,D.agg [c,c_1,c_2,c_3,c_4],D.sl 1 b).fst (D.sl 1 h,D.agg [c,c_1,c_2,c_3,c_4],D.sl 1 b).snd.fst (D.sl 1 h,D.agg [c,c_1,c_2,c_3,c_4],D.sl 1 b).snd.snd) λ b_1=>LP cx (K60 sp p q u) n 60 0 6 m [(0,V.d (D.sl 1 b_1)),(2,V.d (D.sl 1 b)),(4,V.ptr 4 0),(7,V.d (D.int .i64 (IntKind.i64.wrap (i+(1:Int)))))] [(4,Ob.val 5 (V.d (D.agg [D.int .i64 (9:Int),D.str nm,D.sl 5 (T.ds kids),D.sl 1 (List.map D.str nms),D.int .i64 pl])))] (AK cx (K60 sp p q u) n 60 0 6 (EK cx 60 0))) else zb (decide (0≤i)&&decide (i<(↑(T.ds kids).length:Int))) (za (T.ds kids) i.toNat λ y=>za y.cells 0 λ c=>za y.cells 1 λ c_1=>za y.cells 2 λ c_2=>za y.cells 3 λ c_3=>za y.cells 4 λ c_4=>zc (sp (D.sl 1 h,D.agg [c,c_1,c_2,c_3,c_4],D.sl 1 b).fst (D.sl 1 h,D.agg [c,c_1,c_2,c_3,c_4],D.sl 1 b).snd.fst (D.sl 1 h,D.agg [c,c_1,c_2,c_3,c_4],D.sl 1 b).snd.snd) λ b_1=>LP cx (K60 sp p q u) n 60 0 6 m [(0,V.d (D.sl 1 b_1)),(2,V.d (D.sl 1 b)),(4,V.ptr 4 0),(7,V.d (D.int .i64 (IntKind.i64.wrap (i+(1:Int)))))] [(4,Ob.val 5 (V.d (D.agg [D.int .i64 (9:Int),D.str nm,D.sl 5 (T.ds kids),D.sl 1 (List.map D.str nms),D.int .i64 pl])))] (AK cx (K60 sp p q u) n 60 0 6 (EK cx 60 0))) else some (Out.ret (V.d (D.sl 1 h)),[]):=by kernel_rfl
theorem zz6(sp:D→D→D→Option (List D))(p:D→List UInt8→Option Bool)(q:List UInt8→Int)(u:D→List UInt8→Option (List D))(n m:Nat)(h b:List D)(nm:List UInt8)(kids:List T)(nms:List (List UInt8))(pl i:Int):LP cx (K60 sp p q u) n 60 0 6 (m+1) [(0,V.d (D.sl 1 h)),(2,V.d (D.sl 1 b)),(4,V.ptr 4 0),(7,V.d (D.int .i64 i))] [(4,Ob.val 5 (V.d (D.agg [D.int .i64 10,D.str nm,D.sl 5 (T.ds kids),D.sl 1 (List.map D.str nms),D.int .i64 pl])))] (AK cx (K60 sp p q u) n 60 0 6 (EK cx 60 0))=bif decide (i<(↑(T.ds kids).length:Int)) then bif decide (i=(1:Int)) then zb (decide (0≤i)&&decide (i<(↑(T.ds kids).length:Int))) (za (T.ds kids) i.toNat λ y=>za y.cells 0 λ c=>za y.cells 1 λ c_1=>za y.cells 2 λ c_2=>za y.cells 3 λ c_3=>za y.cells 4 λ c_4=>zc (sp (D.sl 1 h,D.agg [c,c_1,c_2,c_3,c_4],D.sl 1 b).fst (D.sl 1 h,D.agg [c,c_1,c_2,c_3,c_4],D.sl 1 b).snd.fst (D.sl 1 h,D.agg [c,c_1,c_2,c_3,c_4],D.sl 1 b).snd.snd) λ b_1=>LP cx (K60 sp p q u) n 60 0 6 m [(0,V.d (D.sl 1 b_1)),(2,V.d (D.sl 1 b)),(4,V.ptr 4 0),(7,V.d (D.int .i64 (IntKind.i64.wrap (i+(1:Int)))))] [(4,Ob.val 5 (V.d (D.agg [D.int .i64 (10:Int),D.str nm,D.sl 5 (T.ds kids),D.sl 1 (List.map D.str nms),D.int .i64 pl])))] (AK cx (K60 sp p q u) n 60 0 6 (EK cx 60 0))) else zb (decide (0≤i)&&decide (i<(↑(T.ds kids).length:Int))) (za (T.ds kids) i.toNat λ y=>za y.cells 0 λ c=>za y.cells 1 λ c_1=>za y.cells 2 λ c_2=>za y.cells 3 λ c_3=>za y.cells 4 λ c_4=>zc (sp (D.sl 1 h,D.agg [c,c_1,c_2,c_3,c_4],D.sl 1 b).fst (D.sl 1 h,D.agg [c,c_1,c_2,c_3,c_4],D.sl 1 b).snd.fst (D.sl 1 h,D.agg [c,c_1,c_2,c_3,c_4],D.sl 1 b).snd.snd) λ b_1=>LP cx (K60 sp p q u) n 60 0 6 m [(0,V.d (D.sl 1 b_1)),(2,V.d (D.sl 1 b)),(4,V.ptr 4 0),(7,V.d (D.int .i64 (IntKind.i64.wrap (i+(1:Int)))))] [(4,Ob.val 5 (V.d (D.agg [D.int .i64 (10:Int),D.str nm,D.sl 5 (T.ds kids),D.sl 1 (List.map D.str nms),D.int .i64 pl])))] (AK cx (K60 sp p q u) n 60 0 6 (EK cx 60 0))) else some (Out.ret (V.d (D.sl 1 h)),[]):=by kernel_rfl
theorem zz5(sp:D→D→D→Option (List D))(p:D→List UInt8→Option Bool)(q:List UInt8→Int)(u:D→List UInt8→Option (List D))(n m:Nat)(h b:List D)(nm:List UInt8)(kids:List T)(nms:List (List UInt8))(pl i:Int):LP cx (K60 sp p q u) n 60 0 6 (m+1) [(0,V.d (D.sl 1 h)),(2,V.d (D.sl 1 b)),(4,V.ptr 4 0),(7,V.d (D.int .i64 i))] [(4,Ob.val 5 (V.d (D.agg [D.int .i64 11,D.str nm,D.sl 5 (T.ds kids),D.sl 1 (List.map D.str nms),D.int .i64 pl])))] (AK cx (K60 sp p q u) n 60 0 6 (EK cx 60 0))=bif decide (i<(↑(T.ds kids).length:Int)) then bif decide (i=(1:Int)) then bif !decide (i=(0:Int)) then zb (decide (0≤i)&&decide (i<(↑(T.ds kids).length:Int))) (za (T.ds kids) i.toNat λ y=>za y.cells 0 λ c=>za y.cells 1 λ c_1=>za y.cells 2 λ c_2=>za y.cells 3 λ c_3=>za y.cells 4 λ c_4=>zc (sp (D.sl 1 h,D.agg [c,c_1,c_2,c_3,c_4],D.sl 1 b).fst (D.sl 1 h,D.agg [c,c_1,c_2,c_3,c_4],D.sl 1 b).snd.fst (D.sl 1 h,D.agg [c,c_1,c_2,c_3,c_4],D.sl 1 b).snd.snd) λ b_1=>LP cx (K60 sp p q u) n 60 0 6 m [(0,V.d (D.sl 1 b_1)),(2,V.d (D.sl 1 b)),(4,V.ptr 4 0),(7,V.d (D.int .i64 (IntKind.i64.wrap (i+(1:Int)))))] [(4,Ob.val 5 (V.d (D.agg [D.int .i64 (11:Int),D.str nm,D.sl 5 (T.ds kids),D.sl 1 (List.map D.str nms),D.int .i64 pl])))] (AK cx (K60 sp p q u) n 60 0 6 (EK cx 60 0))) else LP cx (K60 sp p q u) n 60 0 6 m [(0,V.d (D.sl 1 h)),(2,V.d (D.sl 1 b)),(4,V.ptr 4 0),(7,V.d (D.int .i64 (IntKind.i64.wrap (i+(1:Int)))))] [(4,Ob.val 5 (V.d (D.agg [D.int .i64 (11:Int),D.str nm,D.sl 5 (T.ds kids),D.sl 1 (List.map D.str nms),D.int .i64 pl])))] (AK cx (K60 sp p q u) n 60 0 6 (EK cx 60 0)) else bif !decide (i=(0:Int)) then zb (decide (0≤i)&&decide (i<(↑(T.ds kids).length:Int))) (za (T.ds kids) i.toNat λ y=>za y.cells 0 λ c=>za y.cells 1 λ c_1=>za y.cells 2 λ c_2=>za y.cells 3 λ c_3=>za y.cells 4 λ c_4=>zc (sp (D.sl 1 h,D.agg [c,c_1,c_2,c_3,c_4],D.sl 1 b).fst (D.sl 1 h,D.agg [c,c_1,c_2,c_3,c_4],D.sl 1 b).snd.fst (D.sl 1 h,D.agg [c,c_1,c_2,c_3,c_4],D.sl 1 b).snd.snd) λ b_1=>LP cx (K60 sp p q u) n 60 0 6 m [(0,V.d (D.sl 1 b_1)),(2,V.d (D.sl 1 b)),(4,V.ptr 4 0),(7,V.d (D.int .i64 (IntKind.i64.wrap (i+(1:Int)))))] [(4,Ob.val 5 (V.d (D.agg [D.int .i64 (11:Int),D.str nm,D.sl 5 (T.ds kids),D.sl 1 (List.map D.str nms),D.int .i64 pl])))] (AK cx (K60 sp p q u) n 60 0 6 (EK cx 60 0))) else LP cx (K60 sp p q u) n 60 0 6 m [(0,V.d (D.sl 1 h)),(2,V.d (D.sl 1 b)),(4,V.ptr 4 0),(7,V.d (D.int .i64 (IntKind.i64.wrap (i+(1:Int)))))] [(4,Ob.val 5 (V.d (D.agg [D.int .i64 (11:Int),D.str nm,D.sl 5 (T.ds kids),D.sl 1 (List.map D.str nms),D.int .i64 pl])))] (AK cx (K60 sp p q u) n 60 0 6 (EK cx 60 0)) else some (Out.ret (V.d (D.sl 1 h)),[]):=by kernel_rfl
def p93(x:D)(s:List UInt8):Option Bool:=zc (zbk x) λ l=>some (Sp.mem s l)
def u98(x:D)(s:List UInt8):Option (List D):=zc (zbk x) λ l=>zb (decide (l.length+1<4294967296)) (some ((Sp.put l s).map .str))
def q60:List UInt8→Int:=zjh zlh znu
theorem z29(s:List UInt8):decide (0≤q60 s)=Sp.word s:=zny zlh znu s rfl
theorem zlw{f:List V}{q:D×List UInt8}{b:Bool}(h:zdw f=some q)(hb:p93 q.1 q.2=some b):zh cx 93 f []=some (.ret (mkB b),[]):=by
 obtain rfl:=zes h;obtain ⟨l,hl,hb⟩:=zd hb;cases hb;obtain ⟨h1,h2⟩:=za1 hl;rw [h1];exact m93 l q.2 h2
theorem ye0(l:List (List UInt8))(s:List UInt8)(hl:l.length+1<4294967296):zh cx 98 [.d (.sl 1 (l.map .str)),.d (.str s)] []=some (.ret (.d (.sl 1 ((Sp.put l s).map .str))),[]):=by
 have hk:knows cx (zt 93 zdw (λ q=>p93 q.1 q.2) mkB (CK.plain zn)).S (zh cx):=zj zm λ a q b hd h hb=>zlw h hb;refine zk hk (N:=0) ?_;rw [ydz];show zc (p93 (.sl 1 (l.map .str)) s) _=_;unfold p93;rw [zc0 (pa (by omega))]
 unfold Sp.put;show (bif Sp.mem s l then _ else _)=_;cases Sp.mem s l
 ·simp only [cond_false,List.nil_append,List.length_nil,Nat.zero_add,pf,List.length_cons];rw [pa (p:=l.length≤4294967296) (by omega),pa (p:=l.length+1≤4294967296) (by omega)]
  simp only [zb,cond_true,decide_true,Bool.and_self,Bool.true_and,List.map_append,List.map_cons,List.map_nil]
 ·rfl
def zbl(m:Nat)(h x y:D):Option (List D):=zc (zbk h) λ l=>zc (zg m x) λ t=>zc (zbk y) λ b=>zb (okG t b l) (some ((xb t b l).map .str))
theorem zx6{a:List V}{q}(h:zwf a=some q):a=[.d q.1,.d q.2.1,.d q.2.2]:=by
 unfold zwf at h; split at h <;> cases h; rfl
def zto(m:Nat):Prop:=∀ (t:T) (b l:List (List UInt8)),t.depth≤m→t.ok=true→okG t b l=true→zh cx 60 [.d (.sl 1 (l.map .str)),.d t.d,.d (.sl 1 (b.map .str))] []=some (.ret (.d (.sl 1 ((xb t b l).map .str))),[])
theorem zra{m:Nat}(hm:zto m){S:CK R1}(hS:knows cx S.S (zh cx)):knows cx (zt 60 zwf (λ x=>zbl m x.1 x.2.1 x.2.2) (λ x=>.d (.sl 1 x)) S).S (zh cx):=zj hS λ a q b hd h hb=>by
 obtain rfl:=zx6 h;obtain ⟨l,hl,hb⟩:=zd hb;obtain ⟨t,ht,hb⟩:=zd hb;obtain ⟨y,hy,hb⟩:=zd hb;obtain ⟨ho,hb⟩:=ze hb;cases hb;obtain ⟨h1,h2,h3⟩:=y5 ht;rw [h1,(za1 hl).1,(za1 hy).1];exact hm t y l h2 h3 ho
theorem z17{m:Nat}(hm:zto m):knows cx (K60 (zbl m) p93 q60 u98).S (zh cx):=
 zra hm (zj (zj (zj zm λ a q b hd h hb=>by
   obtain rfl:=zes h;obtain ⟨x,hx,hb⟩:=zd hb;obtain ⟨h1,hb⟩:=ze hb;cases hb;rw [(za1 hx).1];exact ye0 x q.2 (pc h1)) λ a q b hd h hb=>by
   cases hb;obtain rfl:=vm h;exact m13 q) λ a q b hd h hb=>zlw h hb)
theorem zs3{m:Nat}{t:T}{b l:List (List UInt8)}(hd:t.depth≤m)(ho:t.ok=true)(h:okG t b l=true):zbl m (.sl 1 (l.map .str)) t.d (.sl 1 (b.map .str))=some ((xb t b l).map .str):=by
 obtain ⟨_,hb,hl⟩:=zbr.1 h;unfold zbl;rw [zdu hd ho,zc0 (pa (by omega)),zc0 (pa (by omega))]
 show zb (okG t b l) _=_;rw [h];rfl
theorem ybc{R α S:Type}(L:Nat→Int→S→Option R)(xs:List α)(step:Nat→S→α→S)(G:List α→Nat→S→S)(hG0:∀ i s,G [] i s=s)(hG:∀ x r i s,G (x::r) i s=G r (i+1) (step i s x))
  (I:Nat→S→Prop) (E:S→Option R) (hs:xs.length<4294967296)
  (H:∀ (k j:Nat) x s,j<xs.length→xs[j]?=some x→I j s→L (k+1) j s=L k (IntKind.i64.wrap ((j:Int)+1)) (step j s x)∧I (j+1) (step j s x)) (HE:∀ k s,L (k+1) xs.length s=E s) {s:S} (h0:I 0 s) {k:Nat} (hk:xs.length<k) :
  L k 0 s=E (G xs 0 s):=by
 have key:∀ (d j:Nat) (k:Nat) (s:S),j+d=xs.length→d<k→I j s→L k j s=E (G (xs.drop j) j s):=by
  intro d
  induction d with
  | zero=>
   intro j k s hj hk hi;obtain ⟨k,rfl⟩:∃ k',k=k'+1:=⟨k - 1,by omega⟩
   obtain rfl:j=xs.length:=by omega
   rw [HE,List.drop_length,hG0]
  | succ d ih=>
   intro j k s hj hk hi;obtain ⟨k,rfl⟩:∃ k',k=k'+1:=⟨k - 1,by omega⟩
   have hlt:j<xs.length:=by omega
   obtain ⟨h1,h2⟩:=H k j xs[j] s hlt (pr hlt) hi;rw [h1,IntWalk.i64_in _ (by omega)]
   have e:((j:Int)+1)=((j+1:Nat):Int):=by omega
   rw [e,ih (j+1) k _ (by omega) (by omega) h2,List.drop_eq_getElem_cons hlt,hG]
 have:=key xs.length 0 k s (by omega) hk h0
 rw [List.drop_zero] at this;exact this
theorem zb6{R:Type}{kids:List T}{j:Nat}{x:T}(hj:j<kids.length)(hx:kids[j]?=some x)(F:D→Option R):zb (decide (0≤(j:Int))&&decide ((j:Int)<(kids.length:Int))) (za (T.ds kids) (j:Int).toNat λ y=>za y.cells 0 λ c=>za y.cells 1 λ c1=>za y.cells 2 λ c2=>za y.cells 3 λ c3=>za y.cells 4 λ c4=>F (D.agg [c,c1,c2,c3,c4]))=F x.d:=by
 rw [z6 hj,yy,zz,pm,hx];show za x.d.cells 0 _=_;rw [yb];simp only [xo,wz,vc,vb,va,wj]
def LQ(m n:Nat)(kk:Int)(nm:List UInt8)(kids:List T)(nms:List (List UInt8))(pl:Int)(b:List (List UInt8))(k:Nat)(i:Int)(h:List D):Option R1:=
 LP cx (K60 (zbl m) p93 q60 u98) n 60 0 6 k [(0,V.d (D.sl 1 h)),(2,V.d (D.sl 1 (b.map .str))),(4,V.ptr 4 0),(7,V.d (D.int .i64 i))] [(4,Ob.val 5 (V.d (D.agg [D.int .i64 kk,D.str nm,D.sl 5 (T.ds kids),D.sl 1 (List.map D.str nms),D.int .i64 pl])))] (AK cx (K60 (zbl m) p93 q60 u98) n 60 0 6 (EK cx 60 0))
def FQ(m n:Nat)(kk:Int)(nm:List UInt8)(kids:List T)(nms:List (List UInt8))(pl:Int)(b bb:List (List UInt8))(k:Nat)(i:Int)(h:List D)(y:D):Option R1:=
 zc (zbl m (.sl 1 h) y (.sl 1 (bb.map .str))) λ b_1=>LQ m n kk nm kids nms pl b k (IntKind.i64.wrap (i+1)) b_1
def H60(kk:Int):Prop:=∀ (m n:Nat) (nm:List UInt8) (kids:List T) (nms:List (List UInt8)) (pl:Int) (b:List (List UInt8)) (k j:Nat) (h:List D) (x:T),b.length+nms.length<4294967296→j<kids.length→kids[j]?=some x →
 LQ m n kk nm kids nms pl b (k+1) j h=bif (decide (kk=7)&&decide (j=1))||(decide (kk=11)&&decide (j=0)) then LQ m n kk nm kids nms pl b k (IntKind.i64.wrap ((j:Int)+1)) h
  else FQ m n kk nm kids nms pl b (bif decide (kk=2)||(decide (j=1)&&(decide (kk=4)||decide (kk=5))) then b++nms else b) k j h x.d
theorem dI(j i:Nat):decide ((j:Int)=(i:Int))=decide (j=i):=by
 by_cases h:j=i
 ·rw [pa h,pa (by omega)]
 ·rw [pb h,pb (by omega)]
theorem yer:H60 2:=λ m n nm kids nms pl b k j h x hb hj hx=>by
 refine (z5l (zbl m) p93 q60 u98 n k h (b.map .str) nm kids nms pl j).trans ?_;have e1:decide ((j:Int)=1)=decide (j=1):=dI j 1;have e0:decide ((j:Int)=0)=decide (j=0):=dI j 0;have e2:decide (([]:List D).length+(b.map D.str).length≤4294967296)=true:=pa (by simp only [List.length_nil,pf]; omega)
 have e3:decide (([]:List D).length+(b.map D.str).length=(b.map D.str).length)=true:=pa (by simp only [List.length_nil,pf]; omega)
 have e4:decide ((b.map D.str).length+(List.map D.str nms).length≤4294967296)=true:=pa (by simp only [pf]; omega)
 have g1:=zb6 hj hx (FQ m n 2 nm kids nms pl b b k j h);have g2:=zb6 hj hx (FQ m n 2 nm kids nms pl b (b++nms) k j h);rw [zo,z6 hj] at *;rw [e2,e3,e4,←List.map_append];exact g2
theorem yeq:H60 3:=λ m n nm kids nms pl b k j h x hb hj hx=>by
 refine (z5k (zbl m) p93 q60 u98 n k h (b.map .str) nm kids nms pl j).trans ?_;have e1:decide ((j:Int)=1)=decide (j=1):=dI j 1;have e0:decide ((j:Int)=0)=decide (j=0):=dI j 0;have e2:decide (([]:List D).length+(b.map D.str).length≤4294967296)=true:=pa (by simp only [List.length_nil,pf]; omega)
 have e3:decide (([]:List D).length+(b.map D.str).length=(b.map D.str).length)=true:=pa (by simp only [List.length_nil,pf]; omega)
 have e4:decide ((b.map D.str).length+(List.map D.str nms).length≤4294967296)=true:=pa (by simp only [pf]; omega)
 have g1:=zb6 hj hx (FQ m n 3 nm kids nms pl b b k j h);have g2:=zb6 hj hx (FQ m n 3 nm kids nms pl b (b++nms) k j h);rw [zo,z6 hj] at *;rw [e1];cases decide (j=1)
 ·exact g1
 ·exact g1
theorem yep:H60 4:=λ m n nm kids nms pl b k j h x hb hj hx=>by
 refine (z5j (zbl m) p93 q60 u98 n k h (b.map .str) nm kids nms pl j).trans ?_;have e1:decide ((j:Int)=1)=decide (j=1):=dI j 1;have e0:decide ((j:Int)=0)=decide (j=0):=dI j 0;have e2:decide (([]:List D).length+(b.map D.str).length≤4294967296)=true:=pa (by simp only [List.length_nil,pf]; omega)
 have e3:decide (([]:List D).length+(b.map D.str).length=(b.map D.str).length)=true:=pa (by simp only [List.length_nil,pf]; omega)
 have e4:decide ((b.map D.str).length+(List.map D.str nms).length≤4294967296)=true:=pa (by simp only [pf]; omega)
 have g1:=zb6 hj hx (FQ m n 4 nm kids nms pl b b k j h);have g2:=zb6 hj hx (FQ m n 4 nm kids nms pl b (b++nms) k j h);rw [zo,z6 hj] at *;rw [e1,e2,e3,e4,←List.map_append];cases decide (j=1)
 ·exact g1
 ·exact g2
theorem yeo:H60 5:=λ m n nm kids nms pl b k j h x hb hj hx=>by
 refine (z5i (zbl m) p93 q60 u98 n k h (b.map .str) nm kids nms pl j).trans ?_;have e1:decide ((j:Int)=1)=decide (j=1):=dI j 1;have e0:decide ((j:Int)=0)=decide (j=0):=dI j 0;have e2:decide (([]:List D).length+(b.map D.str).length≤4294967296)=true:=pa (by simp only [List.length_nil,pf]; omega)
 have e3:decide (([]:List D).length+(b.map D.str).length=(b.map D.str).length)=true:=pa (by simp only [List.length_nil,pf]; omega)
 have e4:decide ((b.map D.str).length+(List.map D.str nms).length≤4294967296)=true:=pa (by simp only [pf]; omega)
 have g1:=zb6 hj hx (FQ m n 5 nm kids nms pl b b k j h);have g2:=zb6 hj hx (FQ m n 5 nm kids nms pl b (b++nms) k j h);rw [zo,z6 hj] at *;rw [e1,e2,e3,e4,←List.map_append];cases decide (j=1)
 ·exact g1
 ·exact g2
theorem yen:H60 6:=λ m n nm kids nms pl b k j h x hb hj hx=>by
 refine (z5h (zbl m) p93 q60 u98 n k h (b.map .str) nm kids nms pl j).trans ?_;have e1:decide ((j:Int)=1)=decide (j=1):=dI j 1;have e0:decide ((j:Int)=0)=decide (j=0):=dI j 0;have e2:decide (([]:List D).length+(b.map D.str).length≤4294967296)=true:=pa (by simp only [List.length_nil,pf]; omega)
 have e3:decide (([]:List D).length+(b.map D.str).length=(b.map D.str).length)=true:=pa (by simp only [List.length_nil,pf]; omega)
 have e4:decide ((b.map D.str).length+(List.map D.str nms).length≤4294967296)=true:=pa (by simp only [pf]; omega)
 have g1:=zb6 hj hx (FQ m n 6 nm kids nms pl b b k j h);have g2:=zb6 hj hx (FQ m n 6 nm kids nms pl b (b++nms) k j h);rw [zo,z6 hj] at *;rw [e1];cases decide (j=1)
 ·exact g1
 ·exact g1
theorem yem:H60 7:=λ m n nm kids nms pl b k j h x hb hj hx=>by
 refine (z5g (zbl m) p93 q60 u98 n k h (b.map .str) nm kids nms pl j).trans ?_;have e1:decide ((j:Int)=1)=decide (j=1):=dI j 1;have e0:decide ((j:Int)=0)=decide (j=0):=dI j 0;have e2:decide (([]:List D).length+(b.map D.str).length≤4294967296)=true:=pa (by simp only [List.length_nil,pf]; omega)
 have e3:decide (([]:List D).length+(b.map D.str).length=(b.map D.str).length)=true:=pa (by simp only [List.length_nil,pf]; omega)
 have e4:decide ((b.map D.str).length+(List.map D.str nms).length≤4294967296)=true:=pa (by simp only [pf]; omega)
 have g1:=zb6 hj hx (FQ m n 7 nm kids nms pl b b k j h);have g2:=zb6 hj hx (FQ m n 7 nm kids nms pl b (b++nms) k j h);rw [zo,z6 hj] at *;rw [e1];cases decide (j=1)
 ·exact g1
 ·rfl
theorem yel:H60 8:=λ m n nm kids nms pl b k j h x hb hj hx=>by
 refine (z5f (zbl m) p93 q60 u98 n k h (b.map .str) nm kids nms pl j).trans ?_;have e1:decide ((j:Int)=1)=decide (j=1):=dI j 1;have e0:decide ((j:Int)=0)=decide (j=0):=dI j 0;have e2:decide (([]:List D).length+(b.map D.str).length≤4294967296)=true:=pa (by simp only [List.length_nil,pf]; omega)
 have e3:decide (([]:List D).length+(b.map D.str).length=(b.map D.str).length)=true:=pa (by simp only [List.length_nil,pf]; omega)
 have e4:decide ((b.map D.str).length+(List.map D.str nms).length≤4294967296)=true:=pa (by simp only [pf]; omega)
 have g1:=zb6 hj hx (FQ m n 8 nm kids nms pl b b k j h);have g2:=zb6 hj hx (FQ m n 8 nm kids nms pl b (b++nms) k j h);rw [zo,z6 hj] at *;rw [e1];cases decide (j=1)
 ·exact g1
 ·exact g1
theorem yek:H60 9:=λ m n nm kids nms pl b k j h x hb hj hx=>by
 refine (z5e (zbl m) p93 q60 u98 n k h (b.map .str) nm kids nms pl j).trans ?_;have e1:decide ((j:Int)=1)=decide (j=1):=dI j 1;have e0:decide ((j:Int)=0)=decide (j=0):=dI j 0;have e2:decide (([]:List D).length+(b.map D.str).length≤4294967296)=true:=pa (by simp only [List.length_nil,pf]; omega)
 have e3:decide (([]:List D).length+(b.map D.str).length=(b.map D.str).length)=true:=pa (by simp only [List.length_nil,pf]; omega)
 have e4:decide ((b.map D.str).length+(List.map D.str nms).length≤4294967296)=true:=pa (by simp only [pf]; omega)
 have g1:=zb6 hj hx (FQ m n 9 nm kids nms pl b b k j h);have g2:=zb6 hj hx (FQ m n 9 nm kids nms pl b (b++nms) k j h);rw [zo,z6 hj] at *;rw [e1];cases decide (j=1)
 ·exact g1
 ·exact g1
theorem ya0:H60 10:=λ m n nm kids nms pl b k j h x hb hj hx=>by
 refine (zz6 (zbl m) p93 q60 u98 n k h (b.map .str) nm kids nms pl j).trans ?_;have e1:decide ((j:Int)=1)=decide (j=1):=dI j 1;have e0:decide ((j:Int)=0)=decide (j=0):=dI j 0;have e2:decide (([]:List D).length+(b.map D.str).length≤4294967296)=true:=pa (by simp only [List.length_nil,pf]; omega)
 have e3:decide (([]:List D).length+(b.map D.str).length=(b.map D.str).length)=true:=pa (by simp only [List.length_nil,pf]; omega)
 have e4:decide ((b.map D.str).length+(List.map D.str nms).length≤4294967296)=true:=pa (by simp only [pf]; omega)
 have g1:=zb6 hj hx (FQ m n 10 nm kids nms pl b b k j h);have g2:=zb6 hj hx (FQ m n 10 nm kids nms pl b (b++nms) k j h);rw [zo,z6 hj] at *;rw [e1];cases decide (j=1)
 ·exact g1
 ·exact g1
theorem yaz:H60 11:=λ m n nm kids nms pl b k j h x hb hj hx=>by
 refine (zz5 (zbl m) p93 q60 u98 n k h (b.map .str) nm kids nms pl j).trans ?_;have e1:decide ((j:Int)=1)=decide (j=1):=dI j 1;have e0:decide ((j:Int)=0)=decide (j=0):=dI j 0;have e2:decide (([]:List D).length+(b.map D.str).length≤4294967296)=true:=pa (by simp only [List.length_nil,pf]; omega)
 have e3:decide (([]:List D).length+(b.map D.str).length=(b.map D.str).length)=true:=pa (by simp only [List.length_nil,pf]; omega)
 have e4:decide ((b.map D.str).length+(List.map D.str nms).length≤4294967296)=true:=pa (by simp only [pf]; omega)
 have g1:=zb6 hj hx (FQ m n 11 nm kids nms pl b b k j h);have g2:=zb6 hj hx (FQ m n 11 nm kids nms pl b (b++nms) k j h);rw [zo,z6 hj] at *;rw [e1,e0];cases decide (j=1) <;> cases decide (j=0) <;> first | exact g1 | rfl
end Go.Vai
end

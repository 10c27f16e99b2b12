/-
  Show: the library's functions that are taken as one step: strings.Builder's String, and strings.Join: they do what is said of them. To: Slice: Need of the document.
-/
import Derived.Test.YtmolcgfhgdhgoaaGreatDoorSliPart3
set_option linter.all false
section
set_option linter.unusedVariables false
namespace Go.Proofs
open Go.Shelf Go.RowKit
variable {P:Program} {ρ:Ren}
set_option maxHeartbeats 2000000 in
set_option maxRecDepth 100000 in
theorem Any.String_core(L:Lays.n169 P ρ)(X:Builder.Extra P ρ)(b:Nat)(w w2:World)(ao p:Option Addr)(n cap:Nat)(s:ByteArray)
  (c1:w.drew.cell? ⟨b,1,none⟩=some (.slice ao n cap))
  (hSD:(Builtin.unsafeSliceData_ #[(ρ.t 37)] (ρ.t 127) #[.slice ao n cap]).run P w.drew=.ok (.pointer p) w.drew)
  (hUS:(Builtin.unsafeString_ #[(ρ.t 127),(ρ.t 3)] (ρ.t 9) #[.pointer p,.int .i64 n]).run P w.drew=.ok (.string s) w2) :
  Calls P (ρ.f 169) #[.pointer (some ⟨b,0,none⟩)] w λ e w'=>e=.returned (.string s)∧w'=w2:=by
 have mixed:=L.mixed;have t72:=L.t72; have a72:=L.a72; have z72:=L.z72; have v72:=L.v72; have u72:=run_underlying L.t72;have t70:=L.t70; have a70:=L.a70; have z70:=L.z70; have v70:=L.v70; have u70:=run_underlying L.t70;have t37:=L.t37; have a37:=L.a37; have z37:=L.z37; have v37:=L.v37; have u37:=run_underlying L.t37;have t127:=L.t127; have a127:=L.a127; have z127:=L.z127; have v127:=L.v127; have u127:=run_underlying L.t127;have t3:=L.t3; have a3:=L.a3; have z3:=L.z3; have v3:=L.v3; have u3:=run_underlying L.t3;have t9:=L.t9; have a9:=L.a9; have z9:=L.z9; have v9:=L.v9; have u9:=run_underlying L.t9;have t5:=X.t5; have a5:=X.a5; have z5:=X.z5; have v5:=X.v5; have u5:=run_underlying X.t5
 go_enter L.f169,Body.n169_ntmps ρ
 go_wp2
 go_region_o
 all_goals (go_wp2; go_ret; exact ⟨rfl,rfl⟩)
theorem Tryz.String_core(b:Nat)(w w2:World)(ao p:Option Addr)(n cap:Nat)(s:ByteArray)
  (c1:w.drew.cell? ⟨b,1,none⟩=some (.slice ao n cap))
  (hSD:(Builtin.unsafeSliceData_ #[174] 232 #[.slice ao n cap]).run Tryz.prog w.drew=.ok (.pointer p) w.drew)
  (hUS:(Builtin.unsafeString_ #[232,3] 9 #[.pointer p,.int .i64 n]).run Tryz.prog w.drew=.ok (.string s) w2) :
  Calls Tryz.prog 164 #[.pointer (some ⟨b,0,none⟩)] w λ e w'=>e=.returned (.string s)∧w'=w2:=
 Any.String_core Tryz.lays169 Tryz.Builder_Extra_169 b w w2 ao p n cap s c1 hSD hUS
end Go.Proofs
namespace Go.Vai
open Go.Proofs Go.Sort
section
variable {cx:Cx} {w w':World} {σ:St} {μ:Mu}
theorem zw6{w w':World}(h:RowKit.Below w.heap.size w w'){b i:Nat}{x:Value}(hc:w.cell? ⟨b,i,none⟩=some x):w'.cell? ⟨b,i,none⟩=some x:=by
 have:=h.block b (lt_of_cell hc);unfold World.cell? at hc ⊢;simp only at hc ⊢;rw [this];exact hc
theorem zg9(hi:Inv cx w σ μ)(h:RowKit.Below w.heap.size w w'):After cx w σ μ w' σ μ:=by
 have hu:Upd cx w σ μ w' σ μ []:=⟨h.os,h.output,h.size,λ b hb _=>h.block b hb,λ b i x _ hc=>zw6 h hc,rfl,λ _ _=>⟨rfl,rfl⟩,λ _ h=>by simp at h,λ _ h=>by simp at h,λ _ h=>by simp at h⟩
 exact hu.after hi (λ _ h=>by simp at h)
theorem zlx(w:World)(g n:Nat):∀ b,b ≠ g→(w.freeze ⟨g,0,none⟩ n).heap[b]?=w.heap[b]?:=λ b hb=>by
 unfold World.freeze;split
 ·rfl
 ·simp [Array.getElem?_modify,Ne.symm hb]
theorem zui(w:World)(g n:Nat)(b k:Nat):(w.freeze ⟨g,0,none⟩ n).cell? ⟨b,k,none⟩=w.cell? ⟨b,k,none⟩:=by
 by_cases hbg:b=g
 ·subst hbg;unfold World.freeze;split
  ·rfl
  ·unfold World.cell?;simp only [Array.getElem?_modify,if_true];cases h:w.heap[b]? with
   | none=>rfl
   | some o=>cases o <;> rfl
 ·unfold World.cell?;simp only;rw [zlx w g n b hbg]
theorem z3c{id k:Nat}(ho:zg σ id=some (.tok k))(hos:w'.os=w.os)(hout:w'.output=w.output)(hsize:w.heap.size≤w'.heap.size)
  (hblk:∀ b,b<w.heap.size→(μ id).blk ≠ some b→w'.heap[b]?=w.heap[b]?) (hcell:∀ b i x,w.cell? ⟨b,i,none⟩=some x→w'.cell? ⟨b,i,none⟩=some x) :
  Upd cx w σ μ w' (vk σ id (.tok (k+1))) (setMu μ id ⟨none,0,0,0⟩) [id] where
 os:=hos
 output:=hout
 size:=hsize
 blk:=λ b hb h=>hblk b hb λ e=>h id (by simp) _ ho (μ id).f ⟨e,Nat.le_refl _⟩
 cell:=λ b i x _ h=>hcell b i x h
 fr:=rfl
 same:=λ j hj=>by
  have:id ≠ j:=λ e=>hj (by simp [e])
  exact ⟨by simp [zn,this],by simp [setMu,Ne.symm this]⟩
 own:=λ j hj q hq b i hown _=>by
  simp at hj; subst hj;simp only [zn,if_true] at hq;cases hq;have:=hown.1;simp [setMu] at this
 still:=λ j hj q hq=>by
  simp at hj; subst hj;rw [ho] at hq; cases hq;simp only [zn,if_true];exact ⟨by omega,λ h=>by omega⟩
 apart:=λ j hj j' hj' _ _ _ _ _ _ _ _ _=>by simp at hj hj'; rw [hj,hj']
theorem zwp{id k:Nat}(hi:Inv cx w σ μ)(ho:zg σ id=some (.tok k))(hos:w'.os=w.os)(hout:w'.output=w.output)(hsize:w.heap.size≤w'.heap.size)
  (hblk:∀ b,b<w.heap.size→(μ id).blk ≠ some b→w'.heap[b]?=w.heap[b]?) (hcell:∀ b i x,w.cell? ⟨b,i,none⟩=some x→w'.cell? ⟨b,i,none⟩=some x) :
  After cx w σ μ w' (vk σ id (.tok (k+1))) (setMu μ id ⟨none,0,0,0⟩):=
 (z3c ho hos hout hsize hblk hcell).after hi λ j hj o' ho'=>by
  simp at hj; subst hj;simp only [zn,if_true] at ho';cases ho';intro b hb;simp [setMu] at hb
theorem zlj:szN 6291457=1:=by decide
theorem z0a{id k:Nat}(hc:Canon σ)(ho:zg σ id=some (.tok k)):∀ j o,zg (vk σ id (.tok (k+1))) j=some o→j<σ.length∧∀ i∈o.ids,i<σ.length:=by
 intro j o hj;rw [zn] at hj;by_cases h:id=j
 ·subst h;rw [if_pos rfl] at hj;cases hj;exact ⟨(hc id _ ho).1,by simp [Ob.ids]⟩
 ·rw [if_neg h] at hj;exact hc j o hj
theorem zzd(hP : cx.P = Tryz.prog){args : List V}{out : Out}{σ' : St}(h : zkv args σ = some (out, σ')){vs : List Value}(hi : Inv cx w σ μ)(hcan : Canon σ)(hv : RVs w σ μ vs args) :
    ∃ u, out = .ret u ∧ (∀ k o, zg σ' k = some o → k < σ.length ∧ ∀ i ∈ o.ids, i < σ.length) ∧ (∀ i ∈ u.ids, i < σ.length) ∧
    Calls cx.P 164 vs.toArray w λ e w' => ∃ μ' x, e = .returned x ∧ After cx w σ μ w' σ' μ' ∧ RV w' σ' μ' x u := by
  unfold zkv at h;obtain ⟨i, hargs, h1⟩ := zb h;clear h;obtain rfl := zy4 hargs;obtain ⟨⟨sz, l, id⟩, hq, h2⟩ := zb h1;clear h1;obtain ⟨n, p, r, ho⟩ := zvp hq;obtain ⟨k, hk, h3⟩ := zb h2;clear h2;have ht := zvk hk;obtain ⟨hc, h4⟩ := zc h3;clear h3;obtain ⟨s, hs, h⟩ := zb h4;clear h4;cases h;clear hk hq hargs;simp only at hs hc ht ho;simp only [ph, decide_eq_true_eq] at hc;obtain ⟨⟨hsz, hk⟩, hlen⟩ := hc;have hsz := pg hsz;subst hsz;subst hk;have hl := zor l s hs;refine ⟨_, rfl, z0a hcan ht, by simp [V.ids], ?_⟩
  -- the argument
  obtain ⟨v, rfl⟩ : ∃ v, vs = [v] := List.length_eq_one_iff.1 (by simpa using hv.1)
  have hv0 := hv.2 0 v _ rfl rfl;cases hv0 with | ptr _ _ b _ hb => ?_
  obtain ⟨b', cs, el, hb', hh, _, _, _, hrs, _⟩ := hi.ob i _ ho;obtain rfl : b = b' := by rw [hb] at hb'; exact Option.some.inj hb'
  obtain ⟨v1, hv1⟩ : ∃ v1, cs.toList[1]? = some v1 := yl (by rw [hrs.1]; simp [V.cells])
  have hr1 := hrs.2 1 v1 (.sl 6291457 l id) hv1 rfl;cases hr1 with | sl _ _ _ _ n' hrd ht' hn' htail => ?_
  rw [ht] at ht'; cases ht';have htail := htail rfl;rw [zlj] at hrd;obtain ⟨base, cap, rfl⟩ := hrd.slice_inv;have c1 : w.drew.cell? ⟨b, 1, none⟩ = some (.slice base l.length cap) := by
    show w.cell? ⟨b, 1, none⟩ = _;rw [cell_of_heap hh];simpa using hv1
  rw [hP]
  have fin : ∀ w', w'.os = w.os → w'.output = w.output → w.heap.size ≤ w'.heap.size → (∀ b, b < w.heap.size → (μ id).blk ≠ some b → w'.heap[b]? = w.heap[b]?) →
      (∀ b i x, w.cell? ⟨b, i, none⟩ = some x → w'.cell? ⟨b, i, none⟩ = some x) →
      ∃ μ' x, Ending.returned (.string ⟨s.toArray⟩) = .returned x ∧ After cx w σ μ w' (vk σ id (.tok (l.length + 1))) μ' ∧ RV w' (vk σ id (.tok (l.length + 1))) μ' x (.d (.str s)) :=
    λ w' h1 h2 h3 h4 h5 => ⟨_, _, rfl, zwp hi ht h1 h2 h3 h4 h5, .d _ _ (.str s)⟩
  by_cases he : l = []
  · subst he;have hs0 : s = [] := by cases s with | nil => rfl | cons a b => simp at hl
    subst hs0;rcases htail with ⟨h1, _, _, h2⟩ | ⟨b2, o, _, _, _, _, _, h2⟩
    · subst h1
      obtain rfl : base = none := by rcases h2 with h2 | h2; · exact absurd h2 (by decide)
                                     · exact h2
      refine (Tryz.String_core b w w.drew none none 0 0 .empty c1 rfl (Lib.run_unsafeString_none w.drew 232 3 9 none)).mono ?_;rintro e w' ⟨rfl, rfl⟩;exact fin _ rfl rfl (Nat.le_refl _) (λ _ _ _ => rfl) (λ _ _ _ h => h)
    · rcases h2 with h2 | h2
      · exact absurd h2 (by decide)
      · exact absurd h2.2.2 (by simp)
  · have hpos : 0 < l.length := List.length_pos_iff.2 he;rcases htail with ⟨_, h1, _⟩ | ⟨g, o, hbase, hg, hf, hend, hnc, h2⟩
    · omega
    rcases h2 with h2 | ⟨hel, ho0, _⟩
    · exact absurd h2 (by decide)
    subst hbase;subst ho0;obtain ⟨cs', el', fr', hh', hel', hcs', _⟩ := hi.ob id _ ht g hg;have h6 : (6291457 : Nat) / 1048576 = 6 := by decide
    have hel5 : el' = 5 := by rw [hel']; rw [h6] at hel; exact (Nat.succ.inj hel).symm
    rw [zlj] at hend;subst hel5;have hsl : s.length = l.length := by rw [hl]; simp
    have hs0 : s ≠ [] := λ e => by rw [e] at hsl; simp at hsl; omega
    have hcell : ∀ j x, s[j]? = some x → w.drew.cell? ((⟨g, 0, none⟩ : Addr).add j) = some (.int .u8 x.toNat) := by
      intro j x hx;have hj := (pj.1 hx).1;generalize hnl : l.length = nl at hrd;cases hrd with
      | sl0 => exact absurd rfl he
      | sl _ _ _ _ _ _ xs hn hcap hszs hcells hels =>
        have hlx : l[j]? = some (zl6 x) := by rw [hl, List.getElem?_map, hx]; rfl
        have h1 := hcells j (by omega)
        have h2 := hels j 0 (zl6 x) (zl6 x) hlx rfl;simp only [Nat.mul_one, Nat.add_zero] at h2;rw [show (⟨g, 0, none⟩ : Addr).add j = ⟨g, 0 + j, none⟩ from by by_cases hj0 : j = 0 <;> simp [Addr.add, hj0]]
        have h3 : w.cell? ⟨g, 0 + j, none⟩ = some (xs j) := h1.1;generalize xs j = q at h2 h3;unfold zl6 at h2;cases h2;exact h3
    have hUS := Lib.run_unsafeString_row (P := Tryz.prog) w.drew 232 3 9 5 (by kernel_rfl) (by kernel_rfl) g cs'.size (by show w.shape? g = _; simp [World.shape?, hh']) s hs0 (by rw [hsl, hcs']; omega) (by omega) hcell
    rw [hsl] at hUS;refine (Tryz.String_core b w _ (some ⟨g, 0, none⟩) (some ⟨g, 0, none⟩) l.length cap ⟨s.toArray⟩ c1 (Lib.run_unsafeSliceData_row w.drew _ _ _ _ _ (by omega)) hUS).mono ?_
    rintro e w' ⟨rfl, rfl⟩;refine fin _ ?_ ?_ ?_ (λ b' _ hb' => ?_) (λ b' i' x hx => ?_)
    · unfold World.freeze; split <;> rfl
    · unfold World.freeze; split <;> rfl
    · unfold World.freeze; split
      · exact Nat.le_refl _
      · simp
    · rw [zlx w.drew g _ b' (λ e => hb' (by rw [e]; exact hg))]
      rfl
    · rw [zui];exact hx
theorem zvz(hP:cx.P=Tryz.prog){args:List V}{out:Out}{σ':St}(h:zjy args σ=some (out,σ')){vs:List Value}(hi:Inv cx w σ μ)(hcan:Canon σ)(hv:RVs w σ μ vs args) :
  ∃ u,out=.ret u∧(∀ k o,zg σ' k=some o→k<σ.length∧∀ i∈o.ids,i<σ.length)∧(∀ i∈u.ids,i<σ.length) ∧
  Calls cx.P 192 vs.toArray w λ e w'=>∃ μ' x,e=.returned x∧After cx w σ μ w' σ' μ'∧RV w' σ' μ' x u:=by
 unfold zjy at h;split at h
 case h_2=>cases h
 rename_i sz xs sep;obtain ⟨l,hl,h1⟩:=zb h;clear h;obtain ⟨hc,h⟩:=zc h1;clear h1;cases h;simp only [ph,decide_eq_true_eq] at hc;refine ⟨_,rfl,hcan,by simp [V.ids],?_⟩
 obtain ⟨v1,v2,rfl⟩:∃ v1 v2,vs=[v1,v2]:=by
  have:=hv.1
  match vs,this with
  | [a,b],_=>exact ⟨a,b,rfl⟩
 have h1:=hv.2 0 v1 _ rfl rfl;have h2:=hv.2 1 v2 _ rfl rfl;cases h2 with | d _ _ h2=>?_
 cases h2;cases h1 with | d _ _ h1=>?_
 have hxs:=zkk xs l hl;rw [hP];have fin:∀ (q:ByteArray) (w':World),q=y9 (Lib.join l sep)→RowKit.Below w.heap.size w w'→∃ μ' x,Ending.returned (.string q)=.returned x∧After cx w σ μ w' σ μ'∧RV w' σ μ' x (.d (.str (Lib.join l sep))):=by
  rintro q w' rfl hb;exact ⟨μ,_,rfl,zg9 hi hb,.d _ _ (.str _)⟩
 cases h1 with
 | sl0 base cap _=>
  have hl0:l=[]:=by cases l with | nil=>rfl | cons a b=>simp at hxs
  subst hl0;refine (Tryz.strings_Join_none base cap (y9 sep) w).mono ?_;rintro e w' ⟨rfl,rfl⟩;exact fin _ _ (by simp [Lib.join,List.intercalate,y9]) (RowKit.Below.refl _ _)
 | sl b o n cap _ _ ys hn hcap hsz hcell hels=>
  subst hn;by_cases h0:l=[]
  ·subst h0;have hx0:xs=[]:=by simpa using hxs
   subst hx0;refine (Tryz.strings_Join_none (some ⟨b,o,none⟩) cap (y9 sep) w).mono ?_;rintro e w' ⟨rfl,rfl⟩;exact fin _ _ (by simp [Lib.join,List.intercalate,y9]) (RowKit.Below.refl _ _)
  have hlen:xs.length=(l.map y9).length:=by rw [hxs]; simp
  have hsz1:sz=1:=by
   have hne:xs ≠ []:=by rw [hxs]; simpa using h0
   obtain ⟨y,hy⟩:=List.exists_mem_of_ne_nil xs hne;have:=hsz y hy;rw [hxs] at hy;obtain ⟨q,_,rfl⟩:=List.mem_map.1 hy;exact this.symm
  subst hsz1;have hmap:(l.map y9).map (·.data.toList)=l:=by
   rw [List.map_map]
   conv=>rhs; rw [←List.map_id l]
   exact List.map_congr_left λ a _=>by simp [y9]
  have hsep:(y9 sep).data.toList=sep:=by simp [y9]
  have hj:=Tryz.strings_Join b o cap (l.map y9) (y9 sep) w (λ j x hx=>?_) ?_ (by rw [←hlen,hxs]; simpa using hc.1) (by rw [←hlen]; exact hcap) (by rw [hmap,hsep]; exact hc.2)
  ·rw [hmap,hsep,←hlen] at hj;refine hj.mono ?_;rintro e w' ⟨rfl,hb⟩;exact fin _ _ rfl hb
  ·rw [List.getElem?_map,Option.map_eq_some_iff] at hx;obtain ⟨q,hq,rfl⟩:=hx;have hjl:j<xs.length:=by rw [hlen]; simpa using (pj.1 hq).1
   have g1:=(hcell j (by omega)).1
   have hlx:xs[j]?=some (.str q):=by rw [hxs,List.getElem?_map,hq]; rfl
   have g2:=hels j 0 (.str q) (.str q) hlx rfl;simp only [Nat.mul_one,Nat.add_zero] at g2;generalize ys j=z at g1 g2;cases g2;exact g1
  ·have hpos:0<xs.length:=by rw [hlen]; simpa using List.length_pos_iff.2 h0
   exact lt_of_cell (hcell 0 (by omega)).1
theorem zil:∀ l:List Int,(wn l).Perm l
 | []=>.refl _
 | x::l=>by
  have ins:∀ (x:Int) (l:List Int),(zg2 x l).Perm (x::l):=by
   intro x l
   induction l with
   | nil=>exact .refl _
   | cons y r ih=>
    unfold zg2;cases decide (x≤y)
    ·exact (ih.cons y).trans (.swap x y r)
    ·exact .refl _
  exact (ins x _).trans ((zil l).cons x)
theorem ztl:∀ l:List Int,(wn l).Pairwise (·≤·)
 | []=>by simp [wn]
 | x::l=>by
  have ins:∀ (x:Int) (l:List Int),l.Pairwise (·≤·)→(zg2 x l).Pairwise (·≤·):=by
   intro x l
   induction l with
   | nil=>intro _; simp [zg2]
   | cons y r ih=>
    intro h;rw [List.pairwise_cons] at h;unfold zg2;by_cases hxy:x≤y
    ·rw [pa hxy];simp only [cond_true,List.pairwise_cons,List.mem_cons];refine ⟨λ z hz=>?_,h⟩;rcases hz with rfl | hz
     ·exact hxy
     ·exact Int.le_trans hxy (h.1 z hz)
    ·rw [pb hxy];simp only [cond_false,List.pairwise_cons];refine ⟨λ z hz=>?_,ih h.2⟩;have hz:z=x∨z∈r:=by
      have hp:(zg2 x r).Perm (x::r):=by
       clear ih h hz hxy
       induction r with
       | nil=>exact .refl _
       | cons y r ih=>
        unfold zg2;cases decide (x≤y)
        ·exact (ih.cons y).trans (.swap x y r)
        ·exact .refl _
      simpa using hp.mem_iff.1 hz
     rcases hz with rfl | hz
     ·omega
     ·exact h.1 z hz
  exact ins x _ (ztl l)
theorem ztk(l:List Int):(l.mergeSort λ x y=>decide (x≤y))=wn l:=by
 have h1:(l.mergeSort λ x y=>decide (x≤y)).Pairwise (·≤·):=by
  have:=List.pairwise_mergeSort (le:=λ x y:Int=>decide (x≤y)) (by intro a b c; simp; omega) (by intro a b; simp; omega) l
  exact this.imp λ h=>by simpa using h
 exact ((List.mergeSort_perm l _).trans (zil l).symm).eq_of_pairwise (λ a b _ _ h1 h2=>by omega) h1 (ztl l)
theorem zqw:∀ {l:List D} {zs:List Int},zj1 l=some zs→l=zs.map (.int .i64)
 | [],zs,h=>by cases h; rfl
 | x::r,zs,h=>by
  unfold zj1 at h;split at h
  ·rename_i he; cases he
  ·rename_i n q he;cases he;split at h
   ·rename_i l hl; cases h; rw [zqw hl]; rfl
   ·cases h
  ·cases h
theorem zvy(hP:cx.P=Tryz.prog){args:List V}{out:Out}{σ':St}(h:zjx args σ=some (out,σ')){vs:List Value}(hi:Inv cx w σ μ)(hcan:Canon σ)(hv:RVs w σ μ vs args) :
  ∃ u,out=.ret u∧(∀ k o,zg σ' k=some o→k<σ.length∧∀ i∈o.ids,i<σ.length)∧(∀ i∈u.ids,i<σ.length) ∧
  Calls cx.P 49 vs.toArray w λ e w'=>∃ μ' x,e=.returned x∧After cx w σ μ w' σ' μ'∧RV w' σ' μ' x u:=by
 unfold zjx at h;split at h
 case h_2=>cases h
 rename_i id k;split at h
 case h_2=>cases h
 rename_i l ho;obtain ⟨hc,h1⟩:=zc h;clear h;obtain ⟨zs,hz,h⟩:=zb h1;clear h1;cases h;simp only [ph,decide_eq_true_eq,Bool.not_eq_true'] at hc;obtain ⟨⟨hk,hle⟩,hne⟩:=hc;obtain rfl:=pg hk;have hl:=zqw hz;have hlen:l.length=zs.length:=by rw [hl]; simp
 have hpos:0<l.length:=by cases l with | nil=>simp at hne | cons=>simp
 refine ⟨_,rfl,λ j o hj=>?_,by simp [V.ids,V.idsL],?_⟩
 ·rw [zn] at hj;by_cases h:id=j
  ·subst h;rw [if_pos rfl] at hj;cases hj;exact ⟨(hcan id _ ho).1,by simp [Ob.ids]⟩
  ·rw [if_neg h] at hj;exact hcan j o hj
 obtain ⟨v,rfl⟩:∃ v,vs=[v]:=List.length_eq_one_iff.1 (by simpa using hv.1)
 have hv0:=hv.2 0 v _ rfl rfl;cases hv0 with | slo _ _ _ cap base l' hl' hkl hcap hn hat=>?_
 rw [ho] at hl'; cases hl';rcases hat rfl with ⟨_,_,hc0⟩ | ⟨b,rfl,hb,hf,hend⟩
 ·omega
 obtain ⟨cs,el,hh,hcs,h2,h3,h4,h5⟩:=hi.ob id _ ho b hb;rw [hf] at h2 h4 h5;have hget:∀ (j:Nat) z,zs[j]?=some z→cs[j]?=some (.int .i64 z):=λ j z hj=>by
  have hlj:l[j]?=some (.int .i64 z):=by rw [hl,List.getElem?_map,hj]; rfl
  obtain ⟨v,hv,hvc⟩:=h5 j 0 _ (.int .i64 z) hlj rfl;cases hvc;simpa using hv
 have hH:Holds (Value.int .i64) w b 0 zs.toArray:=λ j hj=>by
  have hj':j<zs.length:=by simpa using hj
  refine ⟨?_,?_⟩
  ·rw [cell_of_heap hh,Nat.zero_add,hget j zs[j] (pr hj')];rw [getElem!_pos zs.toArray j hj];simp
  ·simp [World.frozen?,hh]
 rw [hP,show ([Value.slice (some ⟨b,0,none⟩) l.length cap]).toArray = #[.slice (some ⟨b,0,none⟩) zs.length cap] by rw [hlen]]
 refine (Tryz.slices_Sort_int b 0 cap zs w hH (lt_of_heap hh) (by omega)).mono ?_
 rintro e w' ⟨rfl,n,os,hw'⟩;rw [ztk] at hw';have hsl:(wn zs).length=zs.length:=(zil zs).length_eq;have hlt:=lt_of_heap hh;have hother:∀ b',b' ≠ b→b'<w.heap.size→w'.heap[b']?=w.heap[b']?:=λ b' hb' hlt'=>by
  rw [hw',heap_grow_old _ _ (by simpa [putRow,mapBlock,Sort.ahead] using hlt')]
  simp [putRow,mapBlock,Sort.ahead,Array.getElem?_modify,Ne.symm hb']
 have hnew:w'.heap[b]?=some (.cells (putCells (Value.int .i64) 0 (wn zs).toArray cs) el (0,0)):=by
  rw [hw',heap_grow_old _ _ (by simpa [putRow,mapBlock,Sort.ahead] using hlt)]
  simp [putRow,mapBlock,Sort.ahead,Array.getElem?_modify,hh,onCells]
 have hsize:w.heap.size≤w'.heap.size:=by rw [hw']; simp [grow,putRow,mapBlock,Sort.ahead]
 have hup:Upd cx w σ μ w' (vk σ id (.row ((wn zs).map (.int .i64)))) μ [id]:={
  os:=by rw [hw']; rfl,output:=by rw [hw']; rfl,size:=hsize,
  blk:=λ b' hb' hno=>hother b' (λ e=>hno id (by simp) _ ho 0 (by rw [e]; exact hb)) hb',
  cell:=λ b' i x hno hc=>by
   have hne:b' ≠ b:=λ e=>hno id (by simp) _ ho (by rw [e]; exact hb)
   have:=hother b' hne (lt_of_cell hc);unfold World.cell? at hc ⊢;simp only at hc ⊢;rw [this]; exact hc,
  fr:=rfl,same:=λ j hj=>⟨by rw [zn,if_neg (Ne.symm (by simpa using hj))],rfl⟩,
  own:=λ j hj q hq b' i hown _=>by
   simp at hj; subst hj;rw [zn,if_pos rfl] at hq; cases hq;exact ⟨_,ho,hown⟩,
  still:=λ j hj q hq=>by
   simp at hj; subst hj;rw [ho] at hq; cases hq;rw [zn,if_pos rfl];exact ⟨by simp [hsl,hlen],λ _=>rfl⟩,
  apart:=λ j hj j' hj' _ _ _ _ _ _ _ _ _=>by simp at hj hj'; rw [hj,hj'] }
 refine ⟨μ,_,rfl,hup.after hi λ j hj o' ho'=>?_,.tup #[] [] rfl (by simp)⟩
 simp at hj; subst hj;rw [zn,if_pos rfl] at ho'; cases ho';refine vh.of hb hnew (by simp [putCells,hcs]) (by rw [hf]; simp [putCells,hsl]; omega) (λ x hx=>?_) (λ y hy=>?_) λ k c hk=>?_
 ·simp only [putCells,Array.toList_mapIdx,List.mem_mapIdx] at hx;obtain ⟨i,hi',hx⟩:=hx;rw [←hx];split
  ·rfl
  ·exact h3 _ (List.getElem_mem _)
 ·rw [hf];obtain ⟨z,_,rfl⟩:=List.mem_map.1 hy;rfl
 ·have hfl:yd ((wn zs).map (.int .i64))=(wn zs).map (.int .i64):=by
   unfold yd;generalize wn zs=q
   induction q with
   | nil=>rfl
   | cons a q ih=>simp only [List.map_cons,List.flatMap_cons,ih]; rfl
  rw [hfl,List.getElem?_map,Option.map_eq_some_iff] at hk;obtain ⟨z,hz',rfl⟩:=hk;have hklt:=(pj.1 hz').1;refine ⟨.int .i64 z,?_,.int _ _⟩;have hkc:k<cs.size:=by omega
  simp only [putCells,Array.getElem?_mapIdx,Array.getElem?_eq_getElem hkc,Option.map_some];rw [if_pos ⟨Nat.zero_le _,by simpa using hklt⟩]
  rw [getElem!_pos _ _ (by simpa using hklt)]
  have:(wn zs)[k]=z:=(pj.1 hz').2;simp [this]
theorem zm7{n:Nat}{l:List (List UInt8)}{v:Value}(hi:Inv cx w σ μ)(h:w'.ownsRow w.heap.size 9 1 v n (l.map λ s=>Value.string (y9 s)))(hn:l.length=n)(haf:After cx w σ μ w' σ μ):RD w' (zp σ μ) v (.sl 1 (l.map .str)):=by
 obtain ⟨hlen,h⟩:=h;rcases h with ⟨rfl,h0⟩ | ⟨g,cap,cur,rfl,hg,hh,hcap,_,hsize,htake⟩
 ·have:l=[]:=List.eq_nil_of_length_eq_zero (by omega)
  subst this;exact .sl0 _ _ _
 ·have hfree:∀ i,¬ zp σ μ g i:=λ i ho=>by
   rcases ho with hf | ⟨id,o,ho,hown⟩
   ·exact absurd (hi.frLt _ _ hf) (by omega)
   ·exact absurd (zec hi ho hown) (by omega)
  refine RD.ofRow (cs:=cur) hh (by simp [hn]) hcap (λ y hy=>by obtain ⟨s,_,rfl⟩:=List.mem_map.1 hy; rfl) (λ k c hk=>?_) λ k _=>by rw [Nat.zero_add]; exact hfree k
  have hfl:yd (l.map .str)=l.map .str:=by
   unfold yd;clear hlen htake hn hk
   induction l with
   | nil=>rfl
   | cons a q ih=>simp only [List.map_cons,List.flatMap_cons,ih]; rfl
  rw [hfl,List.getElem?_map,Option.map_eq_some_iff] at hk;obtain ⟨s,hs,rfl⟩:=hk;have hklt:=(pj.1 hs).1;have:(cur.toList.take (n * 1))[k]?=some (.string (y9 s)):=by rw [htake,List.getElem?_map,hs]; rfl
  rw [List.getElem?_take,if_pos (by omega)] at this
  exact ⟨_,by simpa using this,.str s,rfl⟩
theorem zty(hP:cx.P=Tryz.prog){args:List V}{out:Out}{σ':St}(h:znf args σ=some (out,σ')){vs:List Value}(hi:Inv cx w σ μ)(hcan:Canon σ)(hv:RVs w σ μ vs args) :
  ∃ u,out=.ret u∧(∀ k o,zg σ' k=some o→k<σ.length∧∀ i∈o.ids,i<σ.length)∧(∀ i∈u.ids,i<σ.length) ∧
  Calls cx.P 99 vs.toArray w λ e w'=>∃ μ' x,e=.returned x∧After cx w σ μ w' σ' μ'∧RV w' σ' μ' x u:=by
 unfold znf at h;split at h
 case h_2=>cases h
 rename_i xs;obtain ⟨hc,h1⟩:=zc h;clear h;obtain ⟨l,hl,h⟩:=zb h1;clear h1;cases h;have hc:=pc hc;have hxs:=zkk xs l hl;subst hxs;rw [pf] at hc;refine ⟨_,rfl,hcan,by simp [V.ids],?_⟩
 obtain ⟨v,rfl⟩:∃ v,vs=[v]:=List.length_eq_one_iff.1 (by simpa using hv.1)
 have hv0:=hv.2 0 v _ rfl rfl;cases hv0 with | d _ _ hd=>?_
 rw [hP];have e0:∀ zs:List (List UInt8),(zs.map y9).map (Value.string)=zs.map λ s=>Value.string (y9 s):=λ zs=>by rw [List.map_map]; rfl
 by_cases hne:l=[]
 ·subst hne;obtain ⟨base,cap,rfl⟩:=hd.slice_inv;cases base with
  | none=>
   refine (Tryz.slices_Clone_string_nil 0 cap w).mono ?_;rintro e w' ⟨rfl,rfl⟩;exact ⟨μ,_,rfl,After.refl hi,.d _ _ (.sl0 _ _ _)⟩
  | some a=>
   refine (Tryz.slices_Clone_string_zero a cap w).mono ?_;rintro e w' ⟨v',rfl,ho,_,hb⟩;have haf:=zg9 hi hb;exact ⟨μ,_,rfl,haf,.d _ _ (zm7 (l:=[]) hi ho rfl haf)⟩
 ·generalize hnl:(l.map D.str)=q at hd;cases hd with
  | sl0=>exact absurd (by simpa using hnl) hne
  | sl b o n cap _ _ ys hn hcap hsz hcell hels=>
   subst hnl;have hn:n=l.length:=by simpa using hn
   subst hn;have hj:=Tryz.slices_Clone_string b o l.length cap (l.map y9) w (by simp) (by omega) (λ j hj=>by
    have hj':j<l.length:=by simpa using hj
    have g1:=(hcell j (by omega)).1
    have hlx:(l.map D.str)[j]?=some (.str l[j]):=by rw [List.getElem?_map,pr hj']; rfl
    have g2:=hels j 0 (.str l[j]) (.str l[j]) hlx rfl;simp only [Nat.mul_one,Nat.add_zero] at g2;generalize ys j=z at g1 g2;cases g2;rw [g1];simp [List.getD_eq_getElem?_getD,hj'])
   refine hj.mono ?_;rintro e w' ⟨v',rfl,ho,_,hb⟩;have haf:=zg9 hi hb;rw [List.take_of_length_le (by simp),e0] at ho
   exact ⟨μ,_,rfl,haf,.d _ _ (zm7 hi ho rfl haf)⟩
theorem z4z(hP : cx.P = Tryz.prog)(hg : ∀ g e, cx.grow g = some e → g = 165 ∧ e = 9) : z38 cx := by
  intro g e h n w h0 h1;obtain ⟨rfl, rfl⟩ := hg g e h;refine ⟨⟨_, by rw [hP]; exact Tryz.func165, by kernel_rfl⟩, ?_⟩
  obtain ⟨m, rfl⟩ : ∃ m : Nat, n = (m : Int) := ⟨n.toNat, by omega⟩
  rw [hP];by_cases hm : m = 0
  · subst hm;refine (Any8.slices_Grow_room Tryz.growS none 0 0 0 w (by omega) (by omega) (by omega) (by omega)).mono ?_
    rintro x w' ⟨rfl, rfl⟩;exact ⟨none, 0, rfl, .inl ⟨rfl, rfl, rfl⟩⟩
  · have hi9 : Tryz.prog.info? 9 = Tryz.prog.info? 9 := rfl;obtain ⟨i, hi⟩ : ∃ i, Tryz.prog.info? 9 = some i := by
      cases hq : Tryz.prog.info? 9 with
      | some i => exact ⟨i, rfl⟩
      | none => have : (Tryz.prog.info? 9).isSome = true := by kernel_rfl
                rw [hq] at this; cases this
    have hs : (Tryz.prog.info? 9).map (λ i => (i.zero.isSome, i.size, i.bytes)) = some (true, 1, 16) := by kernel_rfl
    rw [hi] at hs;simp only [Option.map_some, Option.some.injEq, Prod.mk.injEq] at hs;obtain ⟨hz, hsz, hby⟩ := hs;obtain ⟨z, hz⟩ := Option.isSome_iff_exists.1 hz;have hzc : z.cells.size = 1 := by
      have : (Tryz.prog.info? 9).bind (λ i => i.zero.map λ z => z.cells.size) = some 1 := by kernel_rfl
      rw [hi] at this;simp only [Option.bind_some, hz, Option.map_some, Option.some.injEq] at this;exact this
    refine (Any8.slices_Grow_grow Tryz.growS i z hi hz (by omega) none 0 0 m [] w (by omega) (by omega) (by rw [hby]; omega) (by omega) (by simp) (λ _ => rfl) (λ a h => by cases h)).mono ?_
    rintro x w' ⟨rfl, rfl⟩;refine ⟨_, _, rfl, .inr ⟨_, _, rfl, rfl, ?_⟩⟩;have hc1 : Tryz.prog.cellsOf 9 = 1 := by kernel_rfl
    have hge := grownCap_ge w (0 + m) 0 9;simp only [Array.size_append, wo, hzc, hc1];show ([] : List Value).toArray.size + (0 + m - 0) * 1 + (_ - (0 + m)) * 1 = _ * 1;simp only [List.size_toArray, List.length_nil];have hge : 0 + m ≤ grownCap w (0 + m) 0 (Tryz.growS_ren.t 25) := hge;omega
theorem zml{f g : Nat}{out : Out}{σ' : St}{vs : List Value}(hfg : f = g)(hfn : ∃ fn, cx.P.funcs[g]? = some fn ∧ fn.body.isNone = false) : (∃ u, out = .ret u ∧ (∀ k o, zg σ' k = some o → k < σ.length ∧ ∀ i ∈ o.ids, i < σ.length) ∧ (∀ i ∈ u.ids, i < σ.length) ∧
      Calls cx.P g vs.toArray w λ e w' => ∃ μ' x, e = .returned x ∧ After cx w σ μ w' σ' μ' ∧ RV w' σ' μ' x u) →
    (∃ fn, cx.P.funcs[f]? = some fn ∧ fn.body.isNone = false) ∧ (∀ k o, zg σ' k = some o → k < σ.length ∧ ∀ i ∈ o.ids, i < σ.length) ∧ (∀ i ∈ (match out with | .ret v => v.ids | .pan v => v.ids), i < σ.length) ∧
    Calls cx.P f vs.toArray w λ e w' => ∃ μ', After cx w σ μ w' σ' μ' ∧
      match out, e with
      | .ret v, .returned x => RV w' σ' μ' x v
      | .pan v, .panicked chain => ∃ x, chain = [{ v := x, recovered := false }] ∧ RV w' σ' μ' x v
      | _, _ => False := by
  intro h;subst hfg;obtain ⟨u, rfl, h1, h2, h3⟩ := h;refine ⟨hfn, h1, h2, h3.mono ?_⟩;rintro e w' ⟨μ', x, rfl, ha, hr⟩;exact ⟨μ', ha, hr⟩
theorem nat_ok(hP:cx.P=Tryz.prog)(hg:∀ g e,cx.grow g=some e→g=165∧e=9):v8 cx nat:=by
 refine ⟨z4z hP hg,?_⟩;intro f args σ out σ' h w μ vs hi hcan hids hall hv;unfold nat at h;cases h1:Nat.beq f 164 <;> rw [h1] at h
 ·rw [cond_false] at h;cases h2:Nat.beq f 192 <;> rw [h2] at h
  ·rw [cond_false] at h;cases h3:Nat.beq f 49 <;> rw [h3] at h
   ·rw [cond_false] at h;cases h4:Nat.beq f 99 <;> rw [h4] at h
    ·cases h
    ·exact zml (pg h4) ⟨_,by rw [hP]; exact Tryz.func99,by kernel_rfl⟩ (zty hP h hi hcan hv)
   ·exact zml (pg h3) ⟨_,by rw [hP]; exact Tryz.func49,by kernel_rfl⟩ (zvy hP h hi hcan hv)
  ·exact zml (pg h2) ⟨_,by rw [hP]; exact Tryz.func192,by kernel_rfl⟩ (zvz hP h hi hcan hv)
 ·exact zml (pg h1) ⟨_,by rw [hP]; exact Tryz.func164,by kernel_rfl⟩ (zzd hP h hi hcan hv)
end
end Go.Vai
end
noncomputable section
namespace Go.Vai
theorem zmt:∀ {l l':List Int},l.Pairwise (· < ·)→l'.Pairwise (· < ·)→(∀ x,x∈l↔x∈l')→l=l'
 | [],[],_,_,_=>rfl
 | [],y::r,_,_,h=>by have:=(h y).2 (pn ..); cases this
 | x::r,[],_,_,h=>by have:=(h x).1 (pn ..); cases this
 | x::r,y::q,h1,h2,h=>by
  rw [List.pairwise_cons] at h1 h2;have hxy:x=y:=by
   have a:=(h x).1 (pn ..);have b:=(h y).2 (pn ..);rw [List.mem_cons] at a b;rcases a with a | a
   ·exact a
   ·rcases b with b | b
    ·exact b.symm
    ·have:=h2.1 x a; have:=h1.1 y b; omega
  subst hxy;rw [zmt h1.2 h2.2 λ z=>?_];constructor
  ·intro hz;have:=(h z).1 (pp _ hz);rw [List.mem_cons] at this;rcases this with rfl | this
   ·have:=h1.1 z hz; omega
   ·exact this
  ·intro hz;have:=(h z).2 (pp _ hz);rw [List.mem_cons] at this;rcases this with rfl | this
   ·have:=h2.1 z hz; omega
   ·exact this
theorem zng{x y:Int}:∀ {l:List Int},y∈zg2 x l↔y=x∨y∈l
 | []=>by simp [zg2]
 | z::l=>by
  unfold zg2;cases decide (x≤z)
  ·simp only [cond_false,List.mem_cons,zng (l:=l)];constructor
   ·rintro (h | h | h)
    ·exact .inr (.inl h)
    ·exact .inl h
    ·exact .inr (.inr h)
   ·rintro (h | h | h)
    ·exact .inr (.inl h)
    ·exact .inl h
    ·exact .inr (.inr h)
  ·simp only [cond_true,List.mem_cons]
theorem zlu{x:Int}:∀ {l:List Int},l.Pairwise (· < ·)→x ∉ l→(zg2 x l).Pairwise (· < ·)
 | [],_,_=>by simp [zg2]
 | z::l,h,hx=>by
  unfold zg2;rw [List.pairwise_cons] at h;simp only [List.mem_cons,not_or] at hx;by_cases hz:x≤z
  ·rw [pa hz];simp only [cond_true,List.pairwise_cons,List.mem_cons];refine ⟨λ y hy=>?_,h⟩;rcases hy with rfl | hy
   ·omega
   ·have:=h.1 y hy; omega
  ·rw [pb hz];simp only [cond_false,List.pairwise_cons];refine ⟨λ y hy=>?_,zlu h.2 hx.2⟩;rw [zng] at hy;rcases hy with rfl | hy
   ·omega
   ·exact h.1 y hy
theorem zkx{y:Int}:∀ {l:List Int},y∈wn l↔y∈l
 | []=>by simp [wn]
 | z::l=>by simp [wn,zng,zkx (l:=l)]
theorem zjg:∀ {l:List Int},l.Nodup→(wn l).Pairwise (· < ·)
 | [],_=>by simp [wn]
 | z::l,h=>by
  rw [List.nodup_cons] at h;exact zlu (zjg h.2) λ hm=>h.1 (zkx.1 hm)
def zcv(p:Nat→Bool)(n:Nat):List Nat:=(List.range n).filter p
theorem zvt(p:Nat→Bool)(n:Nat):((zcv p n).map λ k:Nat=>(k:Int)).Pairwise (· < ·):=by
 rw [List.pairwise_map];have:(List.range n).Pairwise (· < ·):=List.pairwise_lt_range;refine (this.sublist List.filter_sublist).imp ?_;intro a b h; omega
theorem zr8{p:Nat→Bool}{n k:Nat}:k∈zcv p n↔k<n∧p k=true:=by simp [zcv]
theorem zjw{l:List Nat}{k:Nat}:((k:Int)∈l.map λ k:Nat=>(k:Int))↔k∈l:=by
 rw [List.mem_map];constructor
 ·rintro ⟨a,ha,he⟩;have:a=k:=by omega
  exact this ▸ ha
 ·intro h; exact ⟨k,h,rfl⟩
theorem z1p{l:List Nat}{n:Nat}{p:Nat→Bool}(hn:l.Nodup)(h:∀ k,k∈l↔k<n∧p k=true):wn (l.map λ k:Nat=>(k:Int))=(zcv p n).map λ k:Nat=>(k:Int):=by
 have hnd:(l.map λ k:Nat=>(k:Int)).Nodup:=by
  unfold List.Nodup;rw [List.pairwise_map];exact hn.imp λ hab e=>hab (by omega)
 refine zmt (zjg hnd) (zvt p n) λ x=>?_;rw [zkx];constructor
 ·intro hx;obtain ⟨k,hk,rfl⟩:=List.mem_map.1 hx;exact zjw.2 (zr8.2 ((h k).1 hk))
 ·intro hx;obtain ⟨k,hk,rfl⟩:=List.mem_map.1 hx;exact zjw.2 ((h k).2 (zr8.1 hk))
def Sp.row(U:List (List Nat))(k:Nat):List Nat:=U.getD k []
inductive Reach (U:List (List Nat)) (s:Nat):Nat→Prop
 | here:Reach U s s
 | step {j k:Nat} (h:Reach U s j) (hk:k∈Sp.row U j):Reach U s k
def zaj(U:List (List Nat)):Prop:=∀ u∈U,∀ k∈u,k<U.length
theorem zaj.row{U:List (List Nat)}(h:zaj U){j k:Nat}(hk:k∈Sp.row U j):k<U.length:=by
 unfold Sp.row at hk;rw [List.getD_eq_getElem?_getD] at hk;cases hj:U[j]? with
 | none=>rw [hj] at hk; cases hk
 | some u=>rw [hj] at hk; exact h u (po hj) k hk
def Sp.addN(o:List Nat)(i:Nat):List Nat:=if i∈o then o else o++[i]
def w0(o:List Nat):List Nat→List Nat
 | []=>o
 | i::r=>w0 (Sp.addN o i) r
theorem zrm{o:List Nat}{i:Nat}(hn:o.Nodup):(Sp.addN o i).Nodup∧(∀ x,x∈Sp.addN o i↔x∈o∨x=i)∧∃ r,Sp.addN o i=o++r:=by
 unfold Sp.addN;by_cases h:i∈o
 ·rw [if_pos h];exact ⟨hn,λ x=>⟨.inl,λ hx=>hx.elim id λ e=>e ▸ h⟩,[],by simp⟩
 ·rw [if_neg h];refine ⟨?_,λ x=>by simp,[i],rfl⟩
  rw [List.nodup_append];exact ⟨hn,by simp,λ a ha b hb=>by simp at hb; subst hb; exact λ e=>h (e ▸ ha)⟩
theorem zhd:∀ (u:List Nat) {o:List Nat},o.Nodup→(w0 o u).Nodup∧(∀ x,x∈w0 o u↔x∈o∨x∈u)∧∃ r,w0 o u=o++r
 | [],o,hn=>⟨hn,λ x=>by simp [w0],[],by simp [w0]⟩
 | i::u,o,hn=>by
  obtain ⟨h1,h2,r1,h3⟩:=zrm (i:=i) hn;obtain ⟨h4,h5,r2,h6⟩:=zhd u h1;refine ⟨h4,λ x=>?_,r1++r2,by rw [w0,h6,h3,List.append_assoc]⟩
  rw [w0,h5,h2,List.mem_cons,or_assoc]
theorem zdg{o:List Nat}{n:Nat}(hn:o.Nodup)(h:∀ x∈o,x<n):o.length≤n:=by
 have:∀ (n:Nat) (o:List Nat),o.Nodup→(∀ x∈o,x<n)→o.length≤n:=by
  intro n
  induction n with
  | zero=>
   intro o _ h;cases o with
   | nil=>simp
   | cons a r=>have:=h a (pn ..); omega
  | succ n ih=>
   intro o hn h;have h1:(o.filter λ x=>decide (x ≠ n)).length≤n:=ih _ (hn.filter _) λ x hx=>by
    simp only [List.mem_filter,decide_eq_true_eq] at hx;have:=h x hx.1; omega
   have h2:o.length≤(o.filter λ x=>decide (x ≠ n)).length+1:=by
    clear ih h1 h
    induction o with
    | nil=>simp
    | cons a r ih=>
     rw [List.nodup_cons] at hn;by_cases ha:a=n
     ·subst ha;have:r.filter (λ x=>decide (x ≠ a))=r:=List.filter_eq_self.2 λ x hx=>by simp; exact λ e=>hn.1 (e ▸ hx)
      rw [List.filter_cons,if_neg (by simp),this]
      simp
     ·have:=ih hn.2;simp [ha] at this ⊢;omega
   omega
 exact this n o hn h
open Go.Proofs
def zl1:List V→Option (D×List UInt8) | [.d x,.d (.str s)]=>some (x,s) | _=>none
theorem ybf(n:Nat)(l:List (List UInt8))(s:List UInt8):zk cx (CK.plain zo) n 132 [.d (.sl 1 (l.map .str)),.d (.str s)] []=LP cx (CK.plain zo) n 132 0 2 n [(0,V.d (D.sl 1 (List.map D.str l))),(1,V.d (D.str s)),(7,V.d (D.int .i64 (↑(List.map D.str l).length:Int))),(8,V.d (D.int .i64 (0:Int)))] [] (AK cx (CK.plain zo) n 132 0 2 (EK cx 132 0)):=by kernel_rfl
theorem z6d(n k:Nat)(l:List (List UInt8))(s:List UInt8)(i:Int):LP cx (CK.plain zo) n 132 0 2 (k+1) [(0,.d (.sl 1 (l.map .str))),(1,.d (.str s)),(7,.d (.int .i64 (l.length:Int))),(8,.d (.int .i64 i))] [] (AK cx (CK.plain zo) n 132 0 2 (EK cx 132 0))=bif decide (i<(↑l.length:Int)) then za (decide (0≤i)&&decide (i<(↑(List.map D.str l).length:Int))) (ze (List.map D.str l) i.toNat λ y=>ze y.cells 0 λ c=>match c with
 | D.str s_1=>bif decide (s=s_1) then some (Out.ret (V.d (D.int .i64 i)),[]) else LP cx (CK.plain zo) n 132 0 2 k [(0,V.d (D.sl 1 (List.map D.str l))),(1,V.d (D.str s)),(7,V.d (D.int .i64 (↑l.length:Int))),(8,V.d (D.int .i64 (IntKind.i64.wrap (i+(1:Int)))))] [] (AK cx (CK.plain zo) n 132 0 2 (EK cx 132 0))
 | x=>none) else some (Out.ret (V.d (D.int .i64 (Int.negSucc 0))),[]):=by kernel_rfl
theorem yc3(n k:Nat)(l:List Nat)(x i:Int):LP cx (CK.plain zo) n 84 0 2 (k+1) [(0,.d (.sl 1 (l.map λ k:Nat=>D.int .i64 k))),(1,.d (.int .i64 x)),(7,.d (.int .i64 (l.length:Int))),(8,.d (.int .i64 i))] [] (AK cx (CK.plain zo) n 84 0 2 (EK cx 84 0))=bif decide (i<(↑l.length:Int)) then za (decide (0≤i)&&decide (i<(↑(List.map (λ k:Nat=>D.int .i64 (↑k:Int)) l).length:Int))) (ze (List.map (λ k:Nat=>D.int .i64 (↑k:Int)) l) i.toNat λ y=>ze y.cells 0 λ c=>match c with
 | D.int k' n_1=>bif decide (k'=IntKind.i64) then bif decide (x=n_1) then some (Out.ret (V.d (D.int .i64 i)),[]) else LP cx (CK.plain zo) n 84 0 2 k [(0,V.d (D.sl 1 (List.map (λ k:Nat=>D.int .i64 (↑k:Int)) l))),(1,V.d (D.int .i64 x)),(7,V.d (D.int .i64 (↑l.length:Int))),(8,V.d (D.int .i64 (IntKind.i64.wrap (i+(1:Int)))))] [] (AK cx (CK.plain zo) n 84 0 2 (EK cx 84 0)) else none
 | x=>none) else some (Out.ret (V.d (D.int .i64 (Int.negSucc 0))),[]):=by kernel_rfl
theorem ycv(n:Nat)(l:List Nat)(i:Int):zk cx (CK.plain zo) n 25 [.d (.sl 1 (l.map λ k:Nat=>D.int .i64 k)),.d (.int .i64 i)] []=LP cx (CK.plain zo) n 25 0 2 n [(1,V.d (D.int .i64 i)),(7,V.d (D.sl 1 (List.map (λ k:Nat=>D.int .i64 (↑k:Int)) l))),(8,V.d (D.int .i64 (↑(List.map (λ k:Nat=>D.int .i64 (↑k:Int)) l).length:Int))),(9,V.d (D.int .i64 (0:Int)))] [] (AK cx (CK.plain zo) n 25 0 2 (EK cx 25 0)):=by kernel_rfl
theorem ya8(n k:Nat)(l:List Nat)(x i:Int):LP cx (CK.plain zo) n 25 0 2 (k+1) [(1,.d (.int .i64 x)),(7,.d (.sl 1 (l.map λ k:Nat=>D.int .i64 k))),(8,.d (.int .i64 (l.length:Int))),(9,.d (.int .i64 i))] [] (AK cx (CK.plain zo) n 25 0 2 (EK cx 25 0))=bif decide (i<(↑l.length:Int)) then za (decide (0≤i)&&decide (i<(↑(List.map (λ k:Nat=>D.int .i64 (↑k:Int)) l).length:Int))) (ze (List.map (λ k:Nat=>D.int .i64 (↑k:Int)) l) i.toNat λ y=>ze y.cells 0 λ c=>match c with
 | D.int k' n_1=>bif decide (k'=IntKind.i64) then bif decide (n_1=x) then some (Out.ret (V.d (D.bool true)),[]) else LP cx (CK.plain zo) n 25 0 2 k [(1,V.d (D.int .i64 x)),(7,V.d (D.sl 1 (List.map (λ k:Nat=>D.int .i64 (↑k:Int)) l))),(8,V.d (D.int .i64 (↑l.length:Int))),(9,V.d (D.int .i64 (IntKind.i64.wrap (i+(1:Int)))))] [] (AK cx (CK.plain zo) n 25 0 2 (EK cx 25 0)) else none
 | x=>none) else some (Out.ret (V.d (D.bool false)),[]):=by kernel_rfl
theorem ybg(n:Nat)(a b:List (List UInt8)):zk cx (CK.plain zo) n 131 [.d (.sl 1 [.sl 1 (a.map .str),.sl 1 (b.map .str)])] []=LP cx (CK.plain zo) n 131 0 3 n [(0,V.d (D.sl 1 [D.sl 1 (List.map D.str a),D.sl 1 (List.map D.str b)])),(3,V.d (D.int .i64 (0:Int))),(9,V.d (D.sl 1 [D.sl 1 (List.map D.str a),D.sl 1 (List.map D.str b)])),(10,V.d (D.int .i64 (↑[D.sl 1 (List.map D.str a),D.sl 1 (List.map D.str b)].length:Int))),(11,V.d (D.int .i64 (0:Int)))] [] (AK cx (CK.plain zo) n 131 0 3 (EK cx 131 0)):=by kernel_rfl
theorem z8j(n k:Nat)(a b:List (List UInt8))(c:Int):LP cx (CK.plain zo) n 131 0 3 (k+1) [(0,.d (.sl 1 [.sl 1 (a.map .str),.sl 1 (b.map .str)])),(3,.d (.int .i64 c)),(9,.d (.sl 1 [.sl 1 (a.map .str),.sl 1 (b.map .str)])),(10,.d (.int .i64 2)),(11,.d (.int .i64 0))] [] (AK cx (CK.plain zo) n 131 0 3 (EK cx 131 0))=bif decide (IntKind.i64.wrap (c+(↑(List.map D.str a).length:Int))<(0:Int)) then some (Out.pan (V.d (D.iface 9 (D.str [108,101,110,32,111,117,116,32,111,102,32,114,97,110,103,101]))),[]) else LP cx (CK.plain zo) n 131 0 3 k [(0,V.d (D.sl 1 [D.sl 1 (List.map D.str a),D.sl 1 (List.map D.str b)])),(3,V.d (D.int .i64 (IntKind.i64.wrap (c+(↑(List.map D.str a).length:Int))))),(9,V.d (D.sl 1 [D.sl 1 (List.map D.str a),D.sl 1 (List.map D.str b)])),(10,V.d (D.int .i64 (2:Int))),(11,V.d (D.int .i64 (1:Int)))] [] (AK cx (CK.plain zo) n 131 0 3 (EK cx 131 0)):=by kernel_rfl
theorem z8i(n k:Nat)(a b:List (List UInt8))(c:Int):LP cx (CK.plain zo) n 131 0 3 (k+1) [(0,.d (.sl 1 [.sl 1 (a.map .str),.sl 1 (b.map .str)])),(3,.d (.int .i64 c)),(9,.d (.sl 1 [.sl 1 (a.map .str),.sl 1 (b.map .str)])),(10,.d (.int .i64 2)),(11,.d (.int .i64 1))] [] (AK cx (CK.plain zo) n 131 0 3 (EK cx 131 0))=bif decide (IntKind.i64.wrap (c+(↑(List.map D.str b).length:Int))<(0:Int)) then some (Out.pan (V.d (D.iface 9 (D.str [108,101,110,32,111,117,116,32,111,102,32,114,97,110,103,101]))),[]) else LP cx (CK.plain zo) n 131 0 3 k [(0,V.d (D.sl 1 [D.sl 1 (List.map D.str a),D.sl 1 (List.map D.str b)])),(3,V.d (D.int .i64 (IntKind.i64.wrap (c+(↑(List.map D.str b).length:Int))))),(9,V.d (D.sl 1 [D.sl 1 (List.map D.str a),D.sl 1 (List.map D.str b)])),(10,V.d (D.int .i64 (2:Int))),(11,V.d (D.int .i64 (2:Int)))] [] (AK cx (CK.plain zo) n 131 0 3 (EK cx 131 0)):=by kernel_rfl
theorem z8h(n k:Nat)(a b:List (List UInt8))(c:Int):LP cx (CK.plain zo) n 131 0 3 (k+1) [(0,.d (.sl 1 [.sl 1 (a.map .str),.sl 1 (b.map .str)])),(3,.d (.int .i64 c)),(9,.d (.sl 1 [.sl 1 (a.map .str),.sl 1 (b.map .str)])),(10,.d (.int .i64 2)),(11,.d (.int .i64 2))] [] (AK cx (CK.plain zo) n 131 0 3 (EK cx 131 0))=za (decide (0≤c)&&decide (c≤4294967296)&&true&&true&&true) (LP cx (CK.plain zo) n 131 0 11 n [(6,V.sl 1 [] 24),(25,V.d (D.sl 1 [D.sl 1 (List.map D.str a),D.sl 1 (List.map D.str b)])),(26,V.d (D.int .i64 (↑[D.sl 1 (List.map D.str a),D.sl 1 (List.map D.str b)].length:Int))),(27,V.d (D.int .i64 (0:Int)))] [(24,Ob.tok 0)] (AK cx (CK.plain zo) n 131 0 11 (EK cx 131 0))):=by kernel_rfl
theorem z8g(n k:Nat)(a b:List (List UInt8))(l:List D):LP cx (CK.plain zo) n 131 0 11 (k+1) [(6,V.sl 1 l 24),(25,V.d (D.sl 1 [D.sl 1 (List.map D.str a),D.sl 1 (List.map D.str b)])),(26,V.d (D.int .i64 2)),(27,V.d (D.int .i64 (0:Int)))] [(24,Ob.tok l.length)] (AK cx (CK.plain zo) n 131 0 11 (EK cx 131 0))=za (decide (l.length=l.length)&&decide (l.length+(List.map D.str a).length≤4294967296)) (LP cx (CK.plain zo) n 131 0 11 k [(6,V.sl 1 (l++List.map D.str a) 24),(25,V.d (D.sl 1 [D.sl 1 (List.map D.str a),D.sl 1 (List.map D.str b)])),(26,V.d (D.int .i64 (2:Int))),(27,V.d (D.int .i64 (1:Int)))] [(24,Ob.tok (l.length+(List.map D.str a).length))] (AK cx (CK.plain zo) n 131 0 11 (EK cx 131 0))):=by kernel_rfl
theorem z8f(n k:Nat)(a b:List (List UInt8))(l:List D):LP cx (CK.plain zo) n 131 0 11 (k+1) [(6,V.sl 1 l 24),(25,V.d (D.sl 1 [D.sl 1 (List.map D.str a),D.sl 1 (List.map D.str b)])),(26,V.d (D.int .i64 2)),(27,V.d (D.int .i64 (1:Int)))] [(24,Ob.tok l.length)] (AK cx (CK.plain zo) n 131 0 11 (EK cx 131 0))=za (decide (l.length=l.length)&&decide (l.length+(List.map D.str b).length≤4294967296)) (LP cx (CK.plain zo) n 131 0 11 k [(6,V.sl 1 (l++List.map D.str b) 24),(25,V.d (D.sl 1 [D.sl 1 (List.map D.str a),D.sl 1 (List.map D.str b)])),(26,V.d (D.int .i64 (2:Int))),(27,V.d (D.int .i64 (2:Int)))] [(24,Ob.tok (l.length+(List.map D.str b).length))] (AK cx (CK.plain zo) n 131 0 11 (EK cx 131 0))):=by kernel_rfl
theorem z8e(n k:Nat)(a b:List (List UInt8))(l:List D):LP cx (CK.plain zo) n 131 0 11 (k+1) [(6,V.sl 1 l 24),(25,V.d (D.sl 1 [D.sl 1 (List.map D.str a),D.sl 1 (List.map D.str b)])),(26,V.d (D.int .i64 2)),(27,V.d (D.int .i64 (2:Int)))] [(24,Ob.tok l.length)] (AK cx (CK.plain zo) n 131 0 11 (EK cx 131 0))=some (Out.ret (V.d (D.sl 1 l)),[]):=by kernel_rfl
def Sp.mem(s:List UInt8)(l:List (List UInt8)):Bool:=l.any λ x=>decide (x=s)
theorem mem_iff{s:List UInt8}{l:List (List UInt8)}:Sp.mem s l=true↔s∈l:=by
 unfold Sp.mem;rw [List.any_eq_true];constructor
 ·rintro ⟨x,hx,h⟩; have:=pc h; exact this ▸ hx
 ·intro h; exact ⟨s,h,pa rfl⟩
def zc8(k:Int)(l:List Nat):Bool:=l.any λ x:Nat=>decide ((x:Int)=k)
theorem zt1{k:Nat}{l:List Nat}:zc8 (k:Int) l=true↔k∈l:=by
 unfold zc8;rw [List.any_eq_true];constructor
 ·rintro ⟨x,hx,h⟩;have:=pc h;have:x=k:=by omega
  exact this ▸ hx
 ·intro h; exact ⟨k,h,pa rfl⟩
abbrev nI(l:List Nat):List D:=l.map λ k:Nat=>D.int .i64 k
theorem zjv{R:Type}{l:List Nat}{i:Nat}{K:D→Option R}:ze (nI l) i K=zd l[i]? λ t=>K (.int .i64 t):=by
 unfold ze;rw [List.getElem?_map];cases l[i]? <;> rfl
theorem ybx(l:List (List UInt8))(s:List UInt8)(hl:yj l=true):zh cx 132 [.d (.sl 1 (l.map .str)),.d (.str s)] []=some (.ret (mkI (xo (λ x=>decide (s=x)) l)),[]):=by
 refine zl zq (N:=l.length+1) ?_;rw [ybf,pf]
 have h:=zdt (λ k i=>LP cx (CK.plain zo) (l.length+1) 132 0 2 k [(0,.d (.sl 1 (l.map .str))),(1,.d (.str s)),(7,.d (.int .i64 (l.length:Int))),(8,.d (.int .i64 i))] [] (AK cx (CK.plain zo) (l.length+1) 132 0 2 (EK cx 132 0)))
  l (λ x=>decide (s=x)) (λ j=>some (Out.ret (V.d (D.int .i64 j)),[])) (some (Out.ret (V.d (D.int .i64 (Int.negSucc 0))),[])) (xf hl)
  (λ k j x hj hx=>by
   rw [z6d,pf,yh hj,xe,qg,pm,hx];rfl) (λ k=>by rw [z6d,xu,cond_false]) (Nat.lt_succ_self _)
 refine h.trans ?_;unfold xo;cases y0 (λ x=>decide (s=x)) l 0 <;> rfl
theorem m25(l:List Nat)(a:Int)(hl:yj l=true):zh cx 25 [.d (.sl 1 (nI l)),.d (.int .i64 a)] []=some (.ret (mkB (zc8 a l)),[]):=by
 refine zl zq (N:=l.length+1) ?_;rw [ycv,pf]
 have h:=zdt (λ k i=>LP cx (CK.plain zo) (l.length+1) 25 0 2 k [(1,.d (.int .i64 a)),(7,.d (.sl 1 (nI l))),(8,.d (.int .i64 (l.length:Int))),(9,.d (.int .i64 i))] [] (AK cx (CK.plain zo) (l.length+1) 25 0 2 (EK cx 25 0)))
  l (λ x:Nat=>decide ((x:Int)=a)) (λ _=>some (Out.ret (V.d (D.bool true)),[])) (some (Out.ret (V.d (D.bool false)),[])) (xf hl)
  (λ k j x hj hx=>by
   rw [ya8,pf,yh hj,xe,zjv,pm,hx];rfl) (λ k=>by rw [ya8,xu,cond_false]) (Nat.lt_succ_self _)
 refine h.trans ?_;unfold zc8;rw [←ze6 l 0];cases y0 (λ x:Nat=>decide ((x:Int)=a)) l 0 <;> rfl
theorem yby(a b:List (List UInt8))(ha:a.length+b.length≤4294967296):zh cx 131 [.d (.sl 1 [.sl 1 (a.map .str),.sl 1 (b.map .str)])] []=some (.ret (.d (.sl 1 ((a++b).map .str))),[]):=by
 refine zl zq (N:=3) ?_;have w1:IntKind.i64.wrap ((0:Int)+(a.length:Int))=((a.length:Nat):Int):=by rw [IntWalk.i64_in _ (by omega)]; omega
 have w2:IntKind.i64.wrap (((a.length:Nat):Int)+(b.length:Int))=((a.length+b.length:Nat):Int):=by rw [IntWalk.i64_in _ (by omega)]; omega
 have e2:((([D.sl 1 (List.map D.str a),D.sl 1 (List.map D.str b)]:List D).length:Nat):Int)=2:=rfl
 rw [ybg,e2,z8j,pf,w1,pb (p:=((a.length:Nat):Int)<0) (by omega),cond_false,z8i,pf,w2,pb (p:=((a.length+b.length:Nat):Int)<0) (by omega),cond_false,z8h,
  pa (p:=(0:Int)≤((a.length+b.length:Nat):Int)) (by omega),pa (p:=((a.length+b.length:Nat):Int)≤4294967296) (by omega)]
 simp only [Bool.and_self,za,cond_true];have hd:=z8g 3 2 a b [];rw [List.length_nil] at hd;rw [e2];refine hd.trans ?_;rw [pa rfl,pa (p:=0+(List.map D.str a).length≤4294967296) (by simp; omega)]
 simp only [Bool.and_self,za,cond_true,List.nil_append,Nat.zero_add];refine (z8f 3 1 a b (List.map D.str a)).trans ?_;rw [pa rfl,pa (p:=(List.map D.str a).length+(List.map D.str b).length≤4294967296) (by simp; omega)]
 simp only [Bool.and_self,za,cond_true];rw [←pe,←List.map_append];exact z8e 3 0 a b _
theorem zob{a:List V}{q}(h:zl1 a=some q):a=[.d q.1,.d (.str q.2)]:=by
 unfold zl1 at h;split at h
 ·cases h; rfl
 ·cases h
def Sp.put(l:List (List UInt8))(s:List UInt8):List (List UInt8):=bif Sp.mem s l then l else l++[s]
def z6g:List (List UInt8):=[[85],[83,49],[98,97,115,101],[110,111,114,116,104],[115,111,117,116,104],[108,111,111,112],[102,115,116],[115,110,100],[83,117,115,112],[117,110,103,108,117,101],[109,101,114,105,100],[103,108,117,101],[71,108,117,101],[80,97,116,104],[116,114,97,110,115,112],[104,99,111,109,112],[83,49,101,108,105,109],[83,117,115,112,101,108,105,109]]
def wK:List D:=z6g.map .str
def ww(ks:List D)(s:List UInt8):Bool:=ks.any λ k=>match k with | .str t=>decide (s=t) | _=>false
def znp:D→Bool | .str _=>true | _=>false
def zya:D→Bool | .int k _=>decide (k=.i64) | _=>false
def okM(ks vs:List D):Bool:=ks.all znp&&vs.all zya&&decide (ks.length≤vs.length)
def zwu:List V→Option ((List D×List D)×List UInt8) | [.d (.agg [.map ks vs,_,_,_]),.d (.str s)]=>some ((ks,vs),s) | _=>none
def z1n(q:(List D×List D)×List UInt8):Option Bool:=za (okM q.1.1 q.1.2) (some (ww q.1.1 q.2))
def zsn:List V→Option ((List D×List D)×D) | [.d x,.mfunc 79 [.agg [.map ks vs,_,_,_]]]=>some ((ks,vs),x) | _=>none
def strsOf:List D→Option (List (List UInt8))
 | []=>some []
 | .str s::r=>zd (strsOf r) λ l=>some (s::l)
 | _=>none
def zcw:D→Option (List (List UInt8))
 | .sl sz l=>za (Nat.beq sz 1&&decide (l.length<4294967296)) (strsOf l)
 | _=>none
def zvr(q:(List D×List D)×D):Option Int:=za (okM q.1.1 q.1.2) (zd (zcw q.2) λ l=>some (xo (ww q.1.1) l))
def z80(q:(List D×List D)×D):Option Bool:=za (okM q.1.1 q.1.2) (zd (zcw q.2) λ l=>some (l.any (ww q.1.1)))
def zps:CK R1:=zx 79 zwu z1n mkB (CK.plain zo)
def z6e:CK R1:=zx 106 zsn zvr mkI (CK.plain zo)
def xT:D:=.agg [.int .i64 1,.str [120],.sl 5 [],.sl 1 [],.int .i64 0]
def ybr(b:Bool):D:=D.agg [D.int .i64 (bif b then 0 else 1),D.int .i64 0,D.str [],D.sl 2 [],D.sl 6 [],D.sl 2 []]
open Classical in
def isD(x:D)(y:D):Bool:=decide (x=y)
def evK(n:Nat):CK R1:=CK.plain (wh cx n)
theorem zra(n:Nat):knows cx (evK n).S (zh cx):=λ _ _ _ _ _ h=>zg0 h
def K42:CK R1:=zx 78 zsn z80 mkB (evK 60)
def z3m:List V→Option ((D×D)×(D×D)) | [.d t,.d a,.d b,.d c]=>some ((t,a),(b,c)) | _=>none
def z08:D→Option (List UInt8) | .sl 1 [.str s]=>some s | _=>none
def z6i(q:(D×D)×(D×D)):Option Bool:=zd (z08 q.1.2) λ s=>za (isD q.1.1 xT&&isD q.2.1 (.sl 1 [.str [120]])&&isD q.2.2 (.sl 1 [])) (some (ww wK s))
def z4r(b:Bool):V:=.tup [.d (ybr b),.d (.int .i64 0),.d (.int .i64 (bif b then 61 else 0))]
def ybo:CK R1:=zx 42 z3m z6i z4r (CK.plain zo)
theorem ycs(s:List UInt8):zk cx K42 5 42 [.d xT,.d (.sl 1 [.str s]),.d (.sl 1 [.str [120]]),.d (.sl 1 [])] []=bif [s].any (ww wK) then some (.ret (z4r true),[]) else some (.ret (z4r false),[]):=by kernel_rfl
theorem ybh(s:List UInt8):zk cx ybo 5 130 [.d (.str s)] []=zd (z6i ((xT,.sl 1 [.str s]),(.sl 1 [.str [120]],.sl 1 []))) λ b=>some (.ret (.d (.bool (!decide ((bif b then (61:Int) else 0)=0)))),[]):=by kernel_rfl
theorem ycl(n:Nat)(ks vs:List D)(a b c:D)(s:List UInt8):zk cx (CK.plain zo) n 79 [.d (.agg [.map ks vs,a,b,c]),.d (.str s)] []=zd (vt (D.str s) ks 0) λ o=>zim o (λ i=>ze vs i λ y=>match y with
 | D.int k' n=>bif decide (k'=IntKind.i64) then some (Out.ret (V.d (D.bool true)),[]) else none
 | x=>none) (some (Out.ret (V.d (D.bool false)),[])):=by kernel_rfl
theorem z8t(n:Nat)(ks vs:List D)(a b c:D)(l:List (List UInt8)):zk cx zps n 106 [.d (.sl 1 (l.map .str)),.mfunc 79 [.agg [.map ks vs,a,b,c]]] []=LP cx zps n 106 0 2 n [(0,V.d (D.sl 1 (List.map D.str l))),(1,V.mfunc 79 [D.agg [D.map ks vs,a,b,c]]),(7,V.d (D.int .i64 (↑(List.map D.str l).length:Int))),(8,V.d (D.int .i64 (0:Int)))] [] (AK cx zps n 106 0 2 (EK cx 106 0)):=by kernel_rfl
theorem z32(n k:Nat)(ks vs:List D)(a b c:D)(l:List (List UInt8))(i:Int):LP cx zps n 106 0 2 (k+1) [(0,.d (.sl 1 (l.map .str))),(1,.mfunc 79 [.agg [.map ks vs,a,b,c]]),(7,.d (.int .i64 (l.length:Int))),(8,.d (.int .i64 i))] [] (AK cx zps n 106 0 2 (EK cx 106 0))=bif decide (i<(↑l.length:Int)) then za (decide (0≤i)&&decide (i<(↑(List.map D.str l).length:Int))) (ze (List.map D.str l) i.toNat λ y=>ze y.cells 0 λ c_1=>match c_1 with
 | D.str s=>zd (za (((ks,vs),s).fst.fst.all znp&&((ks,vs),s).fst.snd.all zya&&decide (((ks,vs),s).fst.fst.length≤((ks,vs),s).fst.snd.length)) (some (ww ((ks,vs),s).fst.fst ((ks,vs),s).snd))) λ b_1=>bif b_1 then some (Out.ret (V.d (D.int .i64 i)),[]) else LP cx zps n 106 0 2 k [(0,V.d (D.sl 1 (List.map D.str l))),(1,V.mfunc 79 [D.agg [D.map ks vs,a,b,c]]),(7,V.d (D.int .i64 (↑l.length:Int))),(8,V.d (D.int .i64 (IntKind.i64.wrap (i+(1:Int)))))] [] (AK cx zps n 106 0 2 (EK cx 106 0))
 | x=>none) else some (Out.ret (V.d (D.int .i64 (Int.negSucc 0))),[]):=by kernel_rfl
theorem ybd(n:Nat)(ks vs:List D)(a b c:D)(l:List (List UInt8)):zk cx z6e n 78 [.d (.sl 1 (l.map .str)),.mfunc 79 [.agg [.map ks vs,a,b,c]]] []=zd (za (((ks,vs),D.sl 1 (List.map D.str l)).fst.fst.all znp&&((ks,vs),D.sl 1 (List.map D.str l)).fst.snd.all zya&&decide (((ks,vs),D.sl 1 (List.map D.str l)).fst.fst.length≤((ks,vs),D.sl 1 (List.map D.str l)).fst.snd.length)) (zd (zcw ((ks,vs),D.sl 1 (List.map D.str l)).snd) λ l_1=>some (xo (ww ((ks,vs),D.sl 1 (List.map D.str l)).fst.fst) l_1))) λ b=>some (Out.ret (V.d (D.bool (decide ((0:Int)≤b)))),[]):=by kernel_rfl
theorem zuy{a:List V}{q}(h:zwu a=some q):∃ x y z,a=[.d (.agg [.map q.1.1 q.1.2,x,y,z]),.d (.str q.2)]:=by
 unfold zwu at h; split at h <;> cases h; exact ⟨_,_,_,rfl⟩
theorem zl3{a:List V}{q}(h:zsn a=some q):∃ x y z,a=[.d q.2,.mfunc 79 [.agg [.map q.1.1 q.1.2,x,y,z]]]:=by
 unfold zsn at h; split at h <;> cases h; exact ⟨_,_,_,rfl⟩
theorem zwx{a:List V}{q}(h:z3m a=some q):a=[.d q.1.1,.d q.1.2,.d q.2.1,.d q.2.2]:=by
 unfold z3m at h; split at h <;> cases h; rfl
theorem zvi{x:D}{s}(h:z08 x=some s):x=.sl 1 [.str s]:=by
 unfold z08 at h; split at h <;> cases h; rfl
open Classical in
theorem znr{x y:D}(h:isD x y=true):x=y:=by unfold isD at h; exact pc h
open Classical in
theorem zns{x:D}:isD x x=true:=by unfold isD; exact pa rfl
theorem zd9:∀ {l:List D} {r:List (List UInt8)},strsOf l=some r→l=r.map .str
 | [],r,h=>by cases h; rfl
 | .str s::l,r,h=>by
  obtain ⟨q,hq,h⟩:=zb h;cases h;rw [zd9 hq]; rfl
theorem zfg:∀ (l:List (List UInt8)),strsOf (l.map .str)=some l
 | []=>rfl
 | s::l=>by show zd (strsOf (l.map .str)) _=_; rw [zfg l]; rfl
theorem zdp{x:D}{l}(h:zcw x=some l):x=.sl 1 (l.map .str)∧yj l=true:=by
 unfold zcw at h;split at h
 ·obtain ⟨h1,h2⟩:=zc h;rw [ph] at h1;obtain rfl:=pg h1.1;obtain rfl:=zd9 h2;refine ⟨rfl,?_⟩;have:=pc h1.2;rw [pf] at this;exact pa (p:=l.length<4294967296) (by omega)
 ·cases h
theorem zip{l:List (List UInt8)}(h:yj l=true):zcw (.sl 1 (l.map .str))=some l:=by
 show za (Nat.beq 1 1&&decide ((l.map D.str).length<4294967296)) (strsOf (l.map .str))=_;have:=pc h;rw [pf,pa this,zfg];rfl
theorem zkz(s:List UInt8):∀ (ks:List D) (i:Nat),ks.all znp=true→∃ o,vt (.str s) ks i=some o∧o.isSome=ww ks s∧∀ j,o=some j→i≤j∧j<i+ks.length
 | [],i,_=>⟨none,rfl,rfl,λ _ h=>by cases h⟩
 | .str t::ks,i,h=>by
  have h2:ks.all znp=true:=by simpa [znp] using h
  obtain ⟨o,ho,hi,hb⟩:=zkz s ks (i+1) h2;show ∃ o,(bif decide (s=t) then some (some i) else vt (.str s) ks (i+1))=some o∧o.isSome=(decide (s=t)||ww ks s)∧_
  cases decide (s=t)
  ·refine ⟨o,ho,hi,λ j hj=>?_⟩;have:=hb j hj;simp only [List.length_cons]; omega
  ·exact ⟨some i,rfl,rfl,λ j hj=>by cases hj; simp only [List.length_cons]; omega⟩
 | .bool _::_,_,h | .int _ _::_,_,h=>by cases h
theorem m79(ks vs:List D)(a b c:D)(s:List UInt8)(h:okM ks vs=true):zh cx 79 [.d (.agg [.map ks vs,a,b,c]),.d (.str s)] []=some (.ret (mkB (ww ks s)),[]):=by
 refine zl zq (N:=0) ?_;rw [ycl];unfold okM at h;rw [ph,ph] at h;obtain ⟨⟨h1,h2⟩,h3⟩:=h;have h3:=pc h3;obtain ⟨o,ho,hi,hb⟩:=zkz s ks 0 h1;rw [ho,←hi];cases o with
 | none=>rfl
 | some i=>
  have hi:=hb i rfl;obtain ⟨y,hy⟩:∃ y,vs[i]?=some y:=⟨vs[i]'(by omega),pr (by omega)⟩
  have:=(List.all_eq_true.1 h2) y (po hy);show (ze vs i λ y=>_)=_;unfold ze;rw [hy];cases y <;> simp only [zya] at this <;> try cases this
  rename_i k n;have:=pc this;subst this;rfl
theorem zxd:knows cx zps.S (zh cx):=zj zq λ a q b hd h hb=>by
 obtain ⟨x,y,z,rfl⟩:=zuy h;obtain ⟨h1,hb⟩:=zc hb;cases hb;exact m79 _ _ _ _ _ _ h1
theorem z85(ks vs:List D)(a b c:D)(l:List (List UInt8))(hl:yj l=true)(h:okM ks vs=true):zh cx 106 [.d (.sl 1 (l.map .str)),.mfunc 79 [.agg [.map ks vs,a,b,c]]] []=some (.ret (mkI (xo (ww ks) l)),[]):=by
 refine zl zxd (N:=l.length+1) ?_;rw [z8t,pf]
 have h:=zdt (λ k i=>LP cx zps (l.length+1) 106 0 2 k [(0,.d (.sl 1 (l.map .str))),(1,.mfunc 79 [.agg [.map ks vs,a,b,c]]),(7,.d (.int .i64 (l.length:Int))),(8,.d (.int .i64 i))] [] (AK cx zps (l.length+1) 106 0 2 (EK cx 106 0)))
  l (ww ks) (λ j=>some (Out.ret (V.d (D.int .i64 j)),[])) (some (Out.ret (V.d (D.int .i64 (Int.negSucc 0))),[])) (xf hl)
  (λ k j x hj hx=>by
   rw [z32,pf,yh hj,xe,qg,pm,hx];show zd (z1n ((ks,vs),x)) _=_;unfold z1n;simp only [h];rfl) (λ k=>by rw [z32,xu,cond_false]) (Nat.lt_succ_self _)
 refine h.trans ?_;unfold xo;cases y0 (ww ks) l 0 <;> rfl
theorem ybv(ks vs:List D)(a b c:D)(l:List (List UInt8))(hl:yj l=true)(h:okM ks vs=true):zh cx 78 [.d (.sl 1 (l.map .str)),.mfunc 79 [.agg [.map ks vs,a,b,c]]] []=some (.ret (mkB (l.any (ww ks))),[]):=by
 have hk:knows cx z6e.S (zh cx):=zj zq λ a q b hd h hb=>by
  obtain ⟨x,y,z,rfl⟩:=zl3 h;obtain ⟨h1,hb⟩:=zc hb;obtain ⟨l,hl,hb⟩:=zb hb;cases hb;obtain ⟨h2,h3⟩:=zdp hl;rw [h2];exact z85 _ _ _ _ _ _ h3 h1
 refine zl hk (N:=0) ?_;rw [ybd];show zd (zvr ((ks,vs),.sl 1 (l.map .str))) _=_;unfold zvr;simp only [h];rw [zip hl];show some (Out.ret (mkB (decide ((0:Int)≤xo (ww ks) l))),[])=_;rw [zhs]
theorem z00:knows cx K42.S (zh cx):=zj (zra 60) λ a q b hd h hb=>by
 obtain ⟨x,y,z,rfl⟩:=zl3 h;obtain ⟨h1,hb⟩:=zc hb;obtain ⟨l,hl,hb⟩:=zb hb;cases hb;obtain ⟨h2,h3⟩:=zdp hl;rw [h2];exact ybv _ _ _ _ _ _ h3 h1
theorem m42(s:List UInt8):zh cx 42 [.d xT,.d (.sl 1 [.str s]),.d (.sl 1 [.str [120]]),.d (.sl 1 [])] []=some (.ret (z4r (ww wK s)),[]):=by
 refine zl z00 (N:=5) ?_;rw [ycs];have:[s].any (ww wK)=ww wK s:=by simp
 rw [this];cases ww wK s <;> rfl
def Sp.word(s:List UInt8):Bool:=ww wK s
theorem ybz(s:List UInt8):zh cx 130 [.d (.str s)] []=some (.ret (mkB (Sp.word s)),[]):=by
 have hk:knows cx ybo.S (zh cx):=zj zq λ a q b hd h hb=>by
  obtain rfl:=zwx h;obtain ⟨s,hs,hb⟩:=zb hb;obtain ⟨h1,hb⟩:=zc hb;cases hb;rw [ph,ph] at h1;rw [znr h1.1.1,znr h1.1.2,znr h1.2,zvi hs];exact m42 s
 refine zl hk (N:=5) ?_;rw [ybh];unfold z6i;rw [zns,zns,zns];show some (Out.ret (mkB _),[])=_;unfold Sp.word;cases ww wK s <;> rfl
def psN(L:List D):St:=[(0,.val 1 (.sl 1 L 1)),(1,.tok L.length)]
def pdN:St→Option (List D×Nat) | [(0,.val 1 (.sl 1 L 1)),(1,.tok n)]=>some (L,n) | _=>none
def zod(a:List V)(σ:St):Option ((D×D)×(List D×Nat)):=match a with | [.d t,.d b,.func 89 [.ptr 0 0]]=>zd (pdN σ) λ q=>some ((t,b),q) | _=>none
def zwv(a:List V)(σ:St):Option (List UInt8×(List D×Nat)):=match a with | [.d (.str s),.ptr 0 0]=>zd (pdN σ) λ q=>some (s,q) | _=>none
def stK{α:Type}(f:Nat)(dec:List V→St→Option (α×(List D×Nat)))(sp:α→List D→Option (List D))(S:CK R1):CK R1:=
 more f dec (λ K q=>zd (sp q.1 q.2.1) λ L'=>za (Nat.beq q.2.2 q.2.1.length) (K (.ret (.tup [])) (psN L')))
  (λ K q=>by
   simp only;rw [vl];congr 1;funext s;simp only [za,x7];rfl) S
theorem ztt{σ:St}{L:List D}{n:Nat}(h:pdN σ=some (L,n))(hn:Nat.beq n L.length=true):σ=psN L:=by
 unfold pdN at h;split at h
 ·cases h;obtain rfl:=pg hn;rfl
 ·cases h
theorem zpz{α:Type}{f:Nat}{dec:List V→St→Option (α×(List D×Nat))}{sp:α→List D→Option (List D)}{S:CK R1}(hS:knows cx S.S (zh cx))
  (hf:∀ a σ q L n L',dec a σ=some (q,(L,n))→Nat.beq n L.length=true→sp q L=some L'→zh cx f a σ=some (.ret (.tup []),psN L')):knows cx (stK f dec sp S).S (zh cx):=
 wi hS λ a σ q r hd h=>by
  obtain ⟨q,L,n⟩:=q;obtain ⟨s,hs,h⟩:=zb h;obtain ⟨h1,h⟩:=zc h;cases h;exact hf a σ q L n s hd h1 hs
def zwy:List V→Option (D×D) | [.d (.sl 1 [x,y])]=>some (x,y) | _=>none
def vo(sp:D→D→List D→Option (List D))(p:D→List UInt8→Option Bool)(w:List UInt8→Bool)(c:D→D→Option (List D))(a:List UInt8→List D→Option (List D)):CK R1:=
 stK 88 zod (λ q=>sp q.1 q.2) (stK 89 zwv a (zx 90 zl1 (λ q=>p q.1 q.2) mkB (zx 130 zb1 (λ s=>some (w s)) mkB (zx 131 zwy (λ q=>c q.1 q.2) (λ x=>.d (.sl 1 x)) (CK.plain zo)))))
def ybj(p:D→List UInt8→Option Bool):CK R1:=zx 90 zl1 (λ q=>p q.1 q.2) mkB (CK.plain zo)
def zpt(sp:D→D→List D→Option (List D)):CK R1:=stK 88 zod (λ q=>sp q.1 q.2) (CK.plain zo)
theorem z8s(sp:D→D→List D→Option (List D))(p:D→List UInt8→Option Bool)(w:List UInt8→Bool)(c:D→D→Option (List D))(a:List UInt8→List D→Option (List D))(n:Nat)(b L:List D)(nm:List UInt8)(nms:List (List UInt8))(pl:Int):zk cx (vo sp p w c a) n 88 [.d (.agg [.int .i64 1,.str nm,.sl 5 (T.ds []),.sl 1 (nms.map .str),.int .i64 pl]),.d (.sl 1 b),.func 89 [.ptr 0 0]] (psN L)=zd (p (D.sl 1 b,nm).fst (D.sl 1 b,nm).snd) λ b=>bif !b then za (decide (nm.length≤big)) (bif !w nm then zd (a (nm,L,L.length).fst (nm,L,L.length).snd.fst) λ L'=>za ((nm,L,L.length).snd.snd.beq (nm,L,L.length).snd.fst.length) (some (Out.ret (V.tup []),[(0,Ob.val 1 (V.sl 1 L' 1)),(1,Ob.tok L'.length)])) else some (Out.ret (V.tup []),[(0,Ob.val 1 (V.sl 1 L 1)),(1,Ob.tok L.length)])) else some (Out.ret (V.tup []),[(0,Ob.val 1 (V.sl 1 L 1)),(1,Ob.tok L.length)]):=by kernel_rfl
theorem z8r(sp:D→D→List D→Option (List D))(p:D→List UInt8→Option Bool)(w:List UInt8→Bool)(c:D→D→Option (List D))(a:List UInt8→List D→Option (List D))(n:Nat)(b L:List D)(nm:List UInt8)(nms:List (List UInt8))(pl:Int)(k1:Int)(m1:List UInt8)(l1:List T)(n1:List (List UInt8))(p1:Int):zk cx (vo sp p w c a) n 88 [.d (.agg [.int .i64 2,.str nm,.sl 5 (T.ds [(T.mk k1 m1 l1 n1 p1)]),.sl 1 (nms.map .str),.int .i64 pl]),.d (.sl 1 b),.func 89 [.ptr 0 0]] (psN L)=zd (c (D.sl 1 b,D.sl 1 (List.map D.str nms)).fst (D.sl 1 b,D.sl 1 (List.map D.str nms)).snd) λ b=>zd (sp ((D.agg [D.int .i64 k1,D.str m1,D.sl 5 (T.ds l1),D.sl 1 (List.map D.str n1),D.int .i64 p1],D.sl 1 b),L,L.length).fst.fst ((D.agg [D.int .i64 k1,D.str m1,D.sl 5 (T.ds l1),D.sl 1 (List.map D.str n1),D.int .i64 p1],D.sl 1 b),L,L.length).fst.snd ((D.agg [D.int .i64 k1,D.str m1,D.sl 5 (T.ds l1),D.sl 1 (List.map D.str n1),D.int .i64 p1],D.sl 1 b),L,L.length).snd.fst) λ L'=>za (((D.agg [D.int .i64 k1,D.str m1,D.sl 5 (T.ds l1),D.sl 1 (List.map D.str n1),D.int .i64 p1],D.sl 1 b),L,L.length).snd.snd.beq ((D.agg [D.int .i64 k1,D.str m1,D.sl 5 (T.ds l1),D.sl 1 (List.map D.str n1),D.int .i64 p1],D.sl 1 b),L,L.length).snd.fst.length) (some (Out.ret (V.tup []),[(0,Ob.val 1 (V.sl 1 L' 1)),(1,Ob.tok L'.length)])):=by kernel_rfl
theorem z8p(sp:D→D→List D→Option (List D))(p:D→List UInt8→Option Bool)(w:List UInt8→Bool)(c:D→D→Option (List D))(a:List UInt8→List D→Option (List D))(n:Nat)(b L:List D)(nm:List UInt8)(nms:List (List UInt8))(pl:Int)(k1:Int)(m1:List UInt8)(l1:List T)(n1:List (List UInt8))(p1:Int)(k2:Int)(m2:List UInt8)(l2:List T)(n2:List (List UInt8))(p2:Int):zk cx (vo sp p w c a) n 88 [.d (.agg [.int .i64 4,.str nm,.sl 5 (T.ds [(T.mk k1 m1 l1 n1 p1),(T.mk k2 m2 l2 n2 p2)]),.sl 1 (nms.map .str),.int .i64 pl]),.d (.sl 1 b),.func 89 [.ptr 0 0]] (psN L)=zd (sp ((D.agg [D.int .i64 k1,D.str m1,D.sl 5 (T.ds l1),D.sl 1 (List.map D.str n1),D.int .i64 p1],D.sl 1 b),L,L.length).fst.fst ((D.agg [D.int .i64 k1,D.str m1,D.sl 5 (T.ds l1),D.sl 1 (List.map D.str n1),D.int .i64 p1],D.sl 1 b),L,L.length).fst.snd ((D.agg [D.int .i64 k1,D.str m1,D.sl 5 (T.ds l1),D.sl 1 (List.map D.str n1),D.int .i64 p1],D.sl 1 b),L,L.length).snd.fst) λ L'=>za (((D.agg [D.int .i64 k1,D.str m1,D.sl 5 (T.ds l1),D.sl 1 (List.map D.str n1),D.int .i64 p1],D.sl 1 b),L,L.length).snd.snd.beq ((D.agg [D.int .i64 k1,D.str m1,D.sl 5 (T.ds l1),D.sl 1 (List.map D.str n1),D.int .i64 p1],D.sl 1 b),L,L.length).snd.fst.length) (zd (c (D.sl 1 b,D.sl 1 (List.map D.str nms)).fst (D.sl 1 b,D.sl 1 (List.map D.str nms)).snd) λ b=>zd (sp ((D.agg [D.int .i64 k2,D.str m2,D.sl 5 (T.ds l2),D.sl 1 (List.map D.str n2),D.int .i64 p2],D.sl 1 b),L',L'.length).fst.fst ((D.agg [D.int .i64 k2,D.str m2,D.sl 5 (T.ds l2),D.sl 1 (List.map D.str n2),D.int .i64 p2],D.sl 1 b),L',L'.length).fst.snd ((D.agg [D.int .i64 k2,D.str m2,D.sl 5 (T.ds l2),D.sl 1 (List.map D.str n2),D.int .i64 p2],D.sl 1 b),L',L'.length).snd.fst) λ L'_1=>za (((D.agg [D.int .i64 k2,D.str m2,D.sl 5 (T.ds l2),D.sl 1 (List.map D.str n2),D.int .i64 p2],D.sl 1 b),L',L'.length).snd.snd.beq ((D.agg [D.int .i64 k2,D.str m2,D.sl 5 (T.ds l2),D.sl 1 (List.map D.str n2),D.int .i64 p2],D.sl 1 b),L',L'.length).snd.fst.length) (some (Out.ret (V.tup []),[(0,Ob.val 1 (V.sl 1 L'_1 1)),(1,Ob.tok L'_1.length)]))):=by kernel_rfl
theorem z8o(sp:D→D→List D→Option (List D))(p:D→List UInt8→Option Bool)(w:List UInt8→Bool)(c:D→D→Option (List D))(a:List UInt8→List D→Option (List D))(n:Nat)(b L:List D)(nm:List UInt8)(nms:List (List UInt8))(pl:Int)(k1:Int)(m1:List UInt8)(l1:List T)(n1:List (List UInt8))(p1:Int)(k2:Int)(m2:List UInt8)(l2:List T)(n2:List (List UInt8))(p2:Int):zk cx (vo sp p w c a) n 88 [.d (.agg [.int .i64 5,.str nm,.sl 5 (T.ds [(T.mk k1 m1 l1 n1 p1),(T.mk k2 m2 l2 n2 p2)]),.sl 1 (nms.map .str),.int .i64 pl]),.d (.sl 1 b),.func 89 [.ptr 0 0]] (psN L)=zd (sp ((D.agg [D.int .i64 k1,D.str m1,D.sl 5 (T.ds l1),D.sl 1 (List.map D.str n1),D.int .i64 p1],D.sl 1 b),L,L.length).fst.fst ((D.agg [D.int .i64 k1,D.str m1,D.sl 5 (T.ds l1),D.sl 1 (List.map D.str n1),D.int .i64 p1],D.sl 1 b),L,L.length).fst.snd ((D.agg [D.int .i64 k1,D.str m1,D.sl 5 (T.ds l1),D.sl 1 (List.map D.str n1),D.int .i64 p1],D.sl 1 b),L,L.length).snd.fst) λ L'=>za (((D.agg [D.int .i64 k1,D.str m1,D.sl 5 (T.ds l1),D.sl 1 (List.map D.str n1),D.int .i64 p1],D.sl 1 b),L,L.length).snd.snd.beq ((D.agg [D.int .i64 k1,D.str m1,D.sl 5 (T.ds l1),D.sl 1 (List.map D.str n1),D.int .i64 p1],D.sl 1 b),L,L.length).snd.fst.length) (zd (c (D.sl 1 b,D.sl 1 (List.map D.str nms)).fst (D.sl 1 b,D.sl 1 (List.map D.str nms)).snd) λ b=>zd (sp ((D.agg [D.int .i64 k2,D.str m2,D.sl 5 (T.ds l2),D.sl 1 (List.map D.str n2),D.int .i64 p2],D.sl 1 b),L',L'.length).fst.fst ((D.agg [D.int .i64 k2,D.str m2,D.sl 5 (T.ds l2),D.sl 1 (List.map D.str n2),D.int .i64 p2],D.sl 1 b),L',L'.length).fst.snd ((D.agg [D.int .i64 k2,D.str m2,D.sl 5 (T.ds l2),D.sl 1 (List.map D.str n2),D.int .i64 p2],D.sl 1 b),L',L'.length).snd.fst) λ L'_1=>za (((D.agg [D.int .i64 k2,D.str m2,D.sl 5 (T.ds l2),D.sl 1 (List.map D.str n2),D.int .i64 p2],D.sl 1 b),L',L'.length).snd.snd.beq ((D.agg [D.int .i64 k2,D.str m2,D.sl 5 (T.ds l2),D.sl 1 (List.map D.str n2),D.int .i64 p2],D.sl 1 b),L',L'.length).snd.fst.length) (some (Out.ret (V.tup []),[(0,Ob.val 1 (V.sl 1 L'_1 1)),(1,Ob.tok L'_1.length)]))):=by kernel_rfl
theorem z8m(sp:D→D→List D→Option (List D))(p:D→List UInt8→Option Bool)(w:List UInt8→Bool)(c:D→D→Option (List D))(a:List UInt8→List D→Option (List D))(n:Nat)(b L:List D)(nm:List UInt8)(nms:List (List UInt8))(pl:Int)(k1:Int)(m1:List UInt8)(l1:List T)(n1:List (List UInt8))(p1:Int)(k2:Int)(m2:List UInt8)(l2:List T)(n2:List (List UInt8))(p2:Int):zk cx (vo sp p w c a) n 88 [.d (.agg [.int .i64 7,.str nm,.sl 5 (T.ds [(T.mk k1 m1 l1 n1 p1),(T.mk k2 m2 l2 n2 p2)]),.sl 1 (nms.map .str),.int .i64 pl]),.d (.sl 1 b),.func 89 [.ptr 0 0]] (psN L)=zd (sp ((D.agg [D.int .i64 k1,D.str m1,D.sl 5 (T.ds l1),D.sl 1 (List.map D.str n1),D.int .i64 p1],D.sl 1 b),L,L.length).fst.fst ((D.agg [D.int .i64 k1,D.str m1,D.sl 5 (T.ds l1),D.sl 1 (List.map D.str n1),D.int .i64 p1],D.sl 1 b),L,L.length).fst.snd ((D.agg [D.int .i64 k1,D.str m1,D.sl 5 (T.ds l1),D.sl 1 (List.map D.str n1),D.int .i64 p1],D.sl 1 b),L,L.length).snd.fst) λ L'=>za (((D.agg [D.int .i64 k1,D.str m1,D.sl 5 (T.ds l1),D.sl 1 (List.map D.str n1),D.int .i64 p1],D.sl 1 b),L,L.length).snd.snd.beq ((D.agg [D.int .i64 k1,D.str m1,D.sl 5 (T.ds l1),D.sl 1 (List.map D.str n1),D.int .i64 p1],D.sl 1 b),L,L.length).snd.fst.length) (some (Out.ret (V.tup []),[(0,Ob.val 1 (V.sl 1 L' 1)),(1,Ob.tok L'.length)])):=by kernel_rfl
theorem z5m(sp:D→D→List D→Option (List D))(p:D→List UInt8→Option Bool)(w:List UInt8→Bool)(c:D→D→Option (List D))(a:List UInt8→List D→Option (List D))(n:Nat)(b L:List D)(nm:List UInt8)(nms:List (List UInt8))(pl:Int)(x:T)(kids:List T):zk cx (vo sp p w c a) n 88 [.d (.agg [.int .i64 11,.str nm,.sl 5 (T.ds (x::kids)),.sl 1 (nms.map .str),.int .i64 pl]),.d (.sl 1 b),.func 89 [.ptr 0 0]] (psN L)=za (decide ((1:Int)≤(↑(x.d::T.ds kids).length:Int))) (LP cx (vo sp p w c a) n 88 2 20 n [(1,V.d (D.sl 1 b)),(2,V.func 89 [V.ptr 0 0]),(88,V.d (D.sl 5 (List.drop (1:Int).toNat (List.take (x.d::T.ds kids).length (x.d::T.ds kids))))),(89,V.d (D.int .i64 (↑(List.drop (1:Int).toNat (List.take (x.d::T.ds kids).length (x.d::T.ds kids))).length:Int))),(90,V.d (D.int .i64 (0:Int)))] [(0,Ob.val 1 (V.sl 1 L 1)),(1,Ob.tok L.length)] (AK cx (vo sp p w c a) n 88 2 20 (EK cx 88 2))):=by kernel_rfl
theorem z8q(sp:D→D→List D→Option (List D))(p:D→List UInt8→Option Bool)(w:List UInt8→Bool)(c:D→D→Option (List D))(a:List UInt8→List D→Option (List D))(n:Nat)(b L:List D)(nm:List UInt8)(nms:List (List UInt8))(pl:Int)(kids:List T):zk cx (vo sp p w c a) n 88 [.d (.agg [.int .i64 3,.str nm,.sl 5 (T.ds kids),.sl 1 (nms.map .str),.int .i64 pl]),.d (.sl 1 b),.func 89 [.ptr 0 0]] (psN L)=LP cx (vo sp p w c a) n 88 2 3 n [(1,V.d (D.sl 1 b)),(2,V.func 89 [V.ptr 0 0]),(13,V.d (D.sl 5 (T.ds kids))),(14,V.d (D.int .i64 (↑(T.ds kids).length:Int))),(15,V.d (D.int .i64 (0:Int)))] [(0,Ob.val 1 (V.sl 1 L 1)),(1,Ob.tok L.length)] (AK cx (vo sp p w c a) n 88 2 3 (EK cx 88 2)):=by kernel_rfl
theorem z8n(sp:D→D→List D→Option (List D))(p:D→List UInt8→Option Bool)(w:List UInt8→Bool)(c:D→D→Option (List D))(a:List UInt8→List D→Option (List D))(n:Nat)(b L:List D)(nm:List UInt8)(nms:List (List UInt8))(pl:Int)(kids:List T):zk cx (vo sp p w c a) n 88 [.d (.agg [.int .i64 6,.str nm,.sl 5 (T.ds kids),.sl 1 (nms.map .str),.int .i64 pl]),.d (.sl 1 b),.func 89 [.ptr 0 0]] (psN L)=LP cx (vo sp p w c a) n 88 2 3 n [(1,V.d (D.sl 1 b)),(2,V.func 89 [V.ptr 0 0]),(13,V.d (D.sl 5 (T.ds kids))),(14,V.d (D.int .i64 (↑(T.ds kids).length:Int))),(15,V.d (D.int .i64 (0:Int)))] [(0,Ob.val 1 (V.sl 1 L 1)),(1,Ob.tok L.length)] (AK cx (vo sp p w c a) n 88 2 3 (EK cx 88 2)):=by kernel_rfl
theorem z8l(sp:D→D→List D→Option (List D))(p:D→List UInt8→Option Bool)(w:List UInt8→Bool)(c:D→D→Option (List D))(a:List UInt8→List D→Option (List D))(n:Nat)(b L:List D)(nm:List UInt8)(nms:List (List UInt8))(pl:Int)(kids:List T):zk cx (vo sp p w c a) n 88 [.d (.agg [.int .i64 8,.str nm,.sl 5 (T.ds kids),.sl 1 (nms.map .str),.int .i64 pl]),.d (.sl 1 b),.func 89 [.ptr 0 0]] (psN L)=LP cx (vo sp p w c a) n 88 2 3 n [(1,V.d (D.sl 1 b)),(2,V.func 89 [V.ptr 0 0]),(13,V.d (D.sl 5 (T.ds kids))),(14,V.d (D.int .i64 (↑(T.ds kids).length:Int))),(15,V.d (D.int .i64 (0:Int)))] [(0,Ob.val 1 (V.sl 1 L 1)),(1,Ob.tok L.length)] (AK cx (vo sp p w c a) n 88 2 3 (EK cx 88 2)):=by kernel_rfl
theorem z8k(sp:D→D→List D→Option (List D))(p:D→List UInt8→Option Bool)(w:List UInt8→Bool)(c:D→D→Option (List D))(a:List UInt8→List D→Option (List D))(n:Nat)(b L:List D)(nm:List UInt8)(nms:List (List UInt8))(pl:Int)(kids:List T):zk cx (vo sp p w c a) n 88 [.d (.agg [.int .i64 9,.str nm,.sl 5 (T.ds kids),.sl 1 (nms.map .str),.int .i64 pl]),.d (.sl 1 b),.func 89 [.ptr 0 0]] (psN L)=LP cx (vo sp p w c a) n 88 2 3 n [(1,V.d (D.sl 1 b)),(2,V.func 89 [V.ptr 0 0]),(13,V.d (D.sl 5 (T.ds kids))),(14,V.d (D.int .i64 (↑(T.ds kids).length:Int))),(15,V.d (D.int .i64 (0:Int)))] [(0,Ob.val 1 (V.sl 1 L 1)),(1,Ob.tok L.length)] (AK cx (vo sp p w c a) n 88 2 3 (EK cx 88 2)):=by kernel_rfl
theorem z5n(sp:D→D→List D→Option (List D))(p:D→List UInt8→Option Bool)(w:List UInt8→Bool)(c:D→D→Option (List D))(a:List UInt8→List D→Option (List D))(n:Nat)(b L:List D)(nm:List UInt8)(nms:List (List UInt8))(pl:Int)(kids:List T):zk cx (vo sp p w c a) n 88 [.d (.agg [.int .i64 10,.str nm,.sl 5 (T.ds kids),.sl 1 (nms.map .str),.int .i64 pl]),.d (.sl 1 b),.func 89 [.ptr 0 0]] (psN L)=LP cx (vo sp p w c a) n 88 2 3 n [(1,V.d (D.sl 1 b)),(2,V.func 89 [V.ptr 0 0]),(13,V.d (D.sl 5 (T.ds kids))),(14,V.d (D.int .i64 (↑(T.ds kids).length:Int))),(15,V.d (D.int .i64 (0:Int)))] [(0,Ob.val 1 (V.sl 1 L 1)),(1,Ob.tok L.length)] (AK cx (vo sp p w c a) n 88 2 3 (EK cx 88 2)):=by kernel_rfl
theorem yci(sp:D→D→List D→Option (List D))(p:D→List UInt8→Option Bool)(w:List UInt8→Bool)(c:D→D→Option (List D))(a:List UInt8→List D→Option (List D))(n k:Nat)(b L:List D)(kids:List T)(i:Int):LP cx (vo sp p w c a) n 88 2 3 (k+1) [(1,V.d (D.sl 1 b)),(2,V.func 89 [V.ptr 0 0]),(13,V.d (D.sl 5 (T.ds kids))),(14,V.d (D.int .i64 (kids.length:Int))),(15,V.d (D.int .i64 i))] [(0,Ob.val 1 (V.sl 1 L 1)),(1,Ob.tok L.length)] (AK cx (vo sp p w c a) n 88 2 3 (EK cx 88 2))=bif decide (i<(↑kids.length:Int)) then za (decide (0≤i)&&decide (i<(↑(T.ds kids).length:Int))) (ze (T.ds kids) i.toNat λ y=>ze y.cells 0 λ c_1=>ze y.cells 1 λ c_2=>ze y.cells 2 λ c_3=>ze y.cells 3 λ c_4=>ze y.cells 4 λ c_5=>zd (sp ((D.agg [c_1,c_2,c_3,c_4,c_5],D.sl 1 b),L,L.length).fst.fst ((D.agg [c_1,c_2,c_3,c_4,c_5],D.sl 1 b),L,L.length).fst.snd ((D.agg [c_1,c_2,c_3,c_4,c_5],D.sl 1 b),L,L.length).snd.fst) λ L'=>za (((D.agg [c_1,c_2,c_3,c_4,c_5],D.sl 1 b),L,L.length).snd.snd.beq ((D.agg [c_1,c_2,c_3,c_4,c_5],D.sl 1 b),L,L.length).snd.fst.length) (LP cx (vo sp p w c a) n 88 2 3 k [(1,V.d (D.sl 1 b)),(2,V.func 89 [V.ptr 0 0]),(13,V.d (D.sl 5 (T.ds kids))),(14,V.d (D.int .i64 (↑kids.length:Int))),(15,V.d (D.int .i64 (IntKind.i64.wrap (i+(1:Int)))))] [(0,Ob.val 1 (V.sl 1 L' 1)),(1,Ob.tok L'.length)] (AK cx (vo sp p w c a) n 88 2 3 (EK cx 88 2)))) else some (Out.ret (V.tup []),[(0,Ob.val 1 (V.sl 1 L 1)),(1,Ob.tok L.length)]):=by kernel_rfl
theorem ya2(sp:D→D→List D→Option (List D))(p:D→List UInt8→Option Bool)(w:List UInt8→Bool)(c:D→D→Option (List D))(a:List UInt8→List D→Option (List D))(n k:Nat)(b L:List D)(kids:List T)(i:Int):LP cx (vo sp p w c a) n 88 2 20 (k+1) [(1,V.d (D.sl 1 b)),(2,V.func 89 [V.ptr 0 0]),(88,V.d (D.sl 5 (T.ds kids))),(89,V.d (D.int .i64 (kids.length:Int))),(90,V.d (D.int .i64 i))] [(0,Ob.val 1 (V.sl 1 L 1)),(1,Ob.tok L.length)] (AK cx (vo sp p w c a) n 88 2 20 (EK cx 88 2))=bif decide (i<(↑kids.length:Int)) then za (decide (0≤i)&&decide (i<(↑(T.ds kids).length:Int))) (ze (T.ds kids) i.toNat λ y=>ze y.cells 0 λ c_1=>ze y.cells 1 λ c_2=>ze y.cells 2 λ c_3=>ze y.cells 3 λ c_4=>ze y.cells 4 λ c_5=>zd (sp ((D.agg [c_1,c_2,c_3,c_4,c_5],D.sl 1 b),L,L.length).fst.fst ((D.agg [c_1,c_2,c_3,c_4,c_5],D.sl 1 b),L,L.length).fst.snd ((D.agg [c_1,c_2,c_3,c_4,c_5],D.sl 1 b),L,L.length).snd.fst) λ L'=>za (((D.agg [c_1,c_2,c_3,c_4,c_5],D.sl 1 b),L,L.length).snd.snd.beq ((D.agg [c_1,c_2,c_3,c_4,c_5],D.sl 1 b),L,L.length).snd.fst.length) (LP cx (vo sp p w c a) n 88 2 20 k [(1,V.d (D.sl 1 b)),(2,V.func 89 [V.ptr 0 0]),(88,V.d (D.sl 5 (T.ds kids))),(89,V.d (D.int .i64 (↑kids.length:Int))),(90,V.d (D.int .i64 (IntKind.i64.wrap (i+(1:Int)))))] [(0,Ob.val 1 (V.sl 1 L' 1)),(1,Ob.tok L'.length)] (AK cx (vo sp p w c a) n 88 2 20 (EK cx 88 2)))) else some (Out.ret (V.tup []),[(0,Ob.val 1 (V.sl 1 L 1)),(1,Ob.tok L.length)]):=by kernel_rfl
theorem ybc(p:D→List UInt8→Option Bool)(n:Nat)(L:List D)(s:List UInt8):zk cx (ybj p) n 89 [.d (.str s),.ptr 0 0] (psN L)=zd (p (D.sl 1 L,s).fst (D.sl 1 L,s).snd) λ b=>bif !b then za (decide (L.length=L.length)&&decide (L.length+[D.str s].length≤4294967296)) (some (Out.ret (V.tup []),[(0,Ob.val 1 (V.sl 1 (L++[D.str s]) 1)),(1,Ob.tok (L.length+[D.str s].length))])) else some (Out.ret (V.tup []),[(0,Ob.val 1 (V.sl 1 L 1)),(1,Ob.tok L.length)]):=by kernel_rfl
theorem ycp(sp:D→D→List D→Option (List D))(n:Nat)(l:List T):zk cx (zpt sp) n 52 [.d (.sl 5 (T.ds l))] []=LP cx (zpt sp) n 52 0 3 n [(3,V.ptr 3 0),(6,V.d (D.sl 5 (T.ds l))),(7,V.d (D.int .i64 (↑(T.ds l).length:Int))),(8,V.d (D.int .i64 (0:Int)))] [(3,Ob.val 1 (V.sl 1 [] 20)),(20,Ob.tok 0)] (AK cx (zpt sp) n 52 0 3 (EK cx 52 0)):=by kernel_rfl
theorem ya4(sp:D→D→List D→Option (List D))(n k:Nat)(l:List T)(L:List D)(i:Int):LP cx (zpt sp) n 52 0 3 (k+1) [(3,V.ptr 3 0),(6,V.d (D.sl 5 (T.ds l))),(7,V.d (D.int .i64 (l.length:Int))),(8,V.d (D.int .i64 i))] [(3,Ob.val 1 (V.sl 1 L 20)),(20,Ob.tok L.length)] (AK cx (zpt sp) n 52 0 3 (EK cx 52 0))=bif decide (i<(↑l.length:Int)) then za (decide (0≤i)&&decide (i<(↑(T.ds l).length:Int))) (ze (T.ds l) i.toNat λ y=>ze y.cells 0 λ c=>ze y.cells 1 λ c_1=>ze y.cells 2 λ c_2=>ze y.cells 3 λ c_3=>ze y.cells 4 λ c_4=>zd (sp ((D.agg [c,c_1,c_2,c_3,c_4],D.sl 1 []),L,L.length).fst.fst ((D.agg [c,c_1,c_2,c_3,c_4],D.sl 1 []),L,L.length).fst.snd ((D.agg [c,c_1,c_2,c_3,c_4],D.sl 1 []),L,L.length).snd.fst) λ L'=>za (((D.agg [c,c_1,c_2,c_3,c_4],D.sl 1 []),L,L.length).snd.snd.beq ((D.agg [c,c_1,c_2,c_3,c_4],D.sl 1 []),L,L.length).snd.fst.length) (LP cx (zpt sp) n 52 0 3 k [(3,V.ptr 3 0),(6,V.d (D.sl 5 (T.ds l))),(7,V.d (D.int .i64 (↑l.length:Int))),(8,V.d (D.int .i64 (IntKind.i64.wrap (i+(1:Int)))))] [(3,Ob.val 1 (V.sl 1 L' 20)),(20,Ob.tok L'.length)] (AK cx (zpt sp) n 52 0 3 (EK cx 52 0)))) else some (Out.ret (V.d (D.sl 1 L)),[]):=by kernel_rfl
theorem ybb(p:D→List UInt8→Option Int)(n:Nat)(l:List D)(s:List UInt8):zk cx (zx 132 zl1 (λ q=>p q.1 q.2) mkI (CK.plain zo)) n 90 [.d (.sl 1 l),.d (.str s)] []=zd (p (.sl 1 l) s) λ b=>some (.ret (.d (.bool (decide ((0:Int)≤b)))),[]):=by kernel_rfl
theorem ybu(l:List (List UInt8))(s:List UInt8)(hl:yj l=true):zh cx 90 [.d (.sl 1 (l.map .str)),.d (.str s)] []=some (.ret (mkB (Sp.mem s l)),[]):=by
 have hk:knows cx (zx 132 zl1 (λ q=>(λ (x:D) s=>zd (zcw x) λ l=>some (xo (λ x=>decide (s=x)) l)) q.1 q.2) mkI (CK.plain zo)).S (zh cx):=zj zq λ a q b hd h hb=>by
  obtain rfl:=zob h;obtain ⟨l,hl,hb⟩:=zb hb;cases hb;obtain ⟨h1,h2⟩:=zdp hl;rw [h1];exact ybx l q.2 h2
 refine zl hk (N:=0) ?_;refine (ybb (λ (x:D) s=>zd (zcw x) λ l=>some (xo (λ x=>decide (s=x)) l)) 0 _ s).trans ?_;rw [zip hl];show some (Out.ret (mkB (decide ((0:Int)≤xo (λ x=>decide (s=x)) l))),[])=_;rw [zhs];have:(l.any λ x=>decide (s=x))=Sp.mem s l:=by
  unfold Sp.mem;congr 1;funext x;by_cases h:s=x
  ·subst h; rfl
  ·rw [pb h,pb (λ e=>h e.symm)]
 rw [this]
def p90(x:D)(s:List UInt8):Option Bool:=zd (zcw x) λ l=>some (Sp.mem s l)
theorem zp9{f:List V}{q:D×List UInt8}{b:Bool}(h:zl1 f=some q)(hb:p90 q.1 q.2=some b):zh cx 90 f []=some (.ret (mkB b),[]):=by
 obtain rfl:=zob h;obtain ⟨l,hl,hb⟩:=zb hb;cases hb;obtain ⟨h1,h2⟩:=zdp hl;rw [h1];exact ybu l q.2 h2
theorem m89(l:List (List UInt8))(s:List UInt8)(hl:l.length+1<4294967296):zh cx 89 [.d (.str s),.ptr 0 0] (psN (l.map .str))=some (.ret (.tup []),psN ((Sp.put l s).map .str)):=by
 have hk:knows cx (ybj p90).S (zh cx):=zj zq λ a q b hd h hb=>zp9 h hb;refine zl hk (N:=0) ?_;rw [ybc];show zd (p90 (.sl 1 (l.map .str)) s) _=_;unfold p90;rw [zip (pa (by omega))]
 unfold Sp.put;show (bif !Sp.mem s l then _ else _)=_;cases Sp.mem s l
 ·simp only [Bool.not_false,cond_true,cond_false];rw [pa (p:=(l.map D.str).length+[D.str s].length≤4294967296) (by simp only [pf,List.length_cons,List.length_nil]; omega)]
  simp only [za,decide_true,Bool.and_self,cond_true,psN,List.map_append,List.map_cons,List.map_nil,pe]
 ·rfl
mutual
def vn:T→List (List UInt8)→List (List UInt8)→List (List UInt8)
 | .mk k nm kids nms _,b,acc=>bif decide (k=1) then (bif Sp.mem nm b||Sp.word nm then acc else Sp.put acc nm) else v7 kids k nms b 0 acc
def v7:List T→Int→List (List UInt8)→List (List UInt8)→Nat→List (List UInt8)→List (List UInt8)
 | [],_,_,_,_,acc=>acc
 | t::r,k,nms,b,i,acc=>v7 r k nms b (i+1)
   (bif (decide (k=7)&&decide (i=1))||(decide (k=11)&&decide (i=0)) then acc
    else vn t (bif decide (k=2)||(decide (i=1)&&(decide (k=4)||decide (k=5))) then b++nms else b) acc)
end
mutual
def Sp.cnt:T→Nat
 | .mk _ _ kids nms _=>1+nms.length+xh kids
def xh:List T→Nat
 | []=>0
 | t::l=>Sp.cnt t+xh l
end
theorem z4h(l:List (List UInt8))(s:List UInt8):(Sp.put l s).length≤l.length+1:=by
 unfold Sp.put;cases Sp.mem s l <;> simp
mutual
theorem zj2:∀ (t:T) (b acc:List (List UInt8)),(vn t b acc).length≤acc.length+Sp.cnt t
 | .mk k nm kids nms _,b,acc=>by
  unfold vn;have h1:=zug kids k nms b 0 acc;have h2:=z4h acc nm;unfold Sp.cnt;cases decide (k=1)
  ·simp only [cond_false]; omega
  ·simp only [cond_true];cases Sp.mem nm b||Sp.word nm
   ·simp only [cond_false]; omega
   ·simp only [cond_true]; omega
theorem zug:∀ (l:List T) (k:Int) (nms b:List (List UInt8)) (i:Nat) (acc:List (List UInt8)),(v7 l k nms b i acc).length≤acc.length+xh l
 | [],k,nms,b,i,acc=>by simp [v7]
 | t::r,k,nms,b,i,acc=>by
  unfold v7 xh;refine Nat.le_trans (zug r k nms b (i+1) _) ?_;cases (decide (k=7)&&decide (i=1))||(decide (k=11)&&decide (i=0))
  ·simp only [cond_false];have:=zj2 t (bif decide (k=2)||(decide (i=1)&&(decide (k=4)||decide (k=5))) then b++nms else b) acc
   omega
  ·simp only [cond_true]; omega
end
def wx(b acc:List (List UInt8))(l:List T):List (List UInt8):=l.foldl (λ a t=>vn t b a) acc
theorem z2v{k:Int}{nms b:List (List UInt8)}(h2:k ≠ 2)(h4:k ≠ 4)(h5:k ≠ 5)(h7:k ≠ 7)(h11:k ≠ 11):∀ (l:List T) (i:Nat) (acc:List (List UInt8)),v7 l k nms b i acc=wx b acc l
 | [],i,acc=>by simp [v7,wx]
 | t::r,i,acc=>by
  unfold v7;rw [pb h2,pb h4,pb h5,pb h7,pb h11];simp only [Bool.false_and,Bool.or_false,Bool.and_false,cond_false];exact z2v h2 h4 h5 h7 h11 r (i+1) _
theorem z2u{nms b:List (List UInt8)}:∀ (l:List T) (i:Nat) (acc:List (List UInt8)),0<i→v7 l 11 nms b i acc=wx b acc l
 | [],i,acc,_=>by simp [v7,wx]
 | t::r,i,acc,hi=>by
  unfold v7;rw [pb (p:=i=0) (by omega),show decide ((11:Int)=7)=false from rfl,show decide ((11:Int)=2)=false from rfl,show decide ((11:Int)=4)=false from rfl,show decide ((11:Int)=5)=false from rfl]
  simp only [Bool.false_and,Bool.or_false,Bool.and_false,cond_false];exact z2u r (i+1) _ (Nat.succ_pos _)
theorem zht{R α S:Type}(L:Nat→Int→S→Option R)(xs:List α)(step:S→α→S)(I:Nat→S→Prop)(E:S→Option R)(hs:xs.length<4294967296)
  (H:∀ (k j:Nat) x s,j<xs.length→xs[j]?=some x→I j s→L (k+1) j s=L k (IntKind.i64.wrap ((j:Int)+1)) (step s x)∧I (j+1) (step s x)) (HE:∀ k s,L (k+1) xs.length s=E s) {s:S} (h0:I 0 s) {k:Nat} (hk:xs.length<k) :
  L k 0 s=E (xs.foldl step s):=by
 have key:∀ (d j:Nat) (k:Nat) (s:S),j+d=xs.length→d<k→I j s→L k j s=E ((xs.drop j).foldl step s):=by
  intro d
  induction d with
  | zero=>
   intro j k s hj hk hi;obtain ⟨k,rfl⟩:∃ k',k=k'+1:=⟨k - 1,by omega⟩
   obtain rfl:j=xs.length:=by omega
   rw [HE,List.drop_length]; rfl
  | succ d ih=>
   intro j k s hj hk hi;obtain ⟨k,rfl⟩:∃ k',k=k'+1:=⟨k - 1,by omega⟩
   have hlt:j<xs.length:=by omega
   obtain ⟨h1,h2⟩:=H k j xs[j] s hlt (pr hlt) hi;rw [h1,IntWalk.i64_in _ (by omega)]
   have e:((j:Int)+1)=((j+1:Nat):Int):=by omega
   rw [e,ih (j+1) k _ (by omega) (by omega) h2,List.drop_eq_getElem_cons hlt]
   rfl
 have:=key xs.length 0 k s (by omega) hk h0
 rw [List.drop_zero] at this;exact this
def okG(t:T)(b l:List (List UInt8)):Bool:=(Sp.right t||Sp.elem t)&&decide (b.length+Sp.cnt t<2147483648)&&decide (l.length+Sp.cnt t<2147483648)
def qk(m:Nat)(x y:D)(L:List D):Option (List D):=zd (zi m x) λ t=>zd (zcw y) λ b=>zd (strsOf L) λ l=>za (okG t b l) (some ((vn t b l).map .str))
def zcm(x y:D):Option (List D):=zd (zcw x) λ a=>zd (zcw y) λ b=>za (decide (a.length+b.length<4294967296)) (some ((a++b).map .str))
def a89(s:List UInt8)(L:List D):Option (List D):=zd (strsOf L) λ l=>za (decide (l.length+1<4294967296)) (some ((Sp.put l s).map .str))
theorem zu0{a:List V}{σ:St}{q L n}(h:zod a σ=some (q,(L,n))):a=[.d q.1,.d q.2,.func 89 [.ptr 0 0]]∧pdN σ=some (L,n):=by
 unfold zod at h;split at h
 ·obtain ⟨p,hp,h⟩:=zb h;cases h;exact ⟨rfl,hp⟩
 ·cases h
theorem zuz{a:List V}{σ:St}{q L n}(h:zwv a σ=some (q,(L,n))):a=[.d (.str q),.ptr 0 0]∧pdN σ=some (L,n):=by
 unfold zwv at h;split at h
 ·obtain ⟨p,hp,h⟩:=zb h;cases h;exact ⟨rfl,hp⟩
 ·cases h
theorem zu2{a:List V}{q}(h:zwy a=some q):a=[.d (.sl 1 [q.1,q.2])]:=by
 unfold zwy at h; split at h <;> cases h; rfl
def zsd(m:Nat):Prop:=∀ (t:T) (b l:List (List UInt8)),t.depth≤m→t.ok=true→okG t b l=true→zh cx 88 [.d t.d,.d (.sl 1 (b.map .str)),.func 89 [.ptr 0 0]] (psN (l.map .str))=some (.ret (.tup []),psN ((vn t b l).map .str))
theorem zmu{m:Nat}(hm:zsd m){S:CK R1}(hS:knows cx S.S (zh cx)):knows cx (stK 88 zod (λ q=>qk m q.1 q.2) S).S (zh cx):=zpz hS λ a σ q L n L' hd hn h=>by
 obtain ⟨rfl,hp⟩:=zu0 hd;obtain ⟨t,ht,h⟩:=zb h;obtain ⟨b,hb,h⟩:=zb h;obtain ⟨l,hl,h⟩:=zb h;obtain ⟨ho,h⟩:=zc h;cases h;obtain ⟨h1,h2,h3⟩:=y7 ht;rw [h1,(zdp hb).1,ztt hp hn,zd9 hl];exact hm t b l h2 h3 ho
theorem z0s{m:Nat}(hm:zsd m):knows cx (vo (qk m) p90 Sp.word zcm a89).S (zh cx):=
 zmu hm <| zpz (zj (zj (zj zq λ a q b hd h hb=>by
   obtain rfl:=zu2 h;obtain ⟨x,hx,hb⟩:=zb hb;obtain ⟨y,hy,hb⟩:=zb hb;obtain ⟨h1,hb⟩:=zc hb;cases hb;have:=pc h1;rw [(zdp hx).1,(zdp hy).1];exact yby x y (by omega)) λ a q b hd h hb=>by
   cases hb;obtain rfl:=qx h;exact ybz q) λ a q b hd h hb=>zp9 h hb) λ a σ q L n L' hd hn h=>by
  obtain ⟨rfl,hp⟩:=zuz hd;obtain ⟨l,hl,h⟩:=zb h;obtain ⟨ho,h⟩:=zc h;cases h;rw [ztt hp hn,zd9 hl];exact m89 l q (pc ho)
theorem zhj{m:Nat}{t:T}{b l:List (List UInt8)}(hd:t.depth≤m)(ho:t.ok=true)(h:okG t b l=true):qk m t.d (.sl 1 (b.map .str)) (l.map .str)=some ((vn t b l).map .str):=by
 have hb:yj b=true:=by
  unfold okG at h;rw [ph,ph] at h;have:=pc h.1.2;exact pa (by omega)
 unfold qk;rw [zd8 hd ho,zip hb,zfg];show za (okG t b l) _=_;rw [h];rfl
theorem zft{t:T}{b l:List (List UInt8)}:okG t b l=true↔(Sp.right t||Sp.elem t)=true∧b.length+Sp.cnt t<2147483648∧l.length+Sp.cnt t<2147483648:=by
 unfold okG;rw [ph,ph,decide_eq_true_eq,decide_eq_true_eq,and_assoc]
theorem z19{m:Nat}(n:Nat)(b acc:List (List UInt8))(kids:List T)(hk:kids.length<n)(hs:yj kids=true)(hd:∀ t∈kids,t.depth≤m∧t.ok=true∧(Sp.right t||Sp.elem t)=true)
  (hb:b.length+xh kids<2147483648) (ha:acc.length+xh kids<2147483648) (blk:Nat) (v1 v2 v3:Nat)
  (HL:∀ (k:Nat) (L:List D) (i:Int),(λ (k:Nat) (i:Int) (L:List D)=>LP cx (vo (qk m) p90 Sp.word zcm a89) n 88 2 blk k [(1,V.d (D.sl 1 (b.map .str))),(2,V.func 89 [V.ptr 0 0]),(v1,V.d (D.sl 5 (T.ds kids))),(v2,V.d (D.int .i64 (kids.length:Int))),(v3,V.d (D.int .i64 i))] [(0,Ob.val 1 (V.sl 1 L 1)),(1,Ob.tok L.length)] (AK cx (vo (qk m) p90 Sp.word zcm a89) n 88 2 blk (EK cx 88 2))) (k+1) i L =
   bif decide (i<(kids.length:Int)) then za (decide (0≤i)&&decide (i<((T.ds kids).length:Int))) (ze (T.ds kids) i.toNat λ y=>
    ze y.cells 0 λ c_1=>ze y.cells 1 λ c_2=>ze y.cells 2 λ c_3=>ze y.cells 3 λ c_4=>ze y.cells 4 λ c_5=>
     zd (qk m (D.agg [c_1,c_2,c_3,c_4,c_5]) (D.sl 1 (b.map .str)) L) λ L'=>za (L.length.beq L.length)
      ((λ (k:Nat) (i:Int) (L:List D)=>LP cx (vo (qk m) p90 Sp.word zcm a89) n 88 2 blk k [(1,V.d (D.sl 1 (b.map .str))),(2,V.func 89 [V.ptr 0 0]),(v1,V.d (D.sl 5 (T.ds kids))),(v2,V.d (D.int .i64 (kids.length:Int))),(v3,V.d (D.int .i64 i))] [(0,Ob.val 1 (V.sl 1 L 1)),(1,Ob.tok L.length)] (AK cx (vo (qk m) p90 Sp.word zcm a89) n 88 2 blk (EK cx 88 2))) k (IntKind.i64.wrap (i+1)) L'))
   else some (Out.ret (V.tup []),[(0,Ob.val 1 (V.sl 1 L 1)),(1,Ob.tok L.length)])) :
  LP cx (vo (qk m) p90 Sp.word zcm a89) n 88 2 blk n [(1,V.d (D.sl 1 (b.map .str))),(2,V.func 89 [V.ptr 0 0]),(v1,V.d (D.sl 5 (T.ds kids))),(v2,V.d (D.int .i64 (kids.length:Int))),(v3,V.d (D.int .i64 0))] (psN (acc.map .str)) (AK cx (vo (qk m) p90 Sp.word zcm a89) n 88 2 blk (EK cx 88 2)) =
   some (.ret (.tup []),psN ((wx b acc kids).map .str)):=by
 have h:=zht (λ k i (l:List (List UInt8))=>LP cx (vo (qk m) p90 Sp.word zcm a89) n 88 2 blk k [(1,V.d (D.sl 1 (b.map .str))),(2,V.func 89 [V.ptr 0 0]),(v1,V.d (D.sl 5 (T.ds kids))),(v2,V.d (D.int .i64 (kids.length:Int))),(v3,V.d (D.int .i64 i))] [(0,Ob.val 1 (V.sl 1 (l.map .str) 1)),(1,Ob.tok (l.map D.str).length)] (AK cx (vo (qk m) p90 Sp.word zcm a89) n 88 2 blk (EK cx 88 2)))
  kids (λ a t=>vn t b a) (λ j l=>l.length+xh (kids.drop j)<2147483648) (λ l=>some (.ret (.tup []),psN (l.map .str))) (xf hs)
  (λ k j x l hj hx hi=>by
   have hmem:=po hx;obtain ⟨h1,h2,h3⟩:=hd x hmem;have hdr:kids.drop j=x::kids.drop (j+1):=by
    have:=List.drop_eq_getElem_cons hj;rw [pr hj] at hx;cases hx;exact this
   have hc:∀ {l:List T},x∈l→Sp.cnt x≤xh l:=by
    intro l
    induction l with
    | nil=>intro h; cases h
    | cons y r ih=>
     intro h;simp only [xh];cases h with
     | head=>omega
     | tail _ h=>have:=ih h; omega
   have hc:=hc hmem;rw [hdr] at hi;simp only [xh] at hi;have hg:=zj2 x b l;refine ⟨?_,by omega⟩
   refine (HL k (l.map .str) j).trans ?_;rw [yh hj,ya,yh hj,xe,yv,pm,hx];show ze x.d.cells 0 _=_;rw [xk];simp only [vm,zcj,zci,zch,zcg,zbk];rw [zhj h1 h2 (zft.2 ⟨h3,by omega,by omega⟩)]
   show za _ _=_;rw [Nat.beq_refl];rfl)
  (λ k l=>by
   refine (HL k (l.map .str) kids.length).trans ?_;rw [xu,cond_false];rfl) (s:=acc) (by rw [List.drop_zero]; exact ha) hk
 exact h
inductive Shp (k:Int) (kids:List T):Prop
 | nam (h:k=1) (e:kids=[])
 | lam (h:k=2) {a:T} (e:kids=[a]) (ha:Sp.right a=true)
 | all (h:k=3∨k=6∨k=8∨k=9∨k=10) (ha:∀ t∈kids,(Sp.right t||Sp.elem t)=true)
 | pi (h:k=4∨k=5) {a b:T} (e:kids=[a,b]) (ha:Sp.right a=true) (hb:Sp.right b=true)
 | at (h:k=7) {a b:T} (e:kids=[a,b]) (ha:Sp.right a=true)
 | elem (h:k=11) {f:T} {r:List T} (e:kids=f::r) (ha:∀ t∈r,(Sp.right t||Sp.elem t)=true)
theorem z6j{k:Int}{nm:List UInt8}{kids:List T}{nms:List (List UInt8)}{pl:Int}(h:(Sp.right (.mk k nm kids nms pl)||Sp.elem (.mk k nm kids nms pl))=true):Shp k kids:=by
 rw [Bool.or_eq_true] at h;rcases h with h | h
 ·rcases kids with _ | ⟨a,_ | ⟨b,_ | ⟨c,l⟩⟩⟩
  ·simp only [Sp.right,ph,Bool.or_eq_true,decide_eq_true_eq] at h;rcases h.2 with h | h
   ·exact .nam h.1 rfl
   ·exact .all (by omega) λ t ht=>by cases ht
  ·simp only [Sp.right,ph,Bool.or_eq_true,decide_eq_true_eq] at h;rcases h.2 with ⟨⟨⟨h1 | h1,_⟩,_⟩,h2⟩ | ⟨⟨h1,_⟩,h2⟩
   ·exact .lam h1 rfl h2
   ·exact .all (by omega) λ t ht=>by
     rw [List.mem_singleton] at ht; subst ht; rw [h2]; rfl
   ·exact .all (by omega) λ t ht=>by
     rw [List.mem_singleton] at ht; subst ht; rw [h2,Bool.or_true]
  ·simp only [Sp.right,ph,Bool.or_eq_true,decide_eq_true_eq] at h;rcases h.2 with ((h1 | h1) | h1) | h1
   ·exact .pi h1.1.1.1.1 rfl h1.1.2 h1.2
   ·exact .all (by omega) λ t ht=>by
     simp only [List.mem_cons,List.not_mem_nil,or_false] at ht;rcases ht with rfl | rfl
     ·rw [h1.1.2]; rfl
     ·rw [h1.2]; rfl
   ·exact .at h1.1.1.1 rfl h1.1.2
   ·exact .all (by omega) λ t ht=>by
     simp only [List.mem_cons,List.not_mem_nil,or_false] at ht;rcases ht with rfl | rfl
     ·rw [h1.1.2,Bool.or_true]
     ·rw [h1.2,Bool.or_true]
  ·simp only [Sp.right,ph,decide_eq_true_eq,zhx] at h;obtain ⟨⟨⟨_,h0⟩,_⟩,⟨⟨h1,h2⟩,h3⟩,h4⟩:=h;exact .all (by omega) λ t ht=>by
    simp only [List.mem_cons] at ht;rcases ht with rfl | rfl | rfl | ht
    ·rw [h1,Bool.or_true]
    ·rw [h2,Bool.or_true]
    ·rw [h3,Bool.or_true]
    ·rw [List.all_eq_true.1 h4 t ht,Bool.or_true]
 ·rcases kids with _ | ⟨a,_ | ⟨b,_ | ⟨c,l⟩⟩⟩
  ·simp [Sp.elem] at h
  ·simp only [Sp.elem,ph,decide_eq_true_eq] at h;exact .elem h.1.1.1 rfl λ t ht=>by cases ht
  ·simp only [Sp.elem,ph,decide_eq_true_eq] at h;exact .elem h.1.1.1.1 rfl λ t ht=>by
    rw [List.mem_singleton] at ht; subst ht; rw [h.2]; rfl
  ·simp [Sp.elem] at h
theorem xr{R:Type}(x:Option R):za true x=x:=rfl
theorem zyk{a b:List (List UInt8)}(h:a.length+b.length<4294967296):zcm (.sl 1 (a.map .str)) (.sl 1 (b.map .str))=some ((a++b).map .str):=by
 unfold zcm;rw [zip (pa (by omega)),zip (pa (by omega))]
 show za (decide (a.length+b.length<4294967296)) _=_;rw [pa h];rfl
theorem z6r{b:List (List UInt8)}{s:List UInt8}(h:yj b=true):p90 (.sl 1 (b.map .str)) s=some (Sp.mem s b):=by
 unfold p90;rw [zip h]; rfl
theorem z8u{l:List (List UInt8)}{s:List UInt8}(h:l.length+1<4294967296):a89 s (l.map .str)=some ((Sp.put l s).map .str):=by
 unfold a89;rw [zfg];show za (decide (l.length+1<4294967296)) _=_;rw [pa h];rfl
theorem ziz{t:T}:∀ {l:List T},t∈l→t.depth≤T.depths l
 | u::l,h=>by
  simp only [T.depths];cases h with
  | head=>omega
  | tail _ h=>have:=ziz h; omega
theorem m88:∀ m,zsd m
 | 0=>λ t b l hd _ _=>by cases t; simp only [T.depth] at hd; omega
 | m+1=>λ t b l hd ho hg=>by
  obtain ⟨k,nm,kids,nms,pl⟩:=t;obtain ⟨hr,hb,hl⟩:=zft.1 hg;have hsh:=z6j hr;have ho2:=ho;simp only [T.ok,ph] at ho2;obtain ⟨⟨⟨⟨o1,o2⟩,o3⟩,o4⟩,o5⟩:=ho2;simp only [T.depth] at hd;simp only [Sp.cnt] at hb hl;have hbs:yj b=true:=pa (by omega)
  refine zl (z0s (m88 m)) (N:=kids.length+1) ?_;have kid:∀ t∈kids,t.depth≤m∧t.ok=true:=λ t ht=>⟨by have:=ziz ht; omega,qm o5 ht⟩
  cases hsh with
  | nam h e=>
   subst h; subst e;refine (z8s (qk m) p90 Sp.word zcm a89 _ _ _ _ _ _).trans ?_;show zd (p90 (.sl 1 (b.map .str)) nm) _=_;rw [z6r hbs];show (bif !Sp.mem nm b then za (decide (nm.length≤big)) (bif !Sp.word nm then zd (a89 nm (l.map .str)) _ else _) else _)=_;rw [zey o1,z8u (by omega)]
   show _=some (Out.ret (V.tup []),psN ((bif Sp.mem nm b||Sp.word nm then l else Sp.put l nm).map .str))
   cases Sp.mem nm b
   ·cases Sp.word nm
    ·show za (Nat.beq _ _) _=_;rw [Nat.beq_refl];rfl
    ·rfl
   ·rfl
  | lam h e ha=>
   subst h; subst e;rename_i a;obtain ⟨k1,m1,l1,n1,p1⟩:=a;obtain ⟨d1,d2⟩:=kid _ (List.mem_singleton.2 rfl);simp only [xh] at hb hl;refine (z8r (qk m) p90 Sp.word zcm a89 _ _ _ _ _ _ _ _ _ _ _).trans ?_;show zd (zcm (.sl 1 (b.map .str)) (.sl 1 (nms.map .str))) _=_;rw [zyk (by omega)]
   show zd (qk m (T.mk k1 m1 l1 n1 p1).d (.sl 1 ((b++nms).map .str)) (l.map .str)) _=_;rw [zhj d1 d2 (zft.2 ⟨by rw [ha]; rfl,by rw [pe]; omega,by omega⟩)]
   show za (Nat.beq _ _) _=_;rw [Nat.beq_refl];rfl
  | all h ha=>
   have e:vn (.mk k nm kids nms pl) b l=wx b l kids:=by
    unfold vn;rw [pb (p:=k=1) (by omega),cond_false]
    exact z2v (by omega) (by omega) (by omega) (by omega) (by omega) kids 0 l
   rw [e];have hloop:=z19 (m:=m) (kids.length+1) b l kids (Nat.lt_succ_self _) o2 (λ t ht=>⟨(kid t ht).1,(kid t ht).2,ha t ht⟩) (by omega) (by omega) 3 13 14 15 (λ k L i=>yci (qk m) p90 Sp.word zcm a89 _ k _ L kids i)
   have lds:=ya kids;rcases h with rfl | rfl | rfl | rfl | rfl
   ·have g:=z8q (qk m) p90 Sp.word zcm a89 (kids.length+1) (b.map .str) (l.map .str) nm nms pl kids;rw [lds] at g;exact g.trans hloop
   ·have g:=z8n (qk m) p90 Sp.word zcm a89 (kids.length+1) (b.map .str) (l.map .str) nm nms pl kids;rw [lds] at g;exact g.trans hloop
   ·have g:=z8l (qk m) p90 Sp.word zcm a89 (kids.length+1) (b.map .str) (l.map .str) nm nms pl kids;rw [lds] at g;exact g.trans hloop
   ·have g:=z8k (qk m) p90 Sp.word zcm a89 (kids.length+1) (b.map .str) (l.map .str) nm nms pl kids;rw [lds] at g;exact g.trans hloop
   ·have g:=z5n (qk m) p90 Sp.word zcm a89 (kids.length+1) (b.map .str) (l.map .str) nm nms pl kids;rw [lds] at g;exact g.trans hloop
  | pi h e ha hb2=>
   subst e;rename_i a c;obtain ⟨k1,m1,l1,n1,p1⟩:=a;obtain ⟨k2,m2,l2,n2,p2⟩:=c;obtain ⟨d1,d2⟩:=kid (T.mk k1 m1 l1 n1 p1) (by simp)
   obtain ⟨d3,d4⟩:=kid (T.mk k2 m2 l2 n2 p2) (by simp)
   simp only [xh] at hb hl;have hgl:=zj2 (T.mk k1 m1 l1 n1 p1) b l
   have fin:zd (qk m (T.mk k1 m1 l1 n1 p1).d (.sl 1 (b.map .str)) (l.map .str)) (λ L'=>za (Nat.beq (l.map D.str).length (l.map D.str).length) (zd (zcm (.sl 1 (b.map .str)) (.sl 1 (nms.map .str))) λ b=>zd (qk m (T.mk k2 m2 l2 n2 p2).d (.sl 1 b) L') λ L''=>za (Nat.beq L'.length L'.length) (some (Out.ret (V.tup []),psN L'')))) =
     some (Out.ret (V.tup []),psN ((vn (T.mk k2 m2 l2 n2 p2) (b++nms) (vn (T.mk k1 m1 l1 n1 p1) b l)).map .str)):=by
    rw [zhj d1 d2 (zft.2 ⟨by rw [ha]; rfl,by omega,by omega⟩)]
    show za (Nat.beq _ _) _=_;rw [Nat.beq_refl,zyk (by omega)]
    show zd (qk m (T.mk k2 m2 l2 n2 p2).d (.sl 1 ((b++nms).map .str)) ((vn (T.mk k1 m1 l1 n1 p1) b l).map .str)) _=_;rw [zhj d3 d4 (zft.2 ⟨by rw [hb2]; rfl,by rw [pe]; omega,by omega⟩)]
    show za (Nat.beq _ _) _=_;rw [Nat.beq_refl];rfl
   rcases h with rfl | rfl
   ·exact (z8p (qk m) p90 Sp.word zcm a89 _ _ _ _ _ _ _ _ _ _ _ _ _ _ _ _).trans fin
   ·exact (z8o (qk m) p90 Sp.word zcm a89 _ _ _ _ _ _ _ _ _ _ _ _ _ _ _ _).trans fin
  | «at» h e ha=>
   subst h; subst e;rename_i a c;obtain ⟨k1,m1,l1,n1,p1⟩:=a;obtain ⟨k2,m2,l2,n2,p2⟩:=c;obtain ⟨d1,d2⟩:=kid (T.mk k1 m1 l1 n1 p1) (by simp)
   simp only [xh] at hb hl;refine (z8m (qk m) p90 Sp.word zcm a89 _ _ _ _ _ _ _ _ _ _ _ _ _ _ _ _).trans ?_;show zd (qk m (T.mk k1 m1 l1 n1 p1).d (.sl 1 (b.map .str)) (l.map .str)) _=_;rw [zhj d1 d2 (zft.2 ⟨by rw [ha]; rfl,by omega,by omega⟩)]
   show za (Nat.beq _ _) _=_;rw [Nat.beq_refl];rfl
  | elem h e ha=>
   subst h; subst e;rename_i f r;simp only [xh] at hb hl;have e:vn (.mk 11 nm (f::r) nms pl) b l=wx b l r:=by
    unfold vn;rw [show decide ((11:Int)=1)=false from rfl,cond_false];unfold v7;exact z2u r 1 l (Nat.succ_pos _)
   rw [e];have hloop:=z19 (m:=m) ((f::r).length+1) b l r (by simp only [List.length_cons]; omega) (pa (by have:=xf o2; simp only [List.length_cons] at this; omega)) (λ t ht=>⟨(kid t (pp _ ht)).1,(kid t (pp _ ht)).2,ha t ht⟩) (by omega) (by omega) 20 88 89 90 (λ k L i=>ya2 (qk m) p90 Sp.word zcm a89 _ k _ L r i)
   refine (z5m (qk m) p90 Sp.word zcm a89 _ _ _ _ _ _ _ _).trans ?_;have e2:List.drop (1:Int).toNat (List.take (f.d::T.ds r).length (f.d::T.ds r))=T.ds r:=by
    rw [List.take_length]; rfl
   rw [e2,ya,pa (p:=(1:Int)≤((f.d::T.ds r).length:Int)) (by simp only [List.length_cons]; omega)]
   exact (xr _).trans hloop
def yav:List V→Option (D×(D×D)) | [.d h,.d t,.d b]=>some (h,(t,b)) | _=>none
theorem zyh{x:T}:∀ {l:List T},x∈l→Sp.cnt x≤xh l
 | y::r,h=>by
  simp only [xh];cases h with
  | head=>omega
  | tail _ h=>have:=zyh h; omega
theorem m52(l:List T)(hs:yj l=true)(ho:T.oks l=true)(hr:∀ t∈l,(Sp.right t||Sp.elem t)=true)(hc:xh l<2147483648):zh cx 52 [.d (.sl 5 (T.ds l))] []=some (.ret (.d (.sl 1 ((wx [] [] l).map .str))),[]):=by
 have hk:knows cx (zpt (qk (T.depths l))).S (zh cx):=zmu (m88 _) zq;refine zl hk (N:=l.length+1) ?_;rw [ycp,ya]
 have h:=zht (λ k i (s:List (List UInt8))=>LP cx (zpt (qk (T.depths l))) (l.length+1) 52 0 3 k [(3,V.ptr 3 0),(6,V.d (D.sl 5 (T.ds l))),(7,V.d (D.int .i64 (l.length:Int))),(8,V.d (D.int .i64 i))] [(3,Ob.val 1 (V.sl 1 (s.map .str) 20)),(20,Ob.tok (s.map D.str).length)] (AK cx (zpt (qk (T.depths l))) (l.length+1) 52 0 3 (EK cx 52 0)))
  l (λ a t=>vn t [] a) (λ j s=>s.length+xh (l.drop j)<2147483648) (λ s=>some (.ret (.d (.sl 1 (s.map .str))),[])) (xf hs)
  (λ k j x s hj hx hi=>by
   have hmem:=po hx;have hdr:l.drop j=x::l.drop (j+1):=by
    have:=List.drop_eq_getElem_cons hj;rw [pr hj] at hx;cases hx;exact this
   have hcm:=zyh hmem;rw [hdr] at hi;simp only [xh] at hi;have hg:=zj2 x [] s;refine ⟨?_,by omega⟩
   refine (ya4 (qk (T.depths l)) (l.length+1) k l (s.map .str) j).trans ?_;rw [yh hj,ya,yh hj,xe,yv,pm,hx];show ze x.d.cells 0 _=_;rw [xk];simp only [vm,zcj,zci,zch,zcg,zbk];have hsp:=zhj (m:=T.depths l) (b:=[]) (l:=s) (ziz hmem) (qm ho hmem) (zft.2 ⟨hr x hmem,by simp only [List.length_nil]; omega,by omega⟩)
   show zd (qk (T.depths l) x.d (.sl 1 (([]:List (List UInt8)).map .str)) (s.map .str)) _=_;rw [hsp];show za _ _=_;rw [Nat.beq_refl];rfl)
  (λ k s=>by
   refine (ya4 (qk (T.depths l)) (l.length+1) k l (s.map .str) l.length).trans ?_;rw [xu,cond_false]) (s:=[]) (by rw [List.drop_zero]; simp only [List.length_nil]; omega) (k:=l.length+1) (Nat.lt_succ_self _)
 exact h
def zan:List V→Option D | [.d x]=>some x | _=>none
def zhg(f:D→Option (List UInt8×Int)):CK R1:=zx 87 zan f mkE (CK.plain zo)
def z3l(a:List V)(σ:St):Option (List D×Nat):=match a,σ with | [.slo 0 1 n],[(0,.row l)]=>some (l,n) | _,_=>none
def ybk(s:List D→Option (List D))(S:CK R1):CK R1:=more 49 z3l (λ K q=>zd (s q.1) λ l=>za (Nat.beq q.2 q.1.length) (K (.ret (.tup [])) [(0,.row l)]))
  (λ K q=>by
   simp only;rw [vl];congr 1;funext s;simp only [za,x7];rfl) S
def mkM(q:List D×List D):V:=.tup [.d (.map q.1 q.2),.d (.int .i64 0)]
def z4q(e:Int):V:=.tup [.d .nilmap,.d (.int .i64 e)]
def z5o(pl:D→Option Int):CK R1:=zx 51 zan pl z4q (CK.plain zo)
def qd(pl:D→Option (List D×List D))(al:D→Option (List D))(s:List D→Option (List D)):CK R1:=
 zx 51 zan pl mkM (zx 52 zan al (λ x=>.d (.sl 1 x)) (ybk s (CK.plain zo)))
def ycz(sp:D→D→D→Option (List D))(p:D→List UInt8→Option Bool):CK R1:=zx 60 yav (λ x=>sp x.1 x.2.1 x.2.2) (λ x=>.d (.sl 1 x)) (zx 93 zl1 (λ q=>p q.1 q.2) mkB (CK.plain zo))
theorem ycq(f:D→Option (List UInt8×Int))(n:Nat)(l:List T):zk cx (zhg f) n 51 [.d (.sl 5 (T.ds l))] []=zd (f (D.sl 5 (T.ds l))) λ b=>bif decide (b.snd=(61:Int)) then some (Out.ret (V.tup [V.d D.nilmap,V.d (D.int .i64 b.snd)]),[]) else LP cx (zhg f) n 51 0 6 n [(6,V.map 19),(20,V.d (D.sl 5 (T.ds l))),(21,V.d (D.int .i64 (↑(T.ds l).length:Int))),(22,V.d (D.int .i64 (0:Int)))] [(19,Ob.map [] [])] (AK cx (zhg f) n 51 0 6 (EK cx 51 0)):=by kernel_rfl
theorem ybe(pl:D→Option Int)(n:Nat)(l:List T):zk cx (z5o pl) n 24 [.d (.sl 5 (T.ds l))] []=zd (pl (D.sl 5 (T.ds l))) λ b=>bif !decide (b=(0:Int)) then some (Out.ret (V.tup [V.d (D.sl 1 []),V.d (D.int .i64 b)]),[]) else LP cx (z5o pl) n 24 0 6 n [(4,V.d D.nilmap),(6,V.sl 1 [] 6),(22,V.d (D.sl 5 (T.ds l))),(23,V.d (D.int .i64 (↑(T.ds l).length:Int))),(24,V.d (D.int .i64 (0:Int)))] [(6,Ob.tok 0)] (AK cx (z5o pl) n 24 0 6 (EK cx 24 0)):=by kernel_rfl
theorem ycw(pl:D→Option (List D×List D))(al:D→Option (List D))(s:List D→Option (List D))(n:Nat)(l:List T):zk cx (qd pl al s) n 24 [.d (.sl 5 (T.ds l))] []=zd (pl (D.sl 5 (T.ds l))) λ b=>LP cx (qd pl al s) n 24 0 6 n [(4,V.d (D.map b.1 b.2)),(6,V.sl 1 [] 6),(22,V.d (D.sl 5 (T.ds l))),(23,V.d (D.int .i64 (↑(T.ds l).length:Int))),(24,V.d (D.int .i64 (0:Int)))] [(6,Ob.tok 0)] (AK cx (qd pl al s) n 24 0 6 (EK cx 24 0)):=by kernel_rfl
theorem yc4(sp:D→D→D→Option (List D))(p:D→List UInt8→Option Bool)(n:Nat)(l:List T)(i k:Int):zk cx (ycz sp p) n 57 [.d (.sl 5 (T.ds l)),.d (.int .i64 i),.d (.int .i64 k)] []=za (decide (0≤i)&&decide (i<(↑(T.ds l).length:Int))) (ze (T.ds l) i.toNat λ y=>ze y.cells 2 λ c=>match c with
 | D.sl s l_1=>bif s.beq (cx.P.cellsOf 26)||l_1.isEmpty then za (decide ((0:Int)<(↑l_1.length:Int))) (ze l_1 (0:Int).toNat λ y=>ze y.cells 0 λ c=>ze y.cells 1 λ c_1=>ze y.cells 2 λ c_2=>ze y.cells 3 λ c_3=>ze y.cells 4 λ c_4=>zd (sp (D.sl 1 [],D.agg [c,c_1,c_2,c_3,c_4],D.sl 1 []).fst (D.sl 1 [],D.agg [c,c_1,c_2,c_3,c_4],D.sl 1 []).snd.fst (D.sl 1 [],D.agg [c,c_1,c_2,c_3,c_4],D.sl 1 []).snd.snd) λ b=>za (decide (0≤i)&&decide (i<(↑(T.ds l).length:Int))) (ze (T.ds l) i.toNat λ y=>ze y.cells 2 λ c=>match c with
  | D.sl s l_2=>bif s.beq (cx.P.cellsOf 26)||l_2.isEmpty then za (decide ((1:Int)<(↑l_2.length:Int))) (ze l_2 (1:Int).toNat λ y=>ze y.cells 0 λ c=>ze y.cells 1 λ c_5=>ze y.cells 2 λ c_6=>ze y.cells 3 λ c_7=>ze y.cells 4 λ c_8=>zd (sp (D.sl 1 b,D.agg [c,c_5,c_6,c_7,c_8],D.sl 1 []).fst (D.sl 1 b,D.agg [c,c_5,c_6,c_7,c_8],D.sl 1 []).snd.fst (D.sl 1 b,D.agg [c,c_5,c_6,c_7,c_8],D.sl 1 []).snd.snd) λ b=>za (decide (0≤k)&&decide (k<(↑(T.ds l).length:Int))) (ze (T.ds l) k.toNat λ y=>ze y.cells 1 λ c=>match c with
   | D.str s=>zd (p (D.sl 1 b,s).fst (D.sl 1 b,s).snd) λ b=>some (Out.ret (V.d (D.bool b)),[])
   | x=>none)) else none
  | x=>none)) else none
 | x=>none):=by kernel_rfl
theorem ya5(f:D→Option (List UInt8×Int))(n k:Nat)(l:List T)(ks vs:List D)(i:Int):LP cx (zhg f) n 51 0 6 (k+1) [(6,V.map 19),(20,V.d (D.sl 5 (T.ds l))),(21,V.d (D.int .i64 (l.length:Int))),(22,V.d (D.int .i64 i))] [(19,Ob.map ks vs)] (AK cx (zhg f) n 51 0 6 (EK cx 51 0))=bif decide (i<(↑l.length:Int)) then za (decide (0≤i)&&decide (i<(↑(T.ds l).length:Int))) (ze (T.ds l) i.toNat λ y=>ze y.cells 0 λ c=>ze y.cells 1 λ c=>ze y.cells 2 λ c_1=>ze y.cells 3 λ c_2=>ze y.cells 4 λ c_3=>match c with
 | D.str s=>zd (vt (D.str s) ks 0) λ o=>zim o (λ i=>ze vs i λ y=>match y with
  | D.int k' n=>bif decide (k'=IntKind.i64) then some (Out.ret (V.tup [V.d D.nilmap,V.d (D.int .i64 (270:Int))]),[]) else none
  | x=>none) (match c with
  | D.str s=>zd (vt (D.str s) ks 0) λ o=>zim o (λ i_1=>LP cx (zhg f) n 51 0 6 k [(6,V.map 19),(20,V.d (D.sl 5 (T.ds l))),(21,V.d (D.int .i64 (↑l.length:Int))),(22,V.d (D.int .i64 (IntKind.i64.wrap (i+(1:Int)))))] [(19,Ob.map ks (vs.set i_1 (D.int .i64 i)))] (AK cx (zhg f) n 51 0 6 (EK cx 51 0))) (LP cx (zhg f) n 51 0 6 k [(6,V.map 19),(20,V.d (D.sl 5 (T.ds l))),(21,V.d (D.int .i64 (↑l.length:Int))),(22,V.d (D.int .i64 (IntKind.i64.wrap (i+(1:Int)))))] [(19,Ob.map (ks++[D.str s]) (vs++[D.int .i64 i]))] (AK cx (zhg f) n 51 0 6 (EK cx 51 0)))
  | x=>none)
 | x=>none) else some (Out.ret (V.tup [V.d (D.map ks vs),V.d (D.int .i64 (0:Int))]),[]):=by kernel_rfl
theorem ya9(pl:D→Option (List D×List D))(al:D→Option (List D))(s:List D→Option (List D))(n k:Nat)(l:List T)(ks vs L:List D)(i:Int):LP cx (qd pl al s) n 24 0 6 (k+1) [(4,V.d (D.map ks vs)),(6,V.sl 1 L 6),(22,V.d (D.sl 5 (T.ds l))),(23,V.d (D.int .i64 (l.length:Int))),(24,V.d (D.int .i64 i))] [(6,Ob.tok L.length)] (AK cx (qd pl al s) n 24 0 6 (EK cx 24 0))=bif decide (i<(↑l.length:Int)) then za (decide (0≤i)&&decide (i<(↑(T.ds l).length:Int))) (ze (T.ds l) i.toNat λ y=>ze y.cells 0 λ c=>ze y.cells 1 λ c=>ze y.cells 2 λ c=>ze y.cells 3 λ c_1=>ze y.cells 4 λ c_2=>match c with
 | D.sl s_1 l_1=>bif s_1.beq (cx.P.cellsOf 26)||l_1.isEmpty then zd (al (D.sl 5 l_1)) λ b=>LP cx (qd pl al s) n 24 0 10 n [(4,V.d (D.map ks vs)),(6,V.sl 1 L 6),(9,V.slo 9 1 0),(22,V.d (D.sl 5 (T.ds l))),(23,V.d (D.int .i64 (↑l.length:Int))),(24,V.d (D.int .i64 i)),(30,V.d (D.sl 1 b)),(31,V.d (D.int .i64 (↑b.length:Int))),(32,V.d (D.int .i64 (0:Int)))] [(6,Ob.tok L.length),(9,Ob.row [])] (AL cx (qd pl al s) n 24 0 6 10 (inK cx (qd pl al s) n 24 0 6 k (AK cx (qd pl al s) n 24 0 6 (EK cx 24 0)))) else none
 | x=>none) else some (Out.ret (V.tup [V.d (D.sl 1 L),V.d (D.int .i64 (0:Int))]),[]):=by kernel_rfl
theorem z6c(pl:D→Option (List D×List D))(al:D→Option (List D))(s:List D→Option (List D))(n k m:Nat)(l:List T)(ks vs L U:List D)(b:List (List UInt8))(i j:Int):LP cx (qd pl al s) n 24 0 10 (m+1) [(4,V.d (D.map ks vs)),(6,V.sl 1 L 6),(9,V.slo 9 1 U.length),(22,V.d (D.sl 5 (T.ds l))),(23,V.d (D.int .i64 (l.length:Int))),(24,V.d (D.int .i64 i)),(30,V.d (D.sl 1 (b.map .str))),(31,V.d (D.int .i64 (b.length:Int))),(32,V.d (D.int .i64 j))] [(6,Ob.tok L.length),(9,Ob.row U)] (AL cx (qd pl al s) n 24 0 6 10 (inK cx (qd pl al s) n 24 0 6 k (AK cx (qd pl al s) n 24 0 6 (EK cx 24 0))))=bif decide (j<(↑b.length:Int)) then za (decide (0≤j)&&decide (j<(↑(List.map D.str b).length:Int))) (ze (List.map D.str b) j.toNat λ y=>ze y.cells 0 λ c=>match c with
 | D.str s_1=>zd (vt (D.str s_1) ks 0) λ o=>zim o (λ i_1=>ze vs i_1 λ y=>match y with
  | D.int k' n_1=>bif decide (k'=IntKind.i64) then za (U.length.beq U.length&&decide (U.length+[D.int .i64 n_1].length≤4294967296)) (LP cx (qd pl al s) n 24 0 10 m [(4,V.d (D.map ks vs)),(6,V.sl 1 L 6),(9,V.slo 9 1 (U.length+[D.int .i64 n_1].length)),(22,V.d (D.sl 5 (T.ds l))),(23,V.d (D.int .i64 (↑l.length:Int))),(24,V.d (D.int .i64 i)),(30,V.d (D.sl 1 (List.map D.str b))),(31,V.d (D.int .i64 (↑b.length:Int))),(32,V.d (D.int .i64 (IntKind.i64.wrap (j+(1:Int)))))] [(6,Ob.tok L.length),(9,Ob.row (U++[D.int .i64 n_1]))] (AL cx (qd pl al s) n 24 0 6 10 (inK cx (qd pl al s) n 24 0 6 k (AK cx (qd pl al s) n 24 0 6 (EK cx 24 0))))) else none
  | x=>none) (LP cx (qd pl al s) n 24 0 10 m [(4,V.d (D.map ks vs)),(6,V.sl 1 L 6),(9,V.slo 9 1 U.length),(22,V.d (D.sl 5 (T.ds l))),(23,V.d (D.int .i64 (↑l.length:Int))),(24,V.d (D.int .i64 i)),(30,V.d (D.sl 1 (List.map D.str b))),(31,V.d (D.int .i64 (↑b.length:Int))),(32,V.d (D.int .i64 (IntKind.i64.wrap (j+(1:Int)))))] [(6,Ob.tok L.length),(9,Ob.row U)] (AL cx (qd pl al s) n 24 0 6 10 (inK cx (qd pl al s) n 24 0 6 k (AK cx (qd pl al s) n 24 0 6 (EK cx 24 0)))))
 | x=>none) else zd (s (U,U.length).fst) λ l_1=>za ((U,U.length).snd.beq (U,U.length).fst.length) (za (U.length.beq l_1.length) (za (decide (L.length=L.length)&&decide (L.length+[D.sl 1 l_1].length≤4294967296)) (LP cx (qd pl al s) n 24 0 6 k [(4,V.d (D.map ks vs)),(6,V.sl 1 (L++[D.sl 1 l_1]) 6),(22,V.d (D.sl 5 (T.ds l))),(23,V.d (D.int .i64 (↑l.length:Int))),(24,V.d (D.int .i64 (IntKind.i64.wrap (i+(1:Int)))))] [(6,Ob.tok (L.length+[D.sl 1 l_1].length))] (AK cx (qd pl al s) n 24 0 6 (EK cx 24 0))))):=by kernel_rfl
def zef(l:List T):Bool:=yj l&&T.oks l&&decide (12 * Sp.bulks l≤65536)
def zma(x:D):Option (List T):=zd (vc Sp.toC x) λ l=>za (zef l) (some l)
theorem zbx{l:List T}:zef l=true↔yj l=true∧T.oks l=true∧12 * Sp.bulks l≤65536:=by
 unfold zef;rw [ph,ph,decide_eq_true_eq,and_assoc]
theorem zjd{x:D}{l:List T}(h:zma x=some l):x=.sl 5 (T.ds l)∧zef l=true:=by
 obtain ⟨m,hm,h⟩:=zb h;obtain ⟨h1,h⟩:=zc h;cases h;obtain ⟨d,rfl,h2,_⟩:=zd6 hm;exact ⟨by rw [(zfe (λ x t h=>(w7 h).1) h2).1],h1⟩
theorem ztc{l:List T}(h:zef l=true):zma (.sl 5 (T.ds l))=some l:=by
 obtain ⟨h1,h2,h3⟩:=zbx.1 h;unfold zma;rw [zms (λ t ht=>zjb (qm h2 ht)) h1];show za (zef l) _=_;rw [h]; rfl
theorem zqr:∀ l:List (List UInt8),l.length≤Sp.lens l
 | []=>Nat.le_refl _
 | x::l=>by have:=zqr l; simp only [Sp.lens,List.length_cons]; omega
mutual
theorem zok:∀ t:T,Sp.cnt t≤yo t
 | .mk _ nm kids nms _=>by
  have:=zrh kids;have:=zqr nms;simp only [Sp.cnt,yo]; omega
theorem zrh:∀ l:List T,xh l≤Sp.bulks l
 | []=>Nat.le_refl _
 | t::l=>by
  have:=zok t;have:=zrh l;simp only [xh,Sp.bulks]; omega
end
theorem z3u(t:T):1≤yo t:=by cases t; simp only [yo]; omega
theorem zk0:∀ l:List T,l.length≤Sp.bulks l
 | []=>Nat.le_refl _
 | t::l=>by have:=zk0 l; have:=z3u t; simp only [Sp.bulks,List.length_cons]; omega
def nmL(l:List T):List (List UInt8):=l.map T.nm
theorem z6v{l:List T}{j:Nat}{x:T}(hx:l[j]?=some x):(nmL l)[j]?=some x.nm:=by unfold nmL; rw [List.getElem?_map,hx]; rfl
def zcc:List (List UInt8)→List (List UInt8)→Bool
 | _,[]=>false
 | seen,s::r=>Sp.mem s seen||zcc (seen++[s]) r
def Sp.wr(l:List T):Int:=bif l.all yq then (bif zcc [] (nmL l) then 270 else 0) else 61
theorem z4y(s:List UInt8)(l:List (List UInt8)):ww (l.map .str) s=Sp.mem s l:=by
 unfold ww Sp.mem;rw [List.any_map];congr 1;funext x;show decide (s=x)=_;by_cases h:s=x
 ·subst h; rfl
 ·rw [pb h,pb (λ e=>h e.symm)]
theorem z1j(l:List (List UInt8)):(l.map D.str).all znp=true:=by
 rw [List.all_map,List.all_eq_true]; intro x _; rfl
theorem cellT(t:T){R:Type}(F:D→D→D→D→D→Option R):(ze t.d.cells 0 λ a=>ze t.d.cells 1 λ b=>ze t.d.cells 2 λ c=>ze t.d.cells 3 λ d=>ze t.d.cells 4 λ e=>F a b c d e)=F (.int .i64 t.k) (.str t.nm) (.sl 5 (T.ds t.kids)) (.sl 1 (t.nms.map .str)) (.int .i64 t.pl):=by
 rw [xk]; rfl
def f87(x:D):Option (List UInt8×Int):=zd (zma x) λ l=>some (zek l)
theorem z2z(l:List T):(zek l).2=bif l.all yq then 0 else 61:=by
 unfold zek; cases l.all yq <;> rfl
theorem z6x(n:Nat)(l:List T)(hs:yj l=true):∀ (d j k:Nat),j+d=l.length→d<k →
  LP cx (zhg f87) n 51 0 6 k [(6,V.map 19),(20,V.d (D.sl 5 (T.ds l))),(21,V.d (D.int .i64 (l.length:Int))),(22,V.d (D.int .i64 (j:Int)))] [(19,Ob.map (((nmL l).take j).map .str) (nI (List.range j)))] (AK cx (zhg f87) n 51 0 6 (EK cx 51 0)) =
   bif zcc ((nmL l).take j) ((nmL l).drop j) then some (.ret (z4q 270),[]) else some (.ret (mkM ((nmL l).map .str,nI (List.range l.length))),[]):=by
 intro d
 induction d with
 | zero=>
  intro j k hj hk;obtain ⟨k,rfl⟩:∃ k',k=k'+1:=⟨k - 1,by omega⟩
  obtain rfl:j=l.length:=by omega
  have hl:(nmL l).length=l.length:=pf _;rw [ya5,xu,cond_false,List.drop_eq_nil_of_le (by omega),List.take_of_length_le (by omega)]
  rfl
 | succ d ih=>
  intro j k hj hk;obtain ⟨k,rfl⟩:∃ k',k=k'+1:=⟨k - 1,by omega⟩
  have hlt:j<l.length:=by omega
  have hx:=pr hlt;generalize l[j]=x at hx;have hn:=z6v hx;have hlt2:j<(nmL l).length:=by unfold nmL; rw [pf]; exact hlt
  have hdr:(nmL l).drop j=x.nm::(nmL l).drop (j+1):=by
   rw [List.drop_eq_getElem_cons hlt2];rw [pr hlt2] at hn;injection hn with hn; rw [hn]
  have htk:(nmL l).take (j+1)=(nmL l).take j++[x.nm]:=by
   rw [List.take_succ,hn]; rfl
  have hih:=ih (j+1) k (by omega) (by omega)
  rw [ya5,yh hlt,ya,yh hlt,xe,yv,pm,hx];obtain ⟨o,ho,hi,hb⟩:=zkz x.nm (((nmL l).take j).map .str) 0 (z1j _);rw [z4y] at hi;rw [hdr];show (ze x.d.cells 0 _)=bif (Sp.mem x.nm ((nmL l).take j)||zcc ((nmL l).take j++[x.nm]) ((nmL l).drop (j+1))) then _ else _
  refine (cellT x (λ _ c _ _ _=>match c with
   | D.str s=>zd (vt (D.str s) (((nmL l).take j).map .str) 0) λ o=>zim o (λ i=>ze (nI (List.range j)) i λ y=>match y with
     | D.int k' n=>bif decide (k'=IntKind.i64) then some (Out.ret (z4q 270),[]) else none
     | _=>none)
    (match c with
     | D.str s=>zd (vt (D.str s) (((nmL l).take j).map .str) 0) λ o=>zim o
      (λ i_1=>LP cx (zhg f87) n 51 0 6 k [(6,V.map 19),(20,V.d (D.sl 5 (T.ds l))),(21,V.d (D.int .i64 (l.length:Int))),(22,V.d (D.int .i64 (IntKind.i64.wrap ((j:Int)+1))))] [(19,Ob.map (((nmL l).take j).map .str) ((nI (List.range j)).set i_1 (D.int .i64 (j:Int))))] (AK cx (zhg f87) n 51 0 6 (EK cx 51 0)))
      (LP cx (zhg f87) n 51 0 6 k [(6,V.map 19),(20,V.d (D.sl 5 (T.ds l))),(21,V.d (D.int .i64 (l.length:Int))),(22,V.d (D.int .i64 (IntKind.i64.wrap ((j:Int)+1))))] [(19,Ob.map (((nmL l).take j).map .str++[D.str s]) (nI (List.range j)++[D.int .i64 (j:Int)]))] (AK cx (zhg f87) n 51 0 6 (EK cx 51 0)))
     | _=>none)
   | _=>none)).trans ?_
  show (zd (vt (D.str x.nm) (((nmL l).take j).map .str) 0) λ o=>zim o _ (zd (vt (D.str x.nm) (((nmL l).take j).map .str) 0) λ o=>zim o _ _))=_;rw [ho,←hi];cases o with
  | some i=>
   have:=hb i rfl;simp only [pf,List.length_take] at this;show (ze (nI (List.range j)) i λ y=>_)=_;rw [zjv,List.getElem?_range (by omega)]
   rfl
  | none=>
   have e:((j:Int)+1)=((j+1:Nat):Int):=by omega
   have h1:((nmL l).take j).map D.str++[D.str x.nm]=((nmL l).take (j+1)).map D.str:=by rw [htk,List.map_append]; rfl
   have h2:nI (List.range j)++[D.int .i64 (j:Int)]=nI (List.range (j+1)):=by unfold nI; rw [List.range_succ,List.map_append]; rfl
   show LP cx (zhg f87) n 51 0 6 k _ [(19,Ob.map (((nmL l).take j).map D.str++[D.str x.nm]) (nI (List.range j)++[D.int .i64 (j:Int)]))] _=_;rw [IntWalk.i64_in _ (by have:=xf hs; omega),e,h1,h2,hih,htk]
   rfl
theorem wj{a:List V}{x:D}(h:zan a=some x):a=[.d x]:=by
 unfold zan at h; split at h <;> cases h; rfl
theorem m51(l:List T)(hg:zef l=true):zh cx 51 [.d (.sl 5 (T.ds l))] []=some (.ret (bif decide (Sp.wr l=0) then mkM ((nmL l).map .str,nI (List.range l.length)) else z4q (Sp.wr l)),[]):=by
 have hk:knows cx (zhg f87).S (zh cx):=zj zq λ a q b hd h hb=>by
  obtain ⟨m,hm,hb⟩:=zb hb;cases hb;obtain ⟨h0,hg⟩:=zjd hm;obtain ⟨h1,h2,h3⟩:=zbx.1 hg;rw [wj h,h0];exact z4v m h1 h2 h3
 refine zl hk (N:=l.length+1) ?_;have e:f87 (.sl 5 (T.ds l))=some (zek l):=by unfold f87; rw [ztc hg]; rfl
 rw [ycq,e];show (bif decide ((zek l).2=61) then some (Out.ret (V.tup [V.d D.nilmap,V.d (D.int .i64 (zek l).2)]),[]) else _)=_;rw [z2z];unfold Sp.wr;cases l.all yq
 ·rfl
 ·rw [ya];have e1:decide ((bif true then (0:Int) else 61)=61)=false:=rfl;rw [e1,cond_false];refine (z6x (l.length+1) l (zbx.1 hg).1 l.length 0 (l.length+1) (by omega) (Nat.lt_succ_self _)).trans ?_
  show (bif zcc [] (nmL l) then _ else _)=_;cases zcc [] (nmL l) <;> rfl
def zvc(names:List (List UInt8))(t:T):List Nat:=zcv (λ k=>Sp.mem (names.getD k []) (wx [] [] t.kids)) names.length
def ql(l:List T):List (List Nat):=l.map (zvc (nmL l))
def yr(l:List (List Nat)):List D:=l.map λ u=>.sl 1 (nI u)
theorem zp3{l:List (List UInt8)}{s:List UInt8}(h:l.Nodup):(Sp.put l s).Nodup:=by
 unfold Sp.put;cases hm:Sp.mem s l
 ·simp only [cond_false];rw [List.nodup_append];refine ⟨h,by simp,λ a ha b hb=>?_⟩
  rw [List.mem_singleton] at hb;subst hb;intro e;subst e;rw [mem_iff.2 ha] at hm;cases hm
 ·exact h
mutual
theorem zq2:∀ (t:T) (b acc:List (List UInt8)),acc.Nodup→(vn t b acc).Nodup
 | .mk k nm kids nms _,b,acc,h=>by
  unfold vn;cases decide (k=1)
  ·exact znw kids k nms b 0 acc h
  ·simp only [cond_true];cases Sp.mem nm b||Sp.word nm
   ·exact zp3 h
   ·exact h
theorem znw:∀ (l:List T) (k:Int) (nms b:List (List UInt8)) (i:Nat) (acc:List (List UInt8)),acc.Nodup→(v7 l k nms b i acc).Nodup
 | [],k,nms,b,i,acc,h=>by simpa [v7] using h
 | t::r,k,nms,b,i,acc,h=>by
  unfold v7;refine znw r k nms b (i+1) _ ?_;cases (decide (k=7)&&decide (i=1))||(decide (k=11)&&decide (i=0))
  ·exact zq2 t _ acc h
  ·exact h
end
theorem znx{b:List (List UInt8)}:∀ (l:List T) {acc:List (List UInt8)},acc.Nodup→(wx b acc l).Nodup
 | [],acc,h=>h
 | t::l,acc,h=>znx l (zq2 t b acc h)
theorem zuh{b:List (List UInt8)}:∀ (l:List T) (acc:List (List UInt8)),(wx b acc l).length≤acc.length+xh l
 | [],acc=>by simp [wx]
 | t::l,acc=>by
  have h1:=zuh (b:=b) l (vn t b acc);have h2:=zj2 t b acc;simp only [xh];show (wx b (vn t b acc) l).length≤_;omega
theorem zn5:∀ (r seen:List (List UInt8)),seen.Nodup→zcc seen r=false→(seen++r).Nodup
 | [],seen,h,_=>by rwa [List.append_nil]
 | s::r,seen,h,hd=>by
  unfold zcc at hd;rw [Bool.or_eq_false_iff] at hd;have h1:(seen++[s]).Nodup:=by
   have:=zp3 (s:=s) h;unfold Sp.put at this;rw [hd.1] at this;exact this
  have:=zn5 r (seen++[s]) h1 hd.2
  rwa [List.append_assoc] at this
def zi9(names:List (List UInt8))(s:List UInt8):Option Nat:=y0 (λ t=>decide (s=t)) names 0
theorem ziw{p:List UInt8→Bool}:∀ {l:List (List UInt8)} {i j:Nat},y0 p l i=some j→∃ d x,j=i+d∧l[d]?=some x∧p x=true
 | [],i,j,h=>by cases h
 | x::r,i,j,h=>by
  unfold y0 at h;cases hp:p x <;> rw [hp] at h
  ·simp only [cond_false] at h;obtain ⟨d,y,h1,h2,h3⟩:=ziw h;exact ⟨d+1,y,by omega,by simpa using h2,h3⟩
  ·simp only [cond_true] at h;cases h;exact ⟨0,x,rfl,rfl,hp⟩
theorem zun{s:List UInt8}:∀ {l:List (List UInt8)} {i d:Nat},l.Nodup→l[d]?=some s→y0 (λ t=>decide (s=t)) l i=some (i+d)
 | [],i,d,_,h=>by simp at h
 | x::r,i,d,hn,h=>by
  unfold y0;rw [List.nodup_cons] at hn;rcases d with _ | d
  ·simp at h; subst h;rw [pa rfl]; rfl
  ·simp only [List.getElem?_cons_succ] at h;have:s ≠ x:=λ e=>hn.1 (e ▸ po h);rw [pb this,cond_false,zun hn.2 h];congr 1; omega
theorem zsv{names:List (List UInt8)}(hn:names.Nodup){s:List UInt8}{k:Nat}:zi9 names s=some k↔names[k]?=some s:=by
 unfold zi9;constructor
 ·intro h;obtain ⟨d,x,h1,h2,h3⟩:=ziw h;have:=pc h3;subst this;rw [h1,Nat.zero_add]; exact h2
 ·intro h;rw [zun hn h,Nat.zero_add]
theorem zqn(s:List UInt8):∀ (names:List (List UInt8)) (i:Nat),vt (.str s) (names.map .str) i=some (y0 (λ t=>decide (s=t)) names i)
 | [],i=>rfl
 | x::r,i=>by
  show (bif decide (s=x) then some (some i) else vt (.str s) (r.map .str) (i+1))=some (bif decide (s=x) then some i else y0 _ r (i+1));rw [zqn s r (i+1)];cases decide (s=x) <;> rfl
def zlg(names:List (List UInt8))(us:List Nat)(s:List UInt8):List Nat:=match zi9 names s with | some i=>us++[i] | none=>us
theorem zyd(names:List (List UInt8)):∀ (N:List (List UInt8)) (us:List Nat),N.foldl (zlg names) us=us++N.filterMap (zi9 names)
 | [],us=>by simp
 | s::N,us=>by
  rw [List.foldl_cons,zyd names N,List.filterMap_cons];unfold zlg;cases zi9 names s <;> simp
theorem z2w{names N:List (List UInt8)}(hn:names.Nodup)(hN:N.Nodup) :
  wn ((N.foldl (zlg names) []).map λ k:Nat=>(k:Int))=(zcv (λ k=>Sp.mem (names.getD k []) N) names.length).map λ k:Nat=>(k:Int):=by
 rw [zyd,List.nil_append];refine z1p ?_ λ k=>?_
 ·unfold List.Nodup;rw [List.pairwise_filterMap];refine hN.imp λ {a a'} hab b hb b' hb' e=>hab ?_;subst e;have h1:=(zsv hn).1 hb;have h2:=(zsv hn).1 hb';rw [h1] at h2;cases h2; rfl
 ·rw [List.mem_filterMap];constructor
  ·rintro ⟨s,hs,he⟩;have h1:=(zsv hn).1 he;have h2:=(pj.1 h1).1;refine ⟨h2,?_⟩;rw [List.getD_eq_getElem?_getD,h1];exact mem_iff.2 hs
  ·rintro ⟨h1,h2⟩;have h3:=pr h1;rw [List.getD_eq_getElem?_getD,h3] at h2;exact ⟨names[k],mem_iff.1 h2,(zsv hn).2 h3⟩
theorem zuc(x:Int):∀ l:List Int,(zg2 x l).length=l.length+1
 | []=>rfl
 | y::l=>by
  unfold zg2;cases decide (x≤y)
  ·simp only [cond_false,List.length_cons,zuc x l]
  ·rfl
theorem zp1:∀ l:List Int,(wn l).length=l.length
 | []=>rfl
 | x::l=>by simp only [wn,zuc,zp1 l,List.length_cons]
theorem zub:∀ us:List Nat,zj1 (nI us)=some (us.map λ k:Nat=>(k:Int))
 | []=>rfl
 | u::us=>by
  show (match zj1 (nI us) with | some l=>some ((u:Int)::l) | none=>none)=_
  rw [zub us]; rfl
theorem m49(l:List D)(zs:List Int)(hz:zj1 l=some zs)(h:l.length≤4294967296):zh cx 49 [.slo 0 1 l.length] [(0,.row l)]=some (.ret (.tup []),[(0,.row ((wn zs).map (.int .i64)))]):=by
 cases l with
 | nil=>cases hz; exact zg0 (n:=10) (by kernel_rfl)
 | cons x r=>
  refine zg0 (n:=1) ?_;have e:zjx [.slo 0 1 (x::r).length] [(0,.row (x::r))]=some (.ret (.tup []),[(0,.row ((wn zs).map (.int .i64)))]):=by
   show za (Nat.beq (x::r).length (x::r).length&&decide ((x::r).length≤4294967296)&&true) (zd (zj1 (x::r)) _)=_;rw [Nat.beq_refl,pa h,hz]; rfl
  have e2:cx.nat 49 [.slo 0 1 (x::r).length] [(0,.row (x::r))]=zjx [.slo 0 1 (x::r).length] [(0,.row (x::r))]:=rfl;unfold wh zah;rw [e2,e]
def zel(x:D):Option (List D×List D):=zd (zma x) λ l=>za (decide (Sp.wr l=0)) (some ((nmL l).map .str,nI (List.range l.length)))
def z1z(x:D):Option Int:=zd (zma x) λ l=>za (!decide (Sp.wr l=0)) (some (Sp.wr l))
def okA(l:List T):Bool:=yj l&&T.oks l&&(l.all λ t=>Sp.right t||Sp.elem t)&&decide (xh l<2147483648)
def zd3(x:D):Option (List D):=zd (vc Sp.toC x) λ l=>za (okA l) (some ((wx [] [] l).map .str))
def s49(l:List D):Option (List D):=zd (zj1 l) λ zs=>za (decide (l.length≤4294967296)) (some ((wn zs).map (.int .i64)))
theorem zvq{a:List V}{x:D}{b:List D}(h:zan a=some x)(hb:zd3 x=some b):zh cx 52 a []=some (.ret (.d (.sl 1 b)),[]):=by
 obtain ⟨m,hm,hb⟩:=zb hb;obtain ⟨ho,hb⟩:=zc hb;cases hb;obtain ⟨d,rfl,h2,_⟩:=zd6 hm;unfold okA at ho;rw [ph,ph,ph] at ho;rw [wj h,(zfe (λ x t h=>(w7 h).1) h2).1];exact m52 m ho.1.1.1 ho.1.1.2 (List.all_eq_true.1 ho.1.2) (pc ho.2)
theorem z4e{l:List T}(h:okA l=true):zd3 (.sl 5 (T.ds l))=some ((wx [] [] l).map .str):=by
 have ho:=h;unfold okA at ho;rw [ph,ph,ph] at ho;unfold zd3;rw [zms (λ t ht=>zjb (qm ho.1.1.2 ht)) ho.1.1.1];show za (okA l) _=_;rw [h]; rfl
theorem zxe{S:CK R1}(hS:knows cx S.S (zh cx)):knows cx (ybk s49 S).S (zh cx):=wi hS λ a σ q r hd h=>by
 obtain ⟨l,n⟩:=q;unfold z3l at hd;split at hd
 ·cases hd;obtain ⟨l',hl,h⟩:=zb h;obtain ⟨hn,h⟩:=zc h;cases h;obtain ⟨zs,hz,hl⟩:=zb hl;obtain ⟨h1,hl⟩:=zc hl;cases hl;have hn:n=l.length:=pg hn;subst hn;exact m49 l zs hz (pc h1)
 ·cases hd
theorem zxf:knows cx (qd zel zd3 s49).S (zh cx):=
 zj (zj (zxe zq) λ a q b hd h hb=>zvq h hb) λ a q b hd h hb=>by
  obtain ⟨l,hl,hb⟩:=zb hb;obtain ⟨h1,hb⟩:=zc hb;cases hb;obtain ⟨h0,hg⟩:=zjd hl;rw [wj h,h0,m51 l hg,h1];rfl
theorem zxg:knows cx (z5o z1z).S (zh cx):=
 zj zq λ a q b hd h hb=>by
  obtain ⟨l,hl,hb⟩:=zb hb;obtain ⟨h1,hb⟩:=zc hb;cases hb;obtain ⟨h0,hg⟩:=zjd hl;have h2:decide (Sp.wr l=0)=false:=by simpa using h1
  rw [wj h,h0,m51 l hg,h2];rfl
theorem wr0{l:List T}(h:Sp.wr l=0):l.all yq=true∧(nmL l).Nodup:=by
 unfold Sp.wr at h;cases h1:l.all yq <;> rw [h1] at h
 ·simp at h
 ·cases h2:zcc [] (nmL l) <;> rw [h2] at h
  ·exact ⟨rfl,by have:=zn5 (nmL l) [] List.nodup_nil h2; rwa [List.nil_append] at this⟩
  ·simp at h
theorem zz1{t:T}(h:yq t=true):∃ a b,t.kids=[a,b]∧Sp.right a=true∧Sp.right b=true:=by
 obtain ⟨k,nm,kids,nms,pl⟩:=t;unfold yq at h;split at h
 ·rename_i he;cases he;rw [ph,ph,ph] at h;exact ⟨_,_,rfl,h.1.2,h.2⟩
 ·cases h
theorem z2l{t:T}(h:t.ok=true):T.oks t.kids=true∧yj t.kids=true:=by
 obtain ⟨k,nm,kids,nms,pl⟩:=t;simp only [T.ok,ph] at h;exact ⟨h.2,h.1.1.1.2⟩
theorem zqt(t:T):xh t.kids<Sp.cnt t:=by
 obtain ⟨k,nm,kids,nms,pl⟩:=t;simp only [Sp.cnt,T.kids]; omega
theorem z12{l:List T}(hg:zef l=true)(hd:l.all yq=true){t:T}(ht:t∈l):okA t.kids=true:=by
 obtain ⟨h1,h2,h3⟩:=zbx.1 hg;obtain ⟨a,b,he,ha,hb⟩:=zz1 (List.all_eq_true.1 hd t ht);obtain ⟨h4,h5⟩:=z2l (qm h2 ht);have h6:=zqt t;have h7:=zok t;have h8:=zos ht;unfold okA;rw [h4,h5,pa (p:=xh t.kids<2147483648) (by omega),he]
 simp [ha,hb]
theorem zwg{R α S:Type}(L:Nat→Int→S→Option R)(xs:List α)(step:S→α→S)(I:Nat→S→Prop)(E:S→Option R)(hs:xs.length<4294967296)
  (H:∀ (k j:Nat) x s,j<xs.length→xs[j]?=some x→I j s→L (k+1) j s=L k (IntKind.i64.wrap ((j:Int)+1)) (step s x)∧I (j+1) (step s x)) (HE:∀ k s,I xs.length s→L (k+1) xs.length s=E s) {s:S} (h0:I 0 s) {k:Nat} (hk:xs.length<k) :
  L k 0 s=E (xs.foldl step s):=by
 have key:∀ (d j:Nat) (k:Nat) (s:S),j+d=xs.length→d<k→I j s→L k j s=E ((xs.drop j).foldl step s):=by
  intro d
  induction d with
  | zero=>
   intro j k s hj hk hi;obtain ⟨k,rfl⟩:∃ k',k=k'+1:=⟨k - 1,by omega⟩
   obtain rfl:j=xs.length:=by omega
   rw [HE _ _ hi,List.drop_length]; rfl
  | succ d ih=>
   intro j k s hj hk hi;obtain ⟨k,rfl⟩:∃ k',k=k'+1:=⟨k - 1,by omega⟩
   have hlt:j<xs.length:=by omega
   obtain ⟨h1,h2⟩:=H k j xs[j] s hlt (pr hlt) hi;rw [h1,IntWalk.i64_in _ (by omega)]
   have e:((j:Int)+1)=((j+1:Nat):Int):=by omega
   rw [e,ih (j+1) k _ (by omega) (by omega) h2,List.drop_eq_getElem_cons hlt]
   rfl
 have:=key xs.length 0 k s (by omega) hk h0
 rw [List.drop_zero] at this;exact this
theorem z6k(us:List Nat)(h:us.length≤4294967296):s49 (nI us)=some ((wn (us.map λ k:Nat=>(k:Int))).map (.int .i64)):=by
 unfold s49;rw [zub];show za (decide ((nI us).length≤4294967296)) _=_;rw [pa (by unfold nI; rw [pf]; exact h)]
 rfl
theorem z4u(n k:Nat)(l:List T)(names:List (List UInt8))(hnl:names.length<4294967296)(L:List D)(hL:L.length<4294967295)(b:List (List UInt8))(hb:yj b=true)(hbn:b.length<n)(hn:names.Nodup)(hbd:b.Nodup)(i:Int) :
  LP cx (qd zel zd3 s49) n 24 0 10 n [(4,V.d (D.map (names.map .str) (nI (List.range names.length)))),(6,V.sl 1 L 6),(9,V.slo 9 1 0),(22,V.d (D.sl 5 (T.ds l))),(23,V.d (D.int .i64 (l.length:Int))),(24,V.d (D.int .i64 i)),(30,V.d (D.sl 1 (b.map .str))),(31,V.d (D.int .i64 (b.length:Int))),(32,V.d (D.int .i64 0))] [(6,Ob.tok L.length),(9,Ob.row [])] (AL cx (qd zel zd3 s49) n 24 0 6 10 (inK cx (qd zel zd3 s49) n 24 0 6 k (AK cx (qd zel zd3 s49) n 24 0 6 (EK cx 24 0)))) =
  LP cx (qd zel zd3 s49) n 24 0 6 k [(4,V.d (D.map (names.map .str) (nI (List.range names.length)))),(6,V.sl 1 (L++[D.sl 1 (nI (zcv (λ k=>Sp.mem (names.getD k []) b) names.length))]) 6),(22,V.d (D.sl 5 (T.ds l))),(23,V.d (D.int .i64 (l.length:Int))),(24,V.d (D.int .i64 (IntKind.i64.wrap (i+1))))] [(6,Ob.tok (L++[D.sl 1 (nI (zcv (λ k=>Sp.mem (names.getD k []) b) names.length))]).length)] (AK cx (qd zel zd3 s49) n 24 0 6 (EK cx 24 0)):=by
 have h:=zwg (λ m j (us:List Nat)=>LP cx (qd zel zd3 s49) n 24 0 10 m [(4,V.d (D.map (names.map .str) (nI (List.range names.length)))),(6,V.sl 1 L 6),(9,V.slo 9 1 (nI us).length),(22,V.d (D.sl 5 (T.ds l))),(23,V.d (D.int .i64 (l.length:Int))),(24,V.d (D.int .i64 i)),(30,V.d (D.sl 1 (b.map .str))),(31,V.d (D.int .i64 (b.length:Int))),(32,V.d (D.int .i64 j))] [(6,Ob.tok L.length),(9,Ob.row (nI us))] (AL cx (qd zel zd3 s49) n 24 0 6 10 (inK cx (qd zel zd3 s49) n 24 0 6 k (AK cx (qd zel zd3 s49) n 24 0 6 (EK cx 24 0)))))
  b (zlg names) (λ j us=>us.length≤j)
  (λ us=>LP cx (qd zel zd3 s49) n 24 0 6 k [(4,V.d (D.map (names.map .str) (nI (List.range names.length)))),(6,V.sl 1 (L++[D.sl 1 ((wn (us.map λ k:Nat=>(k:Int))).map (.int .i64))]) 6),(22,V.d (D.sl 5 (T.ds l))),(23,V.d (D.int .i64 (l.length:Int))),(24,V.d (D.int .i64 (IntKind.i64.wrap (i+1))))] [(6,Ob.tok (L.length+[D.sl 1 ((wn (us.map λ k:Nat=>(k:Int))).map (.int .i64))].length))] (AK cx (qd zel zd3 s49) n 24 0 6 (EK cx 24 0)))
  (xf hb)
  (λ m j s us hj hs hi=>by
   have hu:(nI us).length=us.length:=by unfold nI; rw [pf]
   have hjb:=xf hb;refine ⟨?_,?_⟩
   ·refine (z6c zel zd3 s49 n k m l (names.map .str) (nI (List.range names.length)) L (nI us) b i j).trans ?_;rw [pf,yh hj,xe,qg,pm,hs];show (zd (vt (D.str s) (names.map .str) 0) _)=_;rw [zqn];unfold zlg zi9;cases hf:y0 (λ t=>decide (s=t)) names 0 with
    | none=>rfl
    | some d=>
     obtain ⟨e,x,h1,h2,_⟩:=ziw hf;have h3:=(pj.1 h2).1;have h4:nI (us++[d])=nI us++[D.int .i64 (d:Int)]:=by unfold nI; rw [List.map_append]; rfl
     simp only;show (ze (nI (List.range names.length)) d λ y=>_)=_;rw [zjv,List.getElem?_range (by omega)]
     show za (Nat.beq (nI us).length (nI us).length&&decide ((nI us).length+[D.int .i64 (d:Int)].length≤4294967296)) _=_;rw [Nat.beq_refl,pa (p:=(nI us).length+[D.int .i64 (d:Int)].length≤4294967296) (by rw [hu]; simp only [List.length_cons,List.length_nil]; omega),h4,pe]
     rfl
   ·unfold zlg;cases zi9 names s with
    | none=>simp only; omega
    | some d=>simp only [pe,List.length_cons,List.length_nil]; omega)
  (λ m us hi=>by
   refine (z6c zel zd3 s49 n k m l (names.map .str) (nI (List.range names.length)) L (nI us) b i b.length).trans ?_;have hjb:=xf hb;rw [xu,cond_false];show (zd (s49 (nI us)) _)=_;rw [z6k us (by omega)]
   have e5:((wn (us.map λ k:Nat=>(k:Int))).map (D.int .i64)).length=(nI us).length:=by unfold nI; rw [pf,zp1,pf,pf]
   show za (Nat.beq (nI us).length (nI us).length) (za (Nat.beq (nI us).length ((wn (us.map λ k:Nat=>(k:Int))).map (D.int .i64)).length) (za (decide (L.length=L.length)&&decide (L.length+[D.sl 1 ((wn (us.map λ k:Nat=>(k:Int))).map (D.int .i64))].length≤4294967296)) _))=_;rw [e5,Nat.beq_refl,pa (p:=L.length=L.length) rfl,pa (p:=L.length+[D.sl 1 ((wn (us.map λ k:Nat=>(k:Int))).map (D.int .i64))].length≤4294967296) (by simp only [List.length_cons,List.length_nil]; omega)]
   rfl) (s:=[]) (Nat.le_refl _) (k:=n) hbn
 refine h.trans ?_;rw [z2w hn hbd];have e:((zcv (λ k=>Sp.mem (names.getD k []) b) names.length).map λ k:Nat=>(k:Int)).map (D.int .i64)=nI (zcv (λ k=>Sp.mem (names.getD k []) b) names.length):=by
  unfold nI; rw [List.map_map]; rfl
 rw [e,pe]
theorem zjh{α:Type}{l:List α}(h:l.length<4294967296):yj l=true:=pa h
theorem zfu(l:List T):(nmL l).length=l.length:=pf _
theorem zyo(a:List (List Nat))(u:List Nat):yr (a++[u])=yr a++[D.sl 1 (nI u)]:=by unfold yr; rw [List.map_append]; rfl
theorem zq4{α β:Type}(f:α→β):∀ (l:List α) (acc:List β),l.foldl (λ a x=>a++[f x]) acc=acc++l.map f
 | [],acc=>by simp
 | x::l,acc=>by rw [List.foldl_cons,zq4 f l]; simp
def mkU(q:List (List Nat)×Int):V:=.tup [.d (.sl 1 (yr q.1)),.d (.int .i64 q.2)]
def zc7(l:List T):List (List Nat)×Int:=bif decide (Sp.wr l=0) then (ql l,0) else ([],Sp.wr l)
theorem m24(l:List T)(hg:zef l=true):zh cx 24 [.d (.sl 5 (T.ds l))] []=some (.ret (mkU (zc7 l)),[]):=by
 unfold zc7;obtain ⟨h1,h2,h3⟩:=zbx.1 hg;have hlb:=zk0 l;cases hw:decide (Sp.wr l=0)
 ·refine zl zxg (N:=0) ?_;have e:z1z (.sl 5 (T.ds l))=some (Sp.wr l):=by
   unfold z1z; rw [ztc hg];show za (!decide (Sp.wr l=0)) _=_;rw [hw]; rfl
  rw [ybe,e];show (bif !decide (Sp.wr l=0) then _ else _)=_;rw [hw];rfl
 ·have hw0:=pc hw;obtain ⟨hd,hn⟩:=wr0 hw0;obtain ⟨N,hN⟩:∃ N,N=l.length+65537:=⟨_,rfl⟩;refine zl zxf (N:=N) ?_;have e:zel (.sl 5 (T.ds l))=some ((nmL l).map .str,nI (List.range l.length)):=by
   unfold zel; rw [ztc hg];show za (decide (Sp.wr l=0)) _=_;rw [hw]; rfl
  rw [ycw,e,ya]
  have h:=zht (λ k j (us:List (List Nat))=>LP cx (qd zel zd3 s49) N 24 0 6 k [(4,V.d (D.map ((nmL l).map .str) (nI (List.range (nmL l).length)))),(6,V.sl 1 (yr us) 6),(22,V.d (D.sl 5 (T.ds l))),(23,V.d (D.int .i64 (l.length:Int))),(24,V.d (D.int .i64 j))] [(6,Ob.tok (yr us).length)] (AK cx (qd zel zd3 s49) N 24 0 6 (EK cx 24 0)))
   l (λ a t=>a++[zvc (nmL l) t]) (λ j us=>us.length≤j) (λ us=>some (.ret (mkU (us,0)),[])) (xf h1)
   (λ k j x us hj hx hi=>by
    have hmem:=po hx;have ho:=z12 hg hd hmem;have hjb:=xf h1;have hud:(yr us).length=us.length:=by unfold yr; rw [pf]
    have hgl:=zuh (b:=[]) x.kids [];have hc1:=zqt x;have hc2:=zok x;have hc3:=zos hmem;have hin:=z4u N k l (nmL l) (by rw [zfu]; omega) (yr us) (by omega) (wx [] [] x.kids) (zjh (by simp only [List.length_nil] at hgl; omega)) (by simp only [List.length_nil] at hgl; omega) hn (znx x.kids List.nodup_nil) j
    refine ⟨?_,by simp only [pe,List.length_cons,List.length_nil]; omega⟩
    refine (ya9 zel zd3 s49 _ k l ((nmL l).map .str) (nI (List.range (nmL l).length)) (yr us) j).trans ?_;rw [yh hj,ya,yh hj,xe,yv,pm,hx];rw [cond_true,qr,xk];simp only [vm,zcj,zci,zch,zcg,xr,Bool.and_self];rw [zp0,Bool.true_or,cond_true,z4e ho];rw [qr,pf,zyo];exact hin)
   (λ k us=>by
    refine (ya9 zel zd3 s49 _ k l ((nmL l).map .str) (nI (List.range (nmL l).length)) (yr us) l.length).trans ?_;rw [xu,cond_false];rfl) (s:=[]) (Nat.le_refl _) (k:=N) (by omega)
  rw [zq4,List.nil_append,zfu] at h;exact h
theorem zxp(p:Nat→Bool)(j:Nat):(zcv p j).length≤j:=by
 unfold zcv;exact Nat.le_trans (List.length_filter_le ..) (by rw [List.length_range]; exact Nat.le_refl _)
theorem zcs(l:List Nat):(nI l).length=l.length:=by unfold nI; rw [pf]
theorem zmj{R:Type}{l:List D}{i:Nat}{x:D}{K:D→Option R}(h:l[i]?=some x):ze l i K=K x:=by
 unfold ze; rw [h]
theorem cells3:Nat.beq 1 (cx.P.cellsOf 3)=true:=by kernel_rfl
theorem zs4{l:List (List Nat)}{j:Nat}{x:List Nat}(hx:l[j]?=some x):(yr l)[j]?=some (.sl 1 (nI x)):=by unfold yr; rw [List.getElem?_map,hx]; rfl
theorem zyn(l:List (List Nat)):(yr l).length=l.length:=by unfold yr; rw [pf]
def txW:List UInt8:=[97,32,58,32,85,32,61,32,83,49,59,32,98,32,58,32,85,32,61,32,85,59,32,99,32,58,32,97,32,61,32,98,97,115,101,59]
def nmT(s:List UInt8)(a:Int):T:=.mk 1 s [] [] a
def lw:List T:=[.mk 18 [97] [nmT [85] 4,nmT [83,49] 8] [] 0,.mk 18 [98] [nmT [85] 16,nmT [85] 20] [] 12,.mk 18 [99] [nmT [97] 27,nmT [98,97,115,101] 31] [] 23]
theorem w44:wh cx 100 44 [.d (.str txW)] []=some (.ret (.tup [.d (.sl 5 (T.ds lw)),.d (.int .i64 0),.d (.int .i64 0)]),[]):=by kernel_rfl
mutual
def z1s:T→T→Bool
 | .mk k nm kids nms pl,.mk k' nm' kids' nms' pl'=>decide (k=k')&&decide (nm=nm')&&zmz kids kids'&&decide (nms=nms')&&decide (pl=pl')
def zmz:List T→List T→Bool
 | [],[]=>true
 | a::l,b::m=>z1s a b&&zmz l m
 | _,_=>false
end
mutual
theorem z1r:∀ {a b:T},z1s a b=true→a=b
 | .mk k nm kids nms pl,.mk k' nm' kids' nms' pl',h=>by
  simp only [z1s,ph,decide_eq_true_eq] at h;obtain ⟨⟨⟨⟨rfl,rfl⟩,h3⟩,rfl⟩,rfl⟩:=h;rw [zkm h3]
theorem zkm:∀ {a b:List T},zmz a b=true→a=b
 | [],[],_=>rfl
 | a::l,b::m,h=>by
  simp only [zmz,ph] at h;rw [z1r h.1,zkm h.2]
 | [],b::m,h=>by cases h
 | a::l,[],h=>by cases h
end
def z2o(x:D):Option Unit:=zd (vc (zi 5) x) λ l=>za (zmz l lw) (some ())
theorem zhq{x:D}{u:Unit}(h:z2o x=some u):x=.sl 5 (T.ds lw):=by
 obtain ⟨l,hl,h⟩:=zb h;obtain ⟨h1,_⟩:=zc h;obtain ⟨d,rfl,h2,_⟩:=zd6 hl;rw [(zfe (λ x t h=>(y7 h).1) h2).1,zkm h1]
theorem z40:zef lw=true:=by kernel_rfl
theorem z4a:zc7 lw=([[],[],[0]],0):=by kernel_rfl
def mkL(l:List Nat):V:=.tup [.d (.sl 1 (nI l)),.d (.int .i64 0)]
def z36:CK R1:=zx 24 zan z2o (λ _=>mkU ([[],[],[0]],0)) (evK 40)
theorem zgi:knows cx z36.S (zh cx):=zj (zra 40) λ a q b hd h hb=>by
 rw [wj h,zhq hb,m24 lw z40,z4a]
theorem w19:zk cx z36 10 19 [.d (.sl 5 (T.ds lw)),.d (.str [99])] []=some (.ret (mkL [0,2]),[]):=by kernel_rfl
theorem w21:zk cx z36 10 21 [.d (.sl 5 (T.ds lw))] []=some (.ret (mkL [1,2]),[]):=by kernel_rfl
theorem w26:zk cx z36 10 26 [.d (.sl 5 (T.ds lw))] []=some (.ret (mkL [0,1,2]),[]):=by kernel_rfl
def yar:List V→Option Unit | [.d (.str s)]=>za (decide (s=txW)) (some ()) | _=>none
def z3n:List V→Option D | [.d x,.d (.str s)]=>za (decide (s=[99])) (some x) | _=>none
def ybm:CK R1:=zx 44 yar some (λ _=>.tup [.d (.sl 5 (T.ds lw)),.d (.int .i64 0),.d (.int .i64 0)]) (zx 19 z3n z2o (λ _=>mkL [0,2]) (zx 21 zan z2o (λ _=>mkL [1,2]) (zx 26 zan z2o (λ _=>mkL [0,1,2]) z36)))
theorem zxh:knows cx ybm.S (zh cx):=
 zj (zj (zj (zj zgi λ a q b hd h hb=>by
   rw [wj h,zhq hb];exact zl zgi (N:=10) w26) λ a q b hd h hb=>by
   rw [wj h,zhq hb];exact zl zgi (N:=10) w21) λ a q b hd h hb=>by
   unfold z3n at h;split at h
   ·obtain ⟨h1,h⟩:=zc h;cases h;rw [zhq hb,pc h1];exact zl zgi (N:=10) w19
   ·cases h) λ a q b hd h hb=>by
   unfold yar at h;split at h
   ·obtain ⟨h1,h⟩:=zc h;rw [pc h1];exact zg0 w44
   ·cases h
theorem w18:zk cx ybm 10 18 [] []=some (.ret (mkB true),[]):=by kernel_rfl
theorem m18:zh cx 18 [] []=some (.ret (mkB true),[]):=zl zxh (N:=10) w18
def mk2(q:List D×Int):V:=.tup [.d (.sl 1 q.1),.d (.int .i64 q.2)]
def yc2:List V→Option (D×D) | [.d x,.d y]=>some (x,y) | _=>none
def z3p:List V→Option Unit | []=>some () | _=>none
def ybl(b:D→Int→Option Int):CK R1:=zx 28 zid (λ q=>b q.1 q.2) mkI (CK.plain zo)
def ybn(g:D→Option Bool):CK R1:=zx 43 zan g mkB (CK.plain zo)
theorem ycr(b:D→Int→Option Int)(n:Nat)(l:List T):zk cx (ybl b) n 43 [.d (.sl 5 (T.ds l))] []=zd (b (D.agg [D.int .i64 (0:Int),D.str [],D.sl 5 (T.ds l),D.sl 1 [],D.int .i64 (0:Int)],(400:Int)).fst (D.agg [D.int .i64 (0:Int),D.str [],D.sl 5 (T.ds l),D.sl 1 [],D.int .i64 (0:Int)],(400:Int)).snd) λ b=>some (Out.ret (V.d (D.bool (decide ((400:Int)<b)))),[]):=by kernel_rfl
theorem ycx(g:D→Option Bool)(n:Nat)(l:List T):zk cx (ybn g) n 17 [.d (.sl 5 (T.ds l))] []=bif decide ((40:Int)<(↑(T.ds l).length:Int)) then some (Out.ret (V.d (D.bool true)),[]) else zd (g (D.sl 5 (T.ds l))) λ b=>some (Out.ret (V.d (D.bool b)),[]):=by kernel_rfl
def zvd(x:D):Option (List T):=zd (vc Sp.toC x) λ l=>za (T.oks l) (some l)
theorem zxk{x:D}{l:List T}(h:zvd x=some l):x=.sl 5 (T.ds l)∧yj l=true∧T.oks l=true:=by
 obtain ⟨m,hm,h⟩:=zb h;obtain ⟨h1,h⟩:=zc h;cases h;obtain ⟨d,rfl,h2,h3⟩:=zd6 hm;exact ⟨by rw [(zfe (λ x t h=>(w7 h).1) h2).1],h3,h1⟩
theorem z5q{l:List T}(h1:yj l=true)(h2:T.oks l=true):zvd (.sl 5 (T.ds l))=some l:=by
 unfold zvd;rw [zms (λ t ht=>zjb (qm h2 ht)) h1];show za (T.oks l) _=_;rw [h2]; rfl
def zu9(l:List T):T:=.mk 0 [] l [] 0
theorem z5i{l:List T}(h1:yj l=true)(h2:T.oks l=true):(zu9 l).ok=true:=by
 unfold zu9; simp only [T.ok,h1,h2]; rfl
def zd0(l:List T):Bool:=decide ((40:Int)<(l.length:Int))||decide ((400:Int)<Sp.blk (zu9 l) 400)
def b28(x:D)(a:Int):Option Int:=zd (Sp.toC x) λ t=>za (decide (0≤a)&&decide (a≤1048576)) (some (Sp.blk t a))
theorem z3j{a:List V}{q}(h:zid a=some q):a=[.d q.1,.d (.int .i64 q.2)]:=zi0 h
theorem z0f{a:List V}{q:D×Int}{b:Int}(h:zid a=some q)(hb:b28 q.1 q.2=some b):zh cx 28 a []=some (.ret (mkI b),[]):=by
 obtain ⟨t,ht,hb⟩:=zb hb;obtain ⟨h1,hb⟩:=zc hb;cases hb;rw [ph] at h1;obtain ⟨h0,hg⟩:=w7 ht;rw [z3j h,h0];exact z56 t.depth t q.2 (Nat.le_refl _) hg (pc h1.1) (pc h1.2)
def g43(x:D):Option Bool:=zd (zvd x) λ l=>some (decide ((400:Int)<Sp.blk (zu9 l) 400))
theorem m43(l:List T)(h1:yj l=true)(h2:T.oks l=true):zh cx 43 [.d (.sl 5 (T.ds l))] []=some (.ret (mkB (decide ((400:Int)<Sp.blk (zu9 l) 400))),[]):=by
 have hk:knows cx (ybl b28).S (zh cx):=zj zq λ a q b hd h hb=>z0f h hb;refine zl hk (N:=0) ?_;rw [ycr];show zd (b28 (zu9 l).d 400) _=_;unfold b28;rw [zjb (z5i h1 h2)];rfl
theorem m17(l:List T)(h1:yj l=true)(h2:T.oks l=true):zh cx 17 [.d (.sl 5 (T.ds l))] []=some (.ret (mkB (zd0 l)),[]):=by
 have hk:knows cx (ybn g43).S (zh cx):=zj zq λ a q b hd h hb=>by
  obtain ⟨m,hm,hb⟩:=zb hb;cases hb;obtain ⟨h0,h1,h2⟩:=zxk hm;rw [wj h,h0];exact m43 m h1 h2
 refine zl hk (N:=0) ?_;have e:g43 (.sl 5 (T.ds l))=some (decide ((400:Int)<Sp.blk (zu9 l) 400)):=by unfold g43; rw [z5q h1 h2]; rfl
 rw [ycx,ya,e];unfold zd0;cases decide ((40:Int)<(l.length:Int)) <;> rfl
def g17(x:D):Option Bool:=zd (zvd x) λ l=>some (zd0 l)
theorem zzq{a:List V}{x:D}{b:Bool}(h:zan a=some x)(hb:g17 x=some b):zh cx 17 a []=some (.ret (mkB b),[]):=by
 obtain ⟨m,hm,hb⟩:=zb hb;cases hb;obtain ⟨h0,h1,h2⟩:=zxk hm;rw [wj h,h0];exact m17 m h1 h2
theorem z7x{l:List T}(h1:yj l=true)(h2:T.oks l=true):g17 (.sl 5 (T.ds l))=some (zd0 l):=by unfold g17; rw [z5q h1 h2]; rfl
theorem z8a{t:T}(h : ¬ (400:Int)<Sp.blk t 400):yo t≤400:=by
 obtain ⟨_,_,h3⟩:=zow t 400 (by omega)
 have:=h3 (by omega)
 omega
theorem zwe{l:List T}(h1:yj l=true)(h2:T.oks l=true)(h:zd0 l=false):zef l=true∧l.length≤40∧Sp.bulks l≤400:=by
 unfold zd0 at h;rw [Bool.or_eq_false_iff] at h;have ha:=of_decide_eq_false h.1;have hb:=z8a (of_decide_eq_false h.2);simp only [zu9,yo] at hb;exact ⟨zbx.2 ⟨h1,h2,by omega⟩,by omega,by omega⟩
def u24(x:D):Option (List D×Int):=zd (zma x) λ l=>some (yr (zc7 l).1,(zc7 l).2)
theorem z1e{l:List T}(h:zef l=true):u24 (.sl 5 (T.ds l))=some (yr (zc7 l).1,(zc7 l).2):=by unfold u24; rw [ztc h]; rfl
theorem zpw{a:List V}{x:D}{b}(h:zan a=some x)(hb:u24 x=some b):zh cx 24 a []=some (.ret (mk2 b),[]):=by
 obtain ⟨m,hm,hb⟩:=zb hb;cases hb;obtain ⟨h0,h1⟩:=zjd hm;rw [wj h,h0];exact m24 m h1
theorem zyl{a:List V}{q:Unit}{b:Bool}(h:z3p a=some q)(hb:(some true:Option Bool)=some b):zh cx 18 a []=some (.ret (mkB b),[]):=by
 cases hb;unfold z3p at h; split at h <;> cases h;exact m18
def zgj:List D→Option (List Nat)
 | []=>some []
 | .int .i64 n::r=>zd (zgj r) λ l=>za (decide (0≤n)) (some (n.toNat::l))
 | _=>none
theorem zdq:∀ {l:List D} {r:List Nat},zgj l=some r→l=nI r
 | [],r,h=>by cases h; rfl
 | .int .i64 n::l,r,h=>by
  obtain ⟨q,hq,h⟩:=zb h;obtain ⟨h1,h⟩:=zc h;cases h;rw [zdq hq];have:=pc h1;show D.int .i64 n::nI q=D.int .i64 ((n.toNat:Nat):Int)::nI q;rw [Int.toNat_of_nonneg this]
theorem zgy:∀ us:List Nat,zgj (nI us)=some us
 | []=>rfl
 | u::us=>by
  show zd (zgj (nI us)) _=_;rw [zgy us];show za (decide ((0:Int)≤(u:Int))) _=_;rw [pa (by omega)]; rfl
def zaf(v:D→Option (List D×Int))(h:D→Int→Option Bool):CK R1:=
 zx 29 zan v mk2 (zx 50 zid (λ q=>h q.1 q.2) mkB (CK.plain zo))
def zs0(l:List Bool):Nat:=(l.filter id).length
structure Behind (U:List (List Nat)) (s:Nat) (q r:List Bool×Bool):Prop where
 len:r.1.length=q.1.length
 up:∀ k,q.1.getD k false=true→r.1.getD k false=true
 w8:(∀ k,q.1.getD k false=true→Reach U s k)→∀ k,r.1.getD k false=true→Reach U s k
 more:q.2=true→r.2=true
 same:r.2=false→r=q
structure Grows (q r:List Bool×Bool):Prop where
 len:r.1.length=q.1.length
 le:zs0 q.1≤zs0 r.1
 lt:q.2=false→r.2=true→zs0 q.1<zs0 r.1
 up:q.2=true→r.2=true
theorem yc1(v:D→Option (List D×Int))(h:D→Int→Option Bool)(n k m p:Nat)(l:List T)(us:List (List Nat))(B:List D)(a:Bool)(i j:Int):LP cx (zaf v h) n 20 0 20 (p+1) [(0,V.d (D.sl 5 (T.ds l))),(6,V.d (D.sl 1 (yr us))),(8,V.slo 26 1 B.length),(11,V.d (D.bool a)),(12,V.d (D.int .i64 i)),(13,V.d (D.int .i64 j))] [(26,Ob.row B)] (AL cx (zaf v h) n 20 0 17 20 (inK cx (zaf v h) n 20 0 17 m (AL cx (zaf v h) n 20 0 14 17 (inK cx (zaf v h) n 20 0 14 k (AK cx (zaf v h) n 20 0 14 (EK cx 20 0))))))=bif decide (j<(↑(T.ds l).length:Int)) then za (decide (0≤i)&&decide (i<(↑B.length:Int))) (za (B.length.beq B.length) (ze B i.toNat λ x=>ze x.cells 0 λ c=>match c with
 | D.bool b=>bif b then za (decide (0≤i)&&decide (i<(↑(List.map (λ u=>D.sl 1 (nI u)) us).length:Int))) (ze (List.map (λ u=>D.sl 1 (nI u)) us) i.toNat λ y=>ze y.cells 0 λ c=>match c with
  | D.sl s l_1=>bif s.beq (cx.P.cellsOf 3)||l_1.isEmpty then zd (h (D.sl 1 l_1,j).fst (D.sl 1 l_1,j).snd) λ b=>bif b then za (decide (0≤j)&&decide (j<(↑B.length:Int))) (za (B.length.beq B.length) (ze B j.toNat λ x=>ze x.cells 0 λ c=>match c with
   | D.bool b=>bif !b then za (decide (0≤j)&&decide (j<(↑B.length:Int))) (za (B.length.beq B.length&&true&&true) (LP cx (zaf v h) n 20 0 20 p [(0,V.d (D.sl 5 (T.ds l))),(6,V.d (D.sl 1 (List.map (λ u=>D.sl 1 (nI u)) us))),(8,V.slo 26 1 B.length),(11,V.d (D.bool true)),(12,V.d (D.int .i64 i)),(13,V.d (D.int .i64 (IntKind.i64.wrap (j+(1:Int)))))] [(26,Ob.row (B.set j.toNat (D.bool true)))] (AL cx (zaf v h) n 20 0 17 20 (inK cx (zaf v h) n 20 0 17 m (AL cx (zaf v h) n 20 0 14 17 (inK cx (zaf v h) n 20 0 14 k (AK cx (zaf v h) n 20 0 14 (EK cx 20 0)))))))) else LP cx (zaf v h) n 20 0 20 p [(0,V.d (D.sl 5 (T.ds l))),(6,V.d (D.sl 1 (List.map (λ u=>D.sl 1 (nI u)) us))),(8,V.slo 26 1 B.length),(11,V.d (D.bool a)),(12,V.d (D.int .i64 i)),(13,V.d (D.int .i64 (IntKind.i64.wrap (j+(1:Int)))))] [(26,Ob.row B)] (AL cx (zaf v h) n 20 0 17 20 (inK cx (zaf v h) n 20 0 17 m (AL cx (zaf v h) n 20 0 14 17 (inK cx (zaf v h) n 20 0 14 k (AK cx (zaf v h) n 20 0 14 (EK cx 20 0))))))
   | x=>none)) else LP cx (zaf v h) n 20 0 20 p [(0,V.d (D.sl 5 (T.ds l))),(6,V.d (D.sl 1 (List.map (λ u=>D.sl 1 (nI u)) us))),(8,V.slo 26 1 B.length),(11,V.d (D.bool a)),(12,V.d (D.int .i64 i)),(13,V.d (D.int .i64 (IntKind.i64.wrap (j+(1:Int)))))] [(26,Ob.row B)] (AL cx (zaf v h) n 20 0 17 20 (inK cx (zaf v h) n 20 0 17 m (AL cx (zaf v h) n 20 0 14 17 (inK cx (zaf v h) n 20 0 14 k (AK cx (zaf v h) n 20 0 14 (EK cx 20 0)))))) else none
  | x=>none) else LP cx (zaf v h) n 20 0 20 p [(0,V.d (D.sl 5 (T.ds l))),(6,V.d (D.sl 1 (List.map (λ u=>D.sl 1 (nI u)) us))),(8,V.slo 26 1 B.length),(11,V.d (D.bool a)),(12,V.d (D.int .i64 i)),(13,V.d (D.int .i64 (IntKind.i64.wrap (j+(1:Int)))))] [(26,Ob.row B)] (AL cx (zaf v h) n 20 0 17 20 (inK cx (zaf v h) n 20 0 17 m (AL cx (zaf v h) n 20 0 14 17 (inK cx (zaf v h) n 20 0 14 k (AK cx (zaf v h) n 20 0 14 (EK cx 20 0))))))
 | x=>none)) else LP cx (zaf v h) n 20 0 17 m [(0,V.d (D.sl 5 (T.ds l))),(6,V.d (D.sl 1 (List.map (λ u=>D.sl 1 (nI u)) us))),(8,V.slo 26 1 B.length),(11,V.d (D.bool a)),(12,V.d (D.int .i64 (IntKind.i64.wrap (i+(1:Int)))))] [(26,Ob.row B)] (AL cx (zaf v h) n 20 0 14 17 (inK cx (zaf v h) n 20 0 14 k (AK cx (zaf v h) n 20 0 14 (EK cx 20 0)))):=by kernel_rfl
def bD(B:List Bool):List D:=B.map .bool
theorem zsu(B:List Bool):(bD B).length=B.length:=pf _
theorem z8b(B:List Bool)(i:Nat)(b:Bool):(bD B).set i (.bool b)=bD (B.set i b):=by unfold bD; rw [List.map_set]
theorem z78(b:Bool):(D.bool b).cells=[D.bool b]:=rfl
theorem zyj(l:List D):(D.sl 1 l).cells=[D.sl 1 l]:=rfl
theorem znh(k:Nat)(l:List Nat):zc8 (k:Int) l=decide (k∈l):=by
 by_cases h:k∈l
 ·rw [pa h,zt1.2 h]
 ·rw [pb h];cases hm:zc8 (k:Int) l
  ·rfl
  ·exact absurd (zt1.1 hm) h
def h50(x:D)(a:Int):Option Bool:=match x with | .sl 1 L=>zd (zgj L) λ l=>za (yj l) (some (zc8 a l)) | _=>none
theorem z2s{x:D}{a:Int}{b:Bool}(h:h50 x a=some b):∃ l:List Nat,x=.sl 1 (nI l)∧yj l=true∧b=zc8 a l:=by
 unfold h50 at h;split at h
 ·obtain ⟨l,hl,h⟩:=zb h;obtain ⟨h1,h⟩:=zc h;cases h;exact ⟨l,by rw [zdq hl],h1,rfl⟩
 ·cases h
theorem zwc{l:List Nat}{a:Int}(h:yj l=true):h50 (.sl 1 (nI l)) a=some (zc8 a l):=by
 show zd (zgj (nI l)) _=_;rw [zgy,qr,h]; rfl
theorem zkh(l:List T):(ql l).length=l.length:=pf _
theorem zck(l:List T):zaj (ql l):=λ u hu k hk=>by
 obtain ⟨t,_,rfl⟩:=List.mem_map.1 hu;have:=(zr8.1 hk).1;rw [zkh]
 rwa [zfu] at this
theorem zmp(l:List T):∀ u∈ql l,u.Nodup:=λ u hu=>by
 obtain ⟨t,_,rfl⟩:=List.mem_map.1 hu;exact (List.nodup_range).sublist List.filter_sublist
theorem zym{l:List T}(h:l.length<4294967296):∀ u∈ql l,yj u=true:=λ u hu=>by
 obtain ⟨t,_,rfl⟩:=List.mem_map.1 hu;refine zjh ?_;have:=zxp (λ k=>Sp.mem ((nmL l).getD k []) (wx [] [] t.kids)) (nmL l).length;rw [zfu] at this;exact Nat.lt_of_le_of_lt (by rw [←zfu l] at this; exact this) (by rw [zfu]; exact h)
theorem z8c(n:Nat):List.replicate n (D.bool false)=bD (List.replicate n false):=by unfold bD; rw [List.map_replicate]
theorem z8w:wm cx.P 4 [D.bool false]=D.bool false:=by kernel_rfl
end Go.Vai
end

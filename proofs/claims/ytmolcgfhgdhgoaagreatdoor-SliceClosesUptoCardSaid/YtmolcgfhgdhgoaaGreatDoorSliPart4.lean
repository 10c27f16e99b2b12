/-
  Show: the library's functions that are taken as one step: strings.Builder's String, and strings.Join: they do what is said of them. To: Slice: what is needed: what calls decode.
-/
import Derived.Test.YtmolcgfhgdhgoaaGreatDoorSliPart3
set_option linter.all false
section
set_option linter.unusedVariables false
namespace Go.Proofs
open Go.Shelf Go.RowKit
variable {P:Program} {ρ:Ren}
set_option maxHeartbeats 2000000 in
set_option maxRecDepth 100000 in
theorem Any.String_core(L:Lays.n169 P ρ)(X:Builder.Extra P ρ)(b:Nat)(w w2:World)(ao p:Option Addr)(n cap:Nat)(s:ByteArray)
  (c1:w.drew.cell? ⟨b,1,none⟩=some (.slice ao n cap))
  (hSD:(Builtin.unsafeSliceData_ #[(ρ.t 37)] (ρ.t 127) #[.slice ao n cap]).run P w.drew=.ok (.pointer p) w.drew)
  (hUS:(Builtin.unsafeString_ #[(ρ.t 127),(ρ.t 3)] (ρ.t 9) #[.pointer p,.int .i64 n]).run P w.drew=.ok (.string s) w2) :
  Calls P (ρ.f 169) #[.pointer (some ⟨b,0,none⟩)] w λ e w'=>e=.returned (.string s)∧w'=w2:=by
 have mixed:=L.mixed;have t72:=L.t72; have a72:=L.a72; have z72:=L.z72; have v72:=L.v72; have u72:=run_underlying L.t72;have t70:=L.t70; have a70:=L.a70; have z70:=L.z70; have v70:=L.v70; have u70:=run_underlying L.t70;have t37:=L.t37; have a37:=L.a37; have z37:=L.z37; have v37:=L.v37; have u37:=run_underlying L.t37;have t127:=L.t127; have a127:=L.a127; have z127:=L.z127; have v127:=L.v127; have u127:=run_underlying L.t127;have t3:=L.t3; have a3:=L.a3; have z3:=L.z3; have v3:=L.v3; have u3:=run_underlying L.t3;have t9:=L.t9; have a9:=L.a9; have z9:=L.z9; have v9:=L.v9; have u9:=run_underlying L.t9;have t5:=X.t5; have a5:=X.a5; have z5:=X.z5; have v5:=X.v5; have u5:=run_underlying X.t5
 go_enter L.f169,Body.n169_ntmps ρ
 go_wp2
 go_region_o
 all_goals (go_wp2; go_ret; exact ⟨rfl,rfl⟩)
theorem Tryz.String_core(b:Nat)(w w2:World)(ao p:Option Addr)(n cap:Nat)(s:ByteArray)
  (c1:w.drew.cell? ⟨b,1,none⟩=some (.slice ao n cap))
  (hSD:(Builtin.unsafeSliceData_ #[174] 232 #[.slice ao n cap]).run Tryz.prog w.drew=.ok (.pointer p) w.drew)
  (hUS:(Builtin.unsafeString_ #[232,3] 9 #[.pointer p,.int .i64 n]).run Tryz.prog w.drew=.ok (.string s) w2) :
  Calls Tryz.prog 164 #[.pointer (some ⟨b,0,none⟩)] w λ e w'=>e=.returned (.string s)∧w'=w2:=
 Any.String_core Tryz.lays169 Tryz.Builder_Extra_169 b w w2 ao p n cap s c1 hSD hUS
end Go.Proofs
namespace Go.Vai
open Go.Proofs Go.Sort
section
variable {cx:Cx} {w w':World} {σ:St} {μ:Mu}
theorem zwj{w w':World}(h:RowKit.Below w.heap.size w w'){b i:Nat}{x:Value}(hc:w.cell? ⟨b,i,none⟩=some x):w'.cell? ⟨b,i,none⟩=some x:=by
 have:=h.block b (lt_of_cell hc);unfold World.cell? at hc ⊢;simp only at hc ⊢;rw [this];exact hc
theorem zgw(hi:Inv cx w σ μ)(h:RowKit.Below w.heap.size w w'):After cx w σ μ w' σ μ:=by
 have hu:Upd cx w σ μ w' σ μ []:=⟨h.os,h.output,h.size,λ b hb _=>h.block b hb,λ b i x _ hc=>zwj h hc,rfl,λ _ _=>⟨rfl,rfl⟩,λ _ h=>by simp at h,λ _ h=>by simp at h,λ _ h=>by simp at h⟩
 exact hu.after hi (λ _ h=>by simp at h)
theorem zlo(w:World)(g n:Nat):∀ b,b ≠ g→(w.freeze ⟨g,0,none⟩ n).heap[b]?=w.heap[b]?:=λ b hb=>by
 unfold World.freeze;split
 ·rfl
 ·simp [Array.getElem?_modify,Ne.symm hb]
theorem ztw(w:World)(g n:Nat)(b k:Nat):(w.freeze ⟨g,0,none⟩ n).cell? ⟨b,k,none⟩=w.cell? ⟨b,k,none⟩:=by
 by_cases hbg:b=g
 ·subst hbg;unfold World.freeze;split
  ·rfl
  ·unfold World.cell?;simp only [Array.getElem?_modify,if_true];cases h:w.heap[b]? with
   | none=>rfl
   | some o=>cases o <;> rfl
 ·unfold World.cell?;simp only;rw [zlo w g n b hbg]
theorem z13{id k:Nat}(ho:zg σ id=some (.tok k))(hos:w'.os=w.os)(hout:w'.output=w.output)(hsize:w.heap.size≤w'.heap.size)
  (hblk:∀ b,b<w.heap.size→(μ id).blk ≠ some b→w'.heap[b]?=w.heap[b]?) (hcell:∀ b i x,w.cell? ⟨b,i,none⟩=some x→w'.cell? ⟨b,i,none⟩=some x) :
  Upd cx w σ μ w' (vj σ id (.tok (k+1))) (setMu μ id ⟨none,0,0,0⟩) [id] where
 os:=hos
 output:=hout
 size:=hsize
 blk:=λ b hb h=>hblk b hb λ e=>h id (by simp) _ ho (μ id).f ⟨e,Nat.le_refl _⟩
 cell:=λ b i x _ h=>hcell b i x h
 fr:=rfl
 same:=λ j hj=>by
  have:id ≠ j:=λ e=>hj (by simp [e])
  exact ⟨by simp [zn,this],by simp [setMu,Ne.symm this]⟩
 own:=λ j hj q hq b i hown _=>by
  simp at hj; subst hj;simp only [zn,if_true] at hq;cases hq;have:=hown.1;simp [setMu] at this
 still:=λ j hj q hq=>by
  simp at hj; subst hj;rw [ho] at hq; cases hq;simp only [zn,if_true];exact ⟨by omega,λ h=>by omega⟩
 apart:=λ j hj j' hj' _ _ _ _ _ _ _ _ _=>by simp at hj hj'; rw [hj,hj']
theorem zv0{id k:Nat}(hi:Inv cx w σ μ)(ho:zg σ id=some (.tok k))(hos:w'.os=w.os)(hout:w'.output=w.output)(hsize:w.heap.size≤w'.heap.size)
  (hblk:∀ b,b<w.heap.size→(μ id).blk ≠ some b→w'.heap[b]?=w.heap[b]?) (hcell:∀ b i x,w.cell? ⟨b,i,none⟩=some x→w'.cell? ⟨b,i,none⟩=some x) :
  After cx w σ μ w' (vj σ id (.tok (k+1))) (setMu μ id ⟨none,0,0,0⟩):=
 (z13 ho hos hout hsize hblk hcell).after hi λ j hj o' ho'=>by
  simp at hj; subst hj;simp only [zn,if_true] at ho';cases ho';intro b hb;simp [setMu] at hb
theorem zla:szN 6291457=1:=by decide
theorem zzd{id k:Nat}(hc:Canon σ)(ho:zg σ id=some (.tok k)):∀ j o,zg (vj σ id (.tok (k+1))) j=some o→j<σ.length∧∀ i∈o.ids,i<σ.length:=by
 intro j o hj;rw [zn] at hj;by_cases h:id=j
 ·subst h;rw [if_pos rfl] at hj;cases hj;exact ⟨(hc id _ ho).1,by simp [Ob.ids]⟩
 ·rw [if_neg h] at hj;exact hc j o hj
theorem zyf(hP : cx.P = Tryz.prog){args : List V}{out : Out}{σ' : St}(h : zkk args σ = some (out, σ')){vs : List Value}(hi : Inv cx w σ μ)(hcan : Canon σ)(hv : RVs w σ μ vs args) :
    ∃ u, out = .ret u ∧ (∀ k o, zg σ' k = some o → k < σ.length ∧ ∀ i ∈ o.ids, i < σ.length) ∧ (∀ i ∈ u.ids, i < σ.length) ∧
    Calls cx.P 164 vs.toArray w λ e w' => ∃ μ' x, e = .returned x ∧ After cx w σ μ w' σ' μ' ∧ RV w' σ' μ' x u := by
  unfold zkk at h;obtain ⟨i, hargs, h1⟩ := zb h;clear h;obtain rfl := zx7 hargs;obtain ⟨⟨sz, l, id⟩, hq, h2⟩ := zb h1;clear h1;obtain ⟨n, p, r, ho⟩ := zu1 hq;obtain ⟨k, hk, h3⟩ := zb h2;clear h2;have ht := zuw hk;obtain ⟨hc, h4⟩ := zc h3;clear h3;obtain ⟨s, hs, h⟩ := zb h4;clear h4;cases h;clear hk hq hargs;simp only at hs hc ht ho;simp only [ph, decide_eq_true_eq] at hc;obtain ⟨⟨hsz, hk⟩, hlen⟩ := hc;have hsz := pg hsz;subst hsz;subst hk;have hl := zoc l s hs;refine ⟨_, rfl, zzd hcan ht, by simp [V.ids], ?_⟩
  -- the argument
  obtain ⟨v, rfl⟩ : ∃ v, vs = [v] := List.length_eq_one_iff.1 (by simpa using hv.1)
  have hv0 := hv.2 0 v _ rfl rfl;cases hv0 with | ptr _ _ b _ hb => ?_
  obtain ⟨b', cs, el, hb', hh, _, _, _, hrs, _⟩ := hi.ob i _ ho;obtain rfl : b = b' := by rw [hb] at hb'; exact Option.some.inj hb'
  obtain ⟨v1, hv1⟩ : ∃ v1, cs.toList[1]? = some v1 := yk (by rw [hrs.1]; simp [V.cells])
  have hr1 := hrs.2 1 v1 (.sl 6291457 l id) hv1 rfl;cases hr1 with | sl _ _ _ _ n' hrd ht' hn' htail => ?_
  rw [ht] at ht'; cases ht';have htail := htail rfl;rw [zla] at hrd;obtain ⟨base, cap, rfl⟩ := hrd.slice_inv;have c1 : w.drew.cell? ⟨b, 1, none⟩ = some (.slice base l.length cap) := by
    show w.cell? ⟨b, 1, none⟩ = _;rw [cell_of_heap hh];simpa using hv1
  rw [hP]
  have fin : ∀ w', w'.os = w.os → w'.output = w.output → w.heap.size ≤ w'.heap.size → (∀ b, b < w.heap.size → (μ id).blk ≠ some b → w'.heap[b]? = w.heap[b]?) →
      (∀ b i x, w.cell? ⟨b, i, none⟩ = some x → w'.cell? ⟨b, i, none⟩ = some x) →
      ∃ μ' x, Ending.returned (.string ⟨s.toArray⟩) = .returned x ∧ After cx w σ μ w' (vj σ id (.tok (l.length + 1))) μ' ∧ RV w' (vj σ id (.tok (l.length + 1))) μ' x (.d (.str s)) :=
    λ w' h1 h2 h3 h4 h5 => ⟨_, _, rfl, zv0 hi ht h1 h2 h3 h4 h5, .d _ _ (.str s)⟩
  by_cases he : l = []
  · subst he;have hs0 : s = [] := by cases s with | nil => rfl | cons a b => simp at hl
    subst hs0;rcases htail with ⟨h1, _, _, h2⟩ | ⟨b2, o, _, _, _, _, _, h2⟩
    · subst h1
      obtain rfl : base = none := by rcases h2 with h2 | h2; · exact absurd h2 (by decide)
                                     · exact h2
      refine (Tryz.String_core b w w.drew none none 0 0 .empty c1 rfl (Lib.run_unsafeString_none w.drew 232 3 9 none)).mono ?_;rintro e w' ⟨rfl, rfl⟩;exact fin _ rfl rfl (Nat.le_refl _) (λ _ _ _ => rfl) (λ _ _ _ h => h)
    · rcases h2 with h2 | h2
      · exact absurd h2 (by decide)
      · exact absurd h2.2.2 (by simp)
  · have hpos : 0 < l.length := List.length_pos_iff.2 he;rcases htail with ⟨_, h1, _⟩ | ⟨g, o, hbase, hg, hf, hend, hnc, h2⟩
    · omega
    rcases h2 with h2 | ⟨hel, ho0, _⟩
    · exact absurd h2 (by decide)
    subst hbase;subst ho0;obtain ⟨cs', el', fr', hh', hel', hcs', _⟩ := hi.ob id _ ht g hg;have h6 : (6291457 : Nat) / 1048576 = 6 := by decide
    have hel5 : el' = 5 := by rw [hel']; rw [h6] at hel; exact (Nat.succ.inj hel).symm
    rw [zla] at hend;subst hel5;have hsl : s.length = l.length := by rw [hl]; simp
    have hs0 : s ≠ [] := λ e => by rw [e] at hsl; simp at hsl; omega
    have hcell : ∀ j x, s[j]? = some x → w.drew.cell? ((⟨g, 0, none⟩ : Addr).add j) = some (.int .u8 x.toNat) := by
      intro j x hx;have hj := (pj.1 hx).1;generalize hnl : l.length = nl at hrd;cases hrd with
      | sl0 => exact absurd rfl he
      | sl _ _ _ _ _ _ xs hn hcap hszs hcells hels =>
        have hlx : l[j]? = some (zlw x) := by rw [hl, List.getElem?_map, hx]; rfl
        have h1 := hcells j (by omega)
        have h2 := hels j 0 (zlw x) (zlw x) hlx rfl;simp only [Nat.mul_one, Nat.add_zero] at h2;rw [show (⟨g, 0, none⟩ : Addr).add j = ⟨g, 0 + j, none⟩ from by by_cases hj0 : j = 0 <;> simp [Addr.add, hj0]]
        have h3 : w.cell? ⟨g, 0 + j, none⟩ = some (xs j) := h1.1;generalize xs j = q at h2 h3;unfold zlw at h2;cases h2;exact h3
    have hUS := Lib.run_unsafeString_row (P := Tryz.prog) w.drew 232 3 9 5 (by kernel_rfl) (by kernel_rfl) g cs'.size (by show w.shape? g = _; simp [World.shape?, hh']) s hs0 (by rw [hsl, hcs']; omega) (by omega) hcell
    rw [hsl] at hUS;refine (Tryz.String_core b w _ (some ⟨g, 0, none⟩) (some ⟨g, 0, none⟩) l.length cap ⟨s.toArray⟩ c1 (Lib.run_unsafeSliceData_row w.drew _ _ _ _ _ (by omega)) hUS).mono ?_
    rintro e w' ⟨rfl, rfl⟩;refine fin _ ?_ ?_ ?_ (λ b' _ hb' => ?_) (λ b' i' x hx => ?_)
    · unfold World.freeze; split <;> rfl
    · unfold World.freeze; split <;> rfl
    · unfold World.freeze; split
      · exact Nat.le_refl _
      · simp
    · rw [zlo w.drew g _ b' (λ e => hb' (by rw [e]; exact hg))]
      rfl
    · rw [ztw];exact hx
theorem zu9(hP:cx.P=Tryz.prog){args:List V}{out:Out}{σ':St}(h:zji args σ=some (out,σ')){vs:List Value}(hi:Inv cx w σ μ)(hcan:Canon σ)(hv:RVs w σ μ vs args) :
  ∃ u,out=.ret u∧(∀ k o,zg σ' k=some o→k<σ.length∧∀ i∈o.ids,i<σ.length)∧(∀ i∈u.ids,i<σ.length) ∧
  Calls cx.P 192 vs.toArray w λ e w'=>∃ μ' x,e=.returned x∧After cx w σ μ w' σ' μ'∧RV w' σ' μ' x u:=by
 unfold zji at h;split at h
 case h_2=>cases h
 rename_i sz xs sep;obtain ⟨l,hl,h1⟩:=zb h;clear h;obtain ⟨hc,h⟩:=zc h1;clear h1;cases h;simp only [ph,decide_eq_true_eq] at hc;refine ⟨_,rfl,hcan,by simp [V.ids],?_⟩
 obtain ⟨v1,v2,rfl⟩:∃ v1 v2,vs=[v1,v2]:=by
  have:=hv.1
  match vs,this with
  | [a,b],_=>exact ⟨a,b,rfl⟩
 have h1:=hv.2 0 v1 _ rfl rfl;have h2:=hv.2 1 v2 _ rfl rfl;cases h2 with | d _ _ h2=>?_
 cases h2;cases h1 with | d _ _ h1=>?_
 have hxs:=zj7 xs l hl;rw [hP];have fin:∀ (q:ByteArray) (w':World),q=y7 (Lib.join l sep)→RowKit.Below w.heap.size w w'→∃ μ' x,Ending.returned (.string q)=.returned x∧After cx w σ μ w' σ μ'∧RV w' σ μ' x (.d (.str (Lib.join l sep))):=by
  rintro q w' rfl hb;exact ⟨μ,_,rfl,zgw hi hb,.d _ _ (.str _)⟩
 cases h1 with
 | sl0 base cap _=>
  have hl0:l=[]:=by cases l with | nil=>rfl | cons a b=>simp at hxs
  subst hl0;refine (Tryz.strings_Join_none base cap (y7 sep) w).mono ?_;rintro e w' ⟨rfl,rfl⟩;exact fin _ _ (by simp [Lib.join,List.intercalate,y7]) (RowKit.Below.refl _ _)
 | sl b o n cap _ _ ys hn hcap hsz hcell hels=>
  subst hn;by_cases h0:l=[]
  ·subst h0;have hx0:xs=[]:=by simpa using hxs
   subst hx0;refine (Tryz.strings_Join_none (some ⟨b,o,none⟩) cap (y7 sep) w).mono ?_;rintro e w' ⟨rfl,rfl⟩;exact fin _ _ (by simp [Lib.join,List.intercalate,y7]) (RowKit.Below.refl _ _)
  have hlen:xs.length=(l.map y7).length:=by rw [hxs]; simp
  have hsz1:sz=1:=by
   have hne:xs ≠ []:=by rw [hxs]; simpa using h0
   obtain ⟨y,hy⟩:=List.exists_mem_of_ne_nil xs hne;have:=hsz y hy;rw [hxs] at hy;obtain ⟨q,_,rfl⟩:=List.mem_map.1 hy;exact this.symm
  subst hsz1;have hmap:(l.map y7).map (·.data.toList)=l:=by
   rw [List.map_map]
   conv=>rhs; rw [←List.map_id l]
   exact List.map_congr_left λ a _=>by simp [y7]
  have hsep:(y7 sep).data.toList=sep:=by simp [y7]
  have hj:=Tryz.strings_Join b o cap (l.map y7) (y7 sep) w (λ j x hx=>?_) ?_ (by rw [←hlen,hxs]; simpa using hc.1) (by rw [←hlen]; exact hcap) (by rw [hmap,hsep]; exact hc.2)
  ·rw [hmap,hsep,←hlen] at hj;refine hj.mono ?_;rintro e w' ⟨rfl,hb⟩;exact fin _ _ rfl hb
  ·rw [List.getElem?_map,Option.map_eq_some_iff] at hx;obtain ⟨q,hq,rfl⟩:=hx;have hjl:j<xs.length:=by rw [hlen]; simpa using (pj.1 hq).1
   have g1:=(hcell j (by omega)).1
   have hlx:xs[j]?=some (.str q):=by rw [hxs,List.getElem?_map,hq]; rfl
   have g2:=hels j 0 (.str q) (.str q) hlx rfl;simp only [Nat.mul_one,Nat.add_zero] at g2;generalize ys j=z at g1 g2;cases g2;exact g1
  ·have hpos:0<xs.length:=by rw [hlen]; simpa using List.length_pos_iff.2 h0
   exact lt_of_cell (hcell 0 (by omega)).1
theorem zh8:∀ l:List Int,(we l).Perm l
 | []=>.refl _
 | x::l=>by
  have ins:∀ (x:Int) (l:List Int),(zgq x l).Perm (x::l):=by
   intro x l
   induction l with
   | nil=>exact .refl _
   | cons y r ih=>
    unfold zgq;cases decide (x≤y)
    ·exact (ih.cons y).trans (.swap x y r)
    ·exact .refl _
  exact (ins x _).trans ((zh8 l).cons x)
theorem zsz:∀ l:List Int,(we l).Pairwise (·≤·)
 | []=>by simp [we]
 | x::l=>by
  have ins:∀ (x:Int) (l:List Int),l.Pairwise (·≤·)→(zgq x l).Pairwise (·≤·):=by
   intro x l
   induction l with
   | nil=>intro _; simp [zgq]
   | cons y r ih=>
    intro h;rw [List.pairwise_cons] at h;unfold zgq;by_cases hxy:x≤y
    ·rw [pa hxy];simp only [cond_true,List.pairwise_cons,List.mem_cons];refine ⟨λ z hz=>?_,h⟩;rcases hz with rfl | hz
     ·exact hxy
     ·exact Int.le_trans hxy (h.1 z hz)
    ·rw [pb hxy];simp only [cond_false,List.pairwise_cons];refine ⟨λ z hz=>?_,ih h.2⟩;have hz:z=x∨z∈r:=by
      have hp:(zgq x r).Perm (x::r):=by
       clear ih h hz hxy
       induction r with
       | nil=>exact .refl _
       | cons y r ih=>
        unfold zgq;cases decide (x≤y)
        ·exact (ih.cons y).trans (.swap x y r)
        ·exact .refl _
      simpa using hp.mem_iff.1 hz
     rcases hz with rfl | hz
     ·omega
     ·exact h.1 z hz
  exact ins x _ (zsz l)
theorem zsy(l:List Int):(l.mergeSort λ x y=>decide (x≤y))=we l:=by
 have h1:(l.mergeSort λ x y=>decide (x≤y)).Pairwise (·≤·):=by
  have:=List.pairwise_mergeSort (le:=λ x y:Int=>decide (x≤y)) (by intro a b c; simp; omega) (by intro a b; simp; omega) l
  exact this.imp λ h=>by simpa using h
 exact ((List.mergeSort_perm l _).trans (zh8 l).symm).eq_of_pairwise (λ a b _ _ h1 h2=>by omega) h1 (zsz l)
theorem zqc:∀ {l:List D} {zs:List Int},zjm l=some zs→l=zs.map (.int .i64)
 | [],zs,h=>by cases h; rfl
 | x::r,zs,h=>by
  unfold zjm at h;split at h
  ·rename_i he; cases he
  ·rename_i n q he;cases he;split at h
   ·rename_i l hl; cases h; rw [zqc hl]; rfl
   ·cases h
  ·cases h
theorem zu8(hP:cx.P=Tryz.prog){args:List V}{out:Out}{σ':St}(h:zjh args σ=some (out,σ')){vs:List Value}(hi:Inv cx w σ μ)(hcan:Canon σ)(hv:RVs w σ μ vs args) :
  ∃ u,out=.ret u∧(∀ k o,zg σ' k=some o→k<σ.length∧∀ i∈o.ids,i<σ.length)∧(∀ i∈u.ids,i<σ.length) ∧
  Calls cx.P 49 vs.toArray w λ e w'=>∃ μ' x,e=.returned x∧After cx w σ μ w' σ' μ'∧RV w' σ' μ' x u:=by
 unfold zjh at h;split at h
 case h_2=>cases h
 rename_i id k;split at h
 case h_2=>cases h
 rename_i l ho;obtain ⟨hc,h1⟩:=zc h;clear h;obtain ⟨zs,hz,h⟩:=zb h1;clear h1;cases h;simp only [ph,decide_eq_true_eq,Bool.not_eq_true'] at hc;obtain ⟨⟨hk,hle⟩,hne⟩:=hc;obtain rfl:=pg hk;have hl:=zqc hz;have hlen:l.length=zs.length:=by rw [hl]; simp
 have hpos:0<l.length:=by cases l with | nil=>simp at hne | cons=>simp
 refine ⟨_,rfl,λ j o hj=>?_,by simp [V.ids,V.idsL],?_⟩
 ·rw [zn] at hj;by_cases h:id=j
  ·subst h;rw [if_pos rfl] at hj;cases hj;exact ⟨(hcan id _ ho).1,by simp [Ob.ids]⟩
  ·rw [if_neg h] at hj;exact hcan j o hj
 obtain ⟨v,rfl⟩:∃ v,vs=[v]:=List.length_eq_one_iff.1 (by simpa using hv.1)
 have hv0:=hv.2 0 v _ rfl rfl;cases hv0 with | slo _ _ _ cap base l' hl' hkl hcap hn hat=>?_
 rw [ho] at hl'; cases hl';rcases hat rfl with ⟨_,_,hc0⟩ | ⟨b,rfl,hb,hf,hend⟩
 ·omega
 obtain ⟨cs,el,hh,hcs,h2,h3,h4,h5⟩:=hi.ob id _ ho b hb;rw [hf] at h2 h4 h5;have hget:∀ (j:Nat) z,zs[j]?=some z→cs[j]?=some (.int .i64 z):=λ j z hj=>by
  have hlj:l[j]?=some (.int .i64 z):=by rw [hl,List.getElem?_map,hj]; rfl
  obtain ⟨v,hv,hvc⟩:=h5 j 0 _ (.int .i64 z) hlj rfl;cases hvc;simpa using hv
 have hH:Holds (Value.int .i64) w b 0 zs.toArray:=λ j hj=>by
  have hj':j<zs.length:=by simpa using hj
  refine ⟨?_,?_⟩
  ·rw [cell_of_heap hh,Nat.zero_add,hget j zs[j] (pr hj')];rw [getElem!_pos zs.toArray j hj];simp
  ·simp [World.frozen?,hh]
 rw [hP,show ([Value.slice (some ⟨b,0,none⟩) l.length cap]).toArray = #[.slice (some ⟨b,0,none⟩) zs.length cap] by rw [hlen]]
 refine (Tryz.slices_Sort_int b 0 cap zs w hH (lt_of_heap hh) (by omega)).mono ?_
 rintro e w' ⟨rfl,n,os,hw'⟩;rw [zsy] at hw';have hsl:(we zs).length=zs.length:=(zh8 zs).length_eq;have hlt:=lt_of_heap hh;have hother:∀ b',b' ≠ b→b'<w.heap.size→w'.heap[b']?=w.heap[b']?:=λ b' hb' hlt'=>by
  rw [hw',heap_grow_old _ _ (by simpa [putRow,mapBlock,Sort.ahead] using hlt')]
  simp [putRow,mapBlock,Sort.ahead,Array.getElem?_modify,Ne.symm hb']
 have hnew:w'.heap[b]?=some (.cells (putCells (Value.int .i64) 0 (we zs).toArray cs) el (0,0)):=by
  rw [hw',heap_grow_old _ _ (by simpa [putRow,mapBlock,Sort.ahead] using hlt)]
  simp [putRow,mapBlock,Sort.ahead,Array.getElem?_modify,hh,onCells]
 have hsize:w.heap.size≤w'.heap.size:=by rw [hw']; simp [grow,putRow,mapBlock,Sort.ahead]
 have hup:Upd cx w σ μ w' (vj σ id (.row ((we zs).map (.int .i64)))) μ [id]:={
  os:=by rw [hw']; rfl,output:=by rw [hw']; rfl,size:=hsize,
  blk:=λ b' hb' hno=>hother b' (λ e=>hno id (by simp) _ ho 0 (by rw [e]; exact hb)) hb',
  cell:=λ b' i x hno hc=>by
   have hne:b' ≠ b:=λ e=>hno id (by simp) _ ho (by rw [e]; exact hb)
   have:=hother b' hne (lt_of_cell hc);unfold World.cell? at hc ⊢;simp only at hc ⊢;rw [this]; exact hc,
  fr:=rfl,same:=λ j hj=>⟨by rw [zn,if_neg (Ne.symm (by simpa using hj))],rfl⟩,
  own:=λ j hj q hq b' i hown _=>by
   simp at hj; subst hj;rw [zn,if_pos rfl] at hq; cases hq;exact ⟨_,ho,hown⟩,
  still:=λ j hj q hq=>by
   simp at hj; subst hj;rw [ho] at hq; cases hq;rw [zn,if_pos rfl];exact ⟨by simp [hsl,hlen],λ _=>rfl⟩,
  apart:=λ j hj j' hj' _ _ _ _ _ _ _ _ _=>by simp at hj hj'; rw [hj,hj'] }
 refine ⟨μ,_,rfl,hup.after hi λ j hj o' ho'=>?_,.tup #[] [] rfl (by simp)⟩
 simp at hj; subst hj;rw [zn,if_pos rfl] at ho'; cases ho';refine vf.of hb hnew (by simp [putCells,hcs]) (by rw [hf]; simp [putCells,hsl]; omega) (λ x hx=>?_) (λ y hy=>?_) λ k c hk=>?_
 ·simp only [putCells,Array.toList_mapIdx,List.mem_mapIdx] at hx;obtain ⟨i,hi',hx⟩:=hx;rw [←hx];split
  ·rfl
  ·exact h3 _ (List.getElem_mem _)
 ·rw [hf];obtain ⟨z,_,rfl⟩:=List.mem_map.1 hy;rfl
 ·have hfl:yd ((we zs).map (.int .i64))=(we zs).map (.int .i64):=by
   unfold yd;generalize we zs=q
   induction q with
   | nil=>rfl
   | cons a q ih=>simp only [List.map_cons,List.flatMap_cons,ih]; rfl
  rw [hfl,List.getElem?_map,Option.map_eq_some_iff] at hk;obtain ⟨z,hz',rfl⟩:=hk;have hklt:=(pj.1 hz').1;refine ⟨.int .i64 z,?_,.int _ _⟩;have hkc:k<cs.size:=by omega
  simp only [putCells,Array.getElem?_mapIdx,Array.getElem?_eq_getElem hkc,Option.map_some];rw [if_pos ⟨Nat.zero_le _,by simpa using hklt⟩]
  rw [getElem!_pos _ _ (by simpa using hklt)]
  have:(we zs)[k]=z:=(pj.1 hz').2;simp [this]
theorem zmw{n:Nat}{l:List (List UInt8)}{v:Value}(hi:Inv cx w σ μ)(h:w'.ownsRow w.heap.size 9 1 v n (l.map λ s=>Value.string (y7 s)))(hn:l.length=n)(haf:After cx w σ μ w' σ μ):RD w' (zp σ μ) v (.sl 1 (l.map .str)):=by
 obtain ⟨hlen,h⟩:=h;rcases h with ⟨rfl,h0⟩ | ⟨g,cap,cur,rfl,hg,hh,hcap,_,hsize,htake⟩
 ·have:l=[]:=List.eq_nil_of_length_eq_zero (by omega)
  subst this;exact .sl0 _ _ _
 ·have hfree:∀ i,¬ zp σ μ g i:=λ i ho=>by
   rcases ho with hf | ⟨id,o,ho,hown⟩
   ·exact absurd (hi.frLt _ _ hf) (by omega)
   ·exact absurd (zd4 hi ho hown) (by omega)
  refine RD.ofRow (cs:=cur) hh (by simp [hn]) hcap (λ y hy=>by obtain ⟨s,_,rfl⟩:=List.mem_map.1 hy; rfl) (λ k c hk=>?_) λ k _=>by rw [Nat.zero_add]; exact hfree k
  have hfl:yd (l.map .str)=l.map .str:=by
   unfold yd;clear hlen htake hn hk
   induction l with
   | nil=>rfl
   | cons a q ih=>simp only [List.map_cons,List.flatMap_cons,ih]; rfl
  rw [hfl,List.getElem?_map,Option.map_eq_some_iff] at hk;obtain ⟨s,hs,rfl⟩:=hk;have hklt:=(pj.1 hs).1;have:(cur.toList.take (n * 1))[k]?=some (.string (y7 s)):=by rw [htake,List.getElem?_map,hs]; rfl
  rw [List.getElem?_take,if_pos (by omega)] at this
  exact ⟨_,by simpa using this,.str s,rfl⟩
theorem ztc(hP:cx.P=Tryz.prog){args:List V}{out:Out}{σ':St}(h:zm4 args σ=some (out,σ')){vs:List Value}(hi:Inv cx w σ μ)(hcan:Canon σ)(hv:RVs w σ μ vs args) :
  ∃ u,out=.ret u∧(∀ k o,zg σ' k=some o→k<σ.length∧∀ i∈o.ids,i<σ.length)∧(∀ i∈u.ids,i<σ.length) ∧
  Calls cx.P 99 vs.toArray w λ e w'=>∃ μ' x,e=.returned x∧After cx w σ μ w' σ' μ'∧RV w' σ' μ' x u:=by
 unfold zm4 at h;split at h
 case h_2=>cases h
 rename_i xs;obtain ⟨hc,h1⟩:=zc h;clear h;obtain ⟨l,hl,h⟩:=zb h1;clear h1;cases h;have hc:=pc hc;have hxs:=zj7 xs l hl;subst hxs;rw [pf] at hc;refine ⟨_,rfl,hcan,by simp [V.ids],?_⟩
 obtain ⟨v,rfl⟩:∃ v,vs=[v]:=List.length_eq_one_iff.1 (by simpa using hv.1)
 have hv0:=hv.2 0 v _ rfl rfl;cases hv0 with | d _ _ hd=>?_
 rw [hP];have e0:∀ zs:List (List UInt8),(zs.map y7).map (Value.string)=zs.map λ s=>Value.string (y7 s):=λ zs=>by rw [List.map_map]; rfl
 by_cases hne:l=[]
 ·subst hne;obtain ⟨base,cap,rfl⟩:=hd.slice_inv;cases base with
  | none=>
   refine (Tryz.slices_Clone_string_nil 0 cap w).mono ?_;rintro e w' ⟨rfl,rfl⟩;exact ⟨μ,_,rfl,After.refl hi,.d _ _ (.sl0 _ _ _)⟩
  | some a=>
   refine (Tryz.slices_Clone_string_zero a cap w).mono ?_;rintro e w' ⟨v',rfl,ho,_,hb⟩;have haf:=zgw hi hb;exact ⟨μ,_,rfl,haf,.d _ _ (zmw (l:=[]) hi ho rfl haf)⟩
 ·generalize hnl:(l.map D.str)=q at hd;cases hd with
  | sl0=>exact absurd (by simpa using hnl) hne
  | sl b o n cap _ _ ys hn hcap hsz hcell hels=>
   subst hnl;have hn:n=l.length:=by simpa using hn
   subst hn;have hj:=Tryz.slices_Clone_string b o l.length cap (l.map y7) w (by simp) (by omega) (λ j hj=>by
    have hj':j<l.length:=by simpa using hj
    have g1:=(hcell j (by omega)).1
    have hlx:(l.map D.str)[j]?=some (.str l[j]):=by rw [List.getElem?_map,pr hj']; rfl
    have g2:=hels j 0 (.str l[j]) (.str l[j]) hlx rfl;simp only [Nat.mul_one,Nat.add_zero] at g2;generalize ys j=z at g1 g2;cases g2;rw [g1];simp [List.getD_eq_getElem?_getD,hj'])
   refine hj.mono ?_;rintro e w' ⟨v',rfl,ho,_,hb⟩;have haf:=zgw hi hb;rw [List.take_of_length_le (by simp),e0] at ho
   exact ⟨μ,_,rfl,haf,.d _ _ (zmw hi ho rfl haf)⟩
theorem z3q(hP : cx.P = Tryz.prog)(hg : ∀ g e, cx.grow g = some e → g = 165 ∧ e = 9) : z23 cx := by
  intro g e h n w h0 h1;obtain ⟨rfl, rfl⟩ := hg g e h;refine ⟨⟨_, by rw [hP]; exact Tryz.func165, by kernel_rfl⟩, ?_⟩
  obtain ⟨m, rfl⟩ : ∃ m : Nat, n = (m : Int) := ⟨n.toNat, by omega⟩
  rw [hP];by_cases hm : m = 0
  · subst hm;refine (Any8.slices_Grow_room Tryz.growS none 0 0 0 w (by omega) (by omega) (by omega) (by omega)).mono ?_
    rintro x w' ⟨rfl, rfl⟩;exact ⟨none, 0, rfl, .inl ⟨rfl, rfl, rfl⟩⟩
  · have hi9 : Tryz.prog.info? 9 = Tryz.prog.info? 9 := rfl;obtain ⟨i, hi⟩ : ∃ i, Tryz.prog.info? 9 = some i := by
      cases hq : Tryz.prog.info? 9 with
      | some i => exact ⟨i, rfl⟩
      | none => have : (Tryz.prog.info? 9).isSome = true := by kernel_rfl
                rw [hq] at this; cases this
    have hs : (Tryz.prog.info? 9).map (λ i => (i.zero.isSome, i.size, i.bytes)) = some (true, 1, 16) := by kernel_rfl
    rw [hi] at hs;simp only [Option.map_some, Option.some.injEq, Prod.mk.injEq] at hs;obtain ⟨hz, hsz, hby⟩ := hs;obtain ⟨z, hz⟩ := Option.isSome_iff_exists.1 hz;have hzc : z.cells.size = 1 := by
      have : (Tryz.prog.info? 9).bind (λ i => i.zero.map λ z => z.cells.size) = some 1 := by kernel_rfl
      rw [hi] at this;simp only [Option.bind_some, hz, Option.map_some, Option.some.injEq] at this;exact this
    refine (Any8.slices_Grow_grow Tryz.growS i z hi hz (by omega) none 0 0 m [] w (by omega) (by omega) (by rw [hby]; omega) (by omega) (by simp) (λ _ => rfl) (λ a h => by cases h)).mono ?_
    rintro x w' ⟨rfl, rfl⟩;refine ⟨_, _, rfl, .inr ⟨_, _, rfl, rfl, ?_⟩⟩;have hc1 : Tryz.prog.cellsOf 9 = 1 := by kernel_rfl
    have hge := grownCap_ge w (0 + m) 0 9;simp only [Array.size_append, wj, hzc, hc1];show ([] : List Value).toArray.size + (0 + m - 0) * 1 + (_ - (0 + m)) * 1 = _ * 1;simp only [List.size_toArray, List.length_nil];have hge : 0 + m ≤ grownCap w (0 + m) 0 (Tryz.growS_ren.t 25) := hge;omega
theorem zma{f g : Nat}{out : Out}{σ' : St}{vs : List Value}(hfg : f = g)(hfn : ∃ fn, cx.P.funcs[g]? = some fn ∧ fn.body.isNone = false) : (∃ u, out = .ret u ∧ (∀ k o, zg σ' k = some o → k < σ.length ∧ ∀ i ∈ o.ids, i < σ.length) ∧ (∀ i ∈ u.ids, i < σ.length) ∧
      Calls cx.P g vs.toArray w λ e w' => ∃ μ' x, e = .returned x ∧ After cx w σ μ w' σ' μ' ∧ RV w' σ' μ' x u) →
    (∃ fn, cx.P.funcs[f]? = some fn ∧ fn.body.isNone = false) ∧ (∀ k o, zg σ' k = some o → k < σ.length ∧ ∀ i ∈ o.ids, i < σ.length) ∧ (∀ i ∈ (match out with | .ret v => v.ids | .pan v => v.ids), i < σ.length) ∧
    Calls cx.P f vs.toArray w λ e w' => ∃ μ', After cx w σ μ w' σ' μ' ∧
      match out, e with
      | .ret v, .returned x => RV w' σ' μ' x v
      | .pan v, .panicked chain => ∃ x, chain = [{ v := x, recovered := false }] ∧ RV w' σ' μ' x v
      | _, _ => False := by
  intro h;subst hfg;obtain ⟨u, rfl, h1, h2, h3⟩ := h;refine ⟨hfn, h1, h2, h3.mono ?_⟩;rintro e w' ⟨μ', x, rfl, ha, hr⟩;exact ⟨μ', ha, hr⟩
theorem nat_ok(hP:cx.P=Tryz.prog)(hg:∀ g e,cx.grow g=some e→g=165∧e=9):v8 cx nat:=by
 refine ⟨z3q hP hg,?_⟩;intro f args σ out σ' h w μ vs hi hcan hids hall hv;unfold nat at h;cases h1:Nat.beq f 164 <;> rw [h1] at h
 ·rw [cond_false] at h;cases h2:Nat.beq f 192 <;> rw [h2] at h
  ·rw [cond_false] at h;cases h3:Nat.beq f 49 <;> rw [h3] at h
   ·rw [cond_false] at h;cases h4:Nat.beq f 99 <;> rw [h4] at h
    ·cases h
    ·exact zma (pg h4) ⟨_,by rw [hP]; exact Tryz.func99,by kernel_rfl⟩ (ztc hP h hi hcan hv)
   ·exact zma (pg h3) ⟨_,by rw [hP]; exact Tryz.func49,by kernel_rfl⟩ (zu8 hP h hi hcan hv)
  ·exact zma (pg h2) ⟨_,by rw [hP]; exact Tryz.func192,by kernel_rfl⟩ (zu9 hP h hi hcan hv)
 ·exact zma (pg h1) ⟨_,by rw [hP]; exact Tryz.func164,by kernel_rfl⟩ (zyf hP h hi hcan hv)
end
end Go.Vai
end
noncomputable section
namespace Go.Vai
theorem zmj:∀ {l l':List Int},l.Pairwise (· < ·)→l'.Pairwise (· < ·)→(∀ x,x∈l↔x∈l')→l=l'
 | [],[],_,_,_=>rfl
 | [],y::r,_,_,h=>by have:=(h y).2 (pn ..); cases this
 | x::r,[],_,_,h=>by have:=(h x).1 (pn ..); cases this
 | x::r,y::q,h1,h2,h=>by
  rw [List.pairwise_cons] at h1 h2;have hxy:x=y:=by
   have a:=(h x).1 (pn ..);have b:=(h y).2 (pn ..);rw [List.mem_cons] at a b;rcases a with a | a
   ·exact a
   ·rcases b with b | b
    ·exact b.symm
    ·have:=h2.1 x a; have:=h1.1 y b; omega
  subst hxy;rw [zmj h1.2 h2.2 λ z=>?_];constructor
  ·intro hz;have:=(h z).1 (pp _ hz);rw [List.mem_cons] at this;rcases this with rfl | this
   ·have:=h1.1 z hz; omega
   ·exact this
  ·intro hz;have:=(h z).2 (pp _ hz);rw [List.mem_cons] at this;rcases this with rfl | this
   ·have:=h2.1 z hz; omega
   ·exact this
theorem zm5{x y:Int}:∀ {l:List Int},y∈zgq x l↔y=x∨y∈l
 | []=>by simp [zgq]
 | z::l=>by
  unfold zgq;cases decide (x≤z)
  ·simp only [cond_false,List.mem_cons,zm5 (l:=l)];constructor
   ·rintro (h | h | h)
    ·exact .inr (.inl h)
    ·exact .inl h
    ·exact .inr (.inr h)
   ·rintro (h | h | h)
    ·exact .inr (.inl h)
    ·exact .inl h
    ·exact .inr (.inr h)
  ·simp only [cond_true,List.mem_cons]
theorem zll{x:Int}:∀ {l:List Int},l.Pairwise (· < ·)→x ∉ l→(zgq x l).Pairwise (· < ·)
 | [],_,_=>by simp [zgq]
 | z::l,h,hx=>by
  unfold zgq;rw [List.pairwise_cons] at h;simp only [List.mem_cons,not_or] at hx;by_cases hz:x≤z
  ·rw [pa hz];simp only [cond_true,List.pairwise_cons,List.mem_cons];refine ⟨λ y hy=>?_,h⟩;rcases hy with rfl | hy
   ·omega
   ·have:=h.1 y hy; omega
  ·rw [pb hz];simp only [cond_false,List.pairwise_cons];refine ⟨λ y hy=>?_,zll h.2 hx.2⟩;rw [zm5] at hy;rcases hy with rfl | hy
   ·omega
   ·exact h.1 y hy
theorem zkn{y:Int}:∀ {l:List Int},y∈we l↔y∈l
 | []=>by simp [we]
 | z::l=>by simp [we,zm5,zkn (l:=l)]
theorem zi2:∀ {l:List Int},l.Nodup→(we l).Pairwise (· < ·)
 | [],_=>by simp [we]
 | z::l,h=>by
  rw [List.nodup_cons] at h;exact zll (zi2 h.2) λ hm=>h.1 (zkn.1 hm)
def zat(p:Nat→Bool)(n:Nat):List Nat:=(List.range n).filter p
theorem zu5(p:Nat→Bool)(n:Nat):((zat p n).map λ k:Nat=>(k:Int)).Pairwise (· < ·):=by
 rw [List.pairwise_map];have:(List.range n).Pairwise (· < ·):=List.pairwise_lt_range;refine (this.sublist List.filter_sublist).imp ?_;intro a b h; omega
theorem zmb{p:Nat→Bool}{n k:Nat}:k∈zat p n↔k<n∧p k=true:=by simp [zat]
theorem zjg{l:List Nat}{k:Nat}:((k:Int)∈l.map λ k:Nat=>(k:Int))↔k∈l:=by
 rw [List.mem_map];constructor
 ·rintro ⟨a,ha,he⟩;have:a=k:=by omega
  exact this ▸ ha
 ·intro h; exact ⟨k,h,rfl⟩
theorem zsx{l:List Nat}{n:Nat}{p:Nat→Bool}(hn:l.Nodup)(h:∀ k,k∈l↔k<n∧p k=true):we (l.map λ k:Nat=>(k:Int))=(zat p n).map λ k:Nat=>(k:Int):=by
 have hnd:(l.map λ k:Nat=>(k:Int)).Nodup:=by
  unfold List.Nodup;rw [List.pairwise_map];exact hn.imp λ hab e=>hab (by omega)
 refine zmj (zi2 hnd) (zu5 p n) λ x=>?_;rw [zkn];constructor
 ·intro hx;obtain ⟨k,hk,rfl⟩:=List.mem_map.1 hx;exact zjg.2 (zmb.2 ((h k).1 hk))
 ·intro hx;obtain ⟨k,hk,rfl⟩:=List.mem_map.1 hx;exact zjg.2 ((h k).2 (zmb.1 hk))
def Sp.row(U:List (List Nat))(k:Nat):List Nat:=U.getD k []
inductive Reach (U:List (List Nat)) (s:Nat):Nat→Prop
 | here:Reach U s s
 | step {j k:Nat} (h:Reach U s j) (hk:k∈Sp.row U j):Reach U s k
def zg3(U:List (List Nat)):Prop:=∀ u∈U,∀ k∈u,k<U.length
theorem zg3.row{U:List (List Nat)}(h:zg3 U){j k:Nat}(hk:k∈Sp.row U j):k<U.length:=by
 unfold Sp.row at hk;rw [List.getD_eq_getElem?_getD] at hk;cases hj:U[j]? with
 | none=>rw [hj] at hk; cases hk
 | some u=>rw [hj] at hk; exact h u (po hj) k hk
theorem Reach.lt{U:List (List Nat)}{s k:Nat}(hU:zg3 U)(hs:s<U.length)(h:Reach U s k):k<U.length:=by
 cases h with
 | here=>exact hs
 | step _ hk=>exact hU.row hk
def Sp.addN(o:List Nat)(i:Nat):List Nat:=if i∈o then o else o++[i]
def wy(o:List Nat):List Nat→List Nat
 | []=>o
 | i::r=>wy (Sp.addN o i) r
def zdt(U:List (List Nat)):Nat→Nat→List Nat→List Nat
 | 0,_,o=>o
 | f+1,k,o=>match o[k]? with | some j=>zdt U f (k+1) (wy o (Sp.row U j)) | none=>o
theorem zq1{o:List Nat}{i:Nat}(hn:o.Nodup):(Sp.addN o i).Nodup∧(∀ x,x∈Sp.addN o i↔x∈o∨x=i)∧∃ r,Sp.addN o i=o++r:=by
 unfold Sp.addN;by_cases h:i∈o
 ·rw [if_pos h];exact ⟨hn,λ x=>⟨.inl,λ hx=>hx.elim id λ e=>e ▸ h⟩,[],by simp⟩
 ·rw [if_neg h];refine ⟨?_,λ x=>by simp,[i],rfl⟩
  rw [List.nodup_append];exact ⟨hn,by simp,λ a ha b hb=>by simp at hb; subst hb; exact λ e=>h (e ▸ ha)⟩
theorem zg0:∀ (u:List Nat) {o:List Nat},o.Nodup→(wy o u).Nodup∧(∀ x,x∈wy o u↔x∈o∨x∈u)∧∃ r,wy o u=o++r
 | [],o,hn=>⟨hn,λ x=>by simp [wy],[],by simp [wy]⟩
 | i::u,o,hn=>by
  obtain ⟨h1,h2,r1,h3⟩:=zq1 (i:=i) hn;obtain ⟨h4,h5,r2,h6⟩:=zg0 u h1;refine ⟨h4,λ x=>?_,r1++r2,by rw [wy,h6,h3,List.append_assoc]⟩
  rw [wy,h5,h2,List.mem_cons,or_assoc]
theorem zkj{o:List Nat}{n:Nat}(hn:o.Nodup)(h:∀ x∈o,x<n):o.length≤n:=by
 have:∀ (n:Nat) (o:List Nat),o.Nodup→(∀ x∈o,x<n)→o.length≤n:=by
  intro n
  induction n with
  | zero=>
   intro o _ h;cases o with
   | nil=>simp
   | cons a r=>have:=h a (pn ..); omega
  | succ n ih=>
   intro o hn h;have h1:(o.filter λ x=>decide (x ≠ n)).length≤n:=ih _ (hn.filter _) λ x hx=>by
    simp only [List.mem_filter,decide_eq_true_eq] at hx;have:=h x hx.1; omega
   have h2:o.length≤(o.filter λ x=>decide (x ≠ n)).length+1:=by
    clear ih h1 h
    induction o with
    | nil=>simp
    | cons a r ih=>
     rw [List.nodup_cons] at hn;by_cases ha:a=n
     ·subst ha;have:r.filter (λ x=>decide (x ≠ a))=r:=List.filter_eq_self.2 λ x hx=>by simp; exact λ e=>hn.1 (e ▸ hx)
      rw [List.filter_cons,if_neg (by simp),this]
      simp
     ·have:=ih hn.2;simp [ha] at this ⊢;omega
   omega
 exact this n o hn h
theorem z2p{U:List (List Nat)}(hU:zg3 U){s:Nat}(hs:s<U.length):∀ (f k:Nat) (o:List Nat),U.length≤f+k→k≤o.length→o.Nodup→s∈o→(∀ x∈o,Reach U s x) →
  (∀ i j,i<k→o[i]?=some j→∀ x∈Sp.row U j,x∈o)→(zdt U f k o).Nodup∧∀ x,x∈zdt U f k o↔Reach U s x:=by
 have close:∀ (o:List Nat),s∈o→(∀ x∈o,Reach U s x)→(∀ j∈o,∀ x∈Sp.row U j,x∈o)→∀ x,x∈o↔Reach U s x:=by
  intro o h1 h2 h3 x;refine ⟨h2 x,λ h=>?_⟩
  induction h with
  | here=>exact h1
  | step _ hk ih=>exact h3 _ ih _ hk
 intro f
 induction f with
 | zero=>
  intro k o hf hk hn hs' hr hc;have hlen:=zkj hn λ x hx=>(hr x hx).lt hU hs;refine ⟨hn,close o hs' hr λ j hj=>?_⟩;obtain ⟨i,hi⟩:=List.getElem?_of_mem hj;exact hc i j (by have:=(pj.1 hi).1; omega) hi
 | succ f ih=>
  intro k o hf hk hn hs' hr hc;unfold zdt;cases hj:o[k]? with
  | none=>
   have hlen:o.length≤k:=List.getElem?_eq_none_iff.1 hj;refine ⟨hn,close o hs' hr λ j hj=>?_⟩;obtain ⟨i,hi⟩:=List.getElem?_of_mem hj;exact hc i j (by have:=(pj.1 hi).1; omega) hi
  | some j=>
   simp only;have hklt:=(pj.1 hj).1;obtain ⟨h1,h2,r,h3⟩:=zg0 (Sp.row U j) hn;refine ih (k+1) _ (by omega) (by rw [h3]; simp; omega) h1 ((h2 s).2 (.inl hs')) (λ x hx=>?_) λ i q hi hq x hx=>?_
   ·rcases (h2 x).1 hx with h | h
    ·exact hr x h
    ·exact .step (hr j (po hj)) h
   ·rw [h3] at hq;rw [List.getElem?_append_left (by omega)] at hq
    by_cases hik:i=k
    ·subst hik;rw [hj] at hq; cases hq;exact (h2 x).2 (.inr hx)
    ·exact (h2 x).2 (.inl (hc i q (by omega) hq x hx))
open Go.Proofs
def zh1:List V→Option (D×List UInt8) | [.d x,.d (.str s)]=>some (x,s) | _=>none
theorem z95(n:Nat)(l:List (List UInt8))(s:List UInt8):zk cx (CK.plain zo) n 132 [.d (.sl 1 (l.map .str)),.d (.str s)] []=LP cx (CK.plain zo) n 132 0 2 n [(0,V.d (D.sl 1 (List.map D.str l))),(1,V.d (D.str s)),(7,V.d (D.int .i64 (↑(List.map D.str l).length:Int))),(8,V.d (D.int .i64 (0:Int)))] [] (AK cx (CK.plain zo) n 132 0 2 (EK cx 132 0)):=by kernel_rfl
theorem z45(n k:Nat)(l:List (List UInt8))(s:List UInt8)(i:Int):LP cx (CK.plain zo) n 132 0 2 (k+1) [(0,.d (.sl 1 (l.map .str))),(1,.d (.str s)),(7,.d (.int .i64 (l.length:Int))),(8,.d (.int .i64 i))] [] (AK cx (CK.plain zo) n 132 0 2 (EK cx 132 0))=bif decide (i<(↑l.length:Int)) then za (decide (0≤i)&&decide (i<(↑(List.map D.str l).length:Int))) (ze (List.map D.str l) i.toNat λ y=>ze y.cells 0 λ c=>match c with
 | D.str s_1=>bif decide (s=s_1) then some (Out.ret (V.d (D.int .i64 i)),[]) else LP cx (CK.plain zo) n 132 0 2 k [(0,V.d (D.sl 1 (List.map D.str l))),(1,V.d (D.str s)),(7,V.d (D.int .i64 (↑l.length:Int))),(8,V.d (D.int .i64 (IntKind.i64.wrap (i+(1:Int)))))] [] (AK cx (CK.plain zo) n 132 0 2 (EK cx 132 0))
 | x=>none) else some (Out.ret (V.d (D.int .i64 (Int.negSucc 0))),[]):=by kernel_rfl
theorem ybq(n k:Nat)(l:List Nat)(x i:Int):LP cx (CK.plain zo) n 84 0 2 (k+1) [(0,.d (.sl 1 (l.map λ k:Nat=>D.int .i64 k))),(1,.d (.int .i64 x)),(7,.d (.int .i64 (l.length:Int))),(8,.d (.int .i64 i))] [] (AK cx (CK.plain zo) n 84 0 2 (EK cx 84 0))=bif decide (i<(↑l.length:Int)) then za (decide (0≤i)&&decide (i<(↑(List.map (λ k:Nat=>D.int .i64 (↑k:Int)) l).length:Int))) (ze (List.map (λ k:Nat=>D.int .i64 (↑k:Int)) l) i.toNat λ y=>ze y.cells 0 λ c=>match c with
 | D.int k' n_1=>bif decide (k'=IntKind.i64) then bif decide (x=n_1) then some (Out.ret (V.d (D.int .i64 i)),[]) else LP cx (CK.plain zo) n 84 0 2 k [(0,V.d (D.sl 1 (List.map (λ k:Nat=>D.int .i64 (↑k:Int)) l))),(1,V.d (D.int .i64 x)),(7,V.d (D.int .i64 (↑l.length:Int))),(8,V.d (D.int .i64 (IntKind.i64.wrap (i+(1:Int)))))] [] (AK cx (CK.plain zo) n 84 0 2 (EK cx 84 0)) else none
 | x=>none) else some (Out.ret (V.d (D.int .i64 (Int.negSucc 0))),[]):=by kernel_rfl
theorem z91(n:Nat)(l:List Nat)(i:Int):zk cx (CK.plain zo) n 84 [.slo 0 1 l.length,.d (.int .i64 i)] [(0,.row (l.map λ k:Nat=>D.int .i64 k))]=LP cx (CK.plain zo) n 84 1 2 n [(0,V.slo 0 1 l.length),(1,V.d (D.int .i64 i)),(7,V.d (D.int .i64 (↑l.length:Int))),(8,V.d (D.int .i64 (0:Int)))] [(0,Ob.row (List.map (λ k:Nat=>D.int .i64 (↑k:Int)) l))] (AK cx (CK.plain zo) n 84 1 2 (EK cx 84 1)):=by kernel_rfl
theorem z42(n k:Nat)(l:List Nat)(x i:Int):LP cx (CK.plain zo) n 84 1 2 (k+1) [(0,.slo 0 1 l.length),(1,.d (.int .i64 x)),(7,.d (.int .i64 (l.length:Int))),(8,.d (.int .i64 i))] [(0,.row (l.map λ k:Nat=>D.int .i64 k))] (AK cx (CK.plain zo) n 84 1 2 (EK cx 84 1))=bif decide (i<(↑l.length:Int)) then za (decide (0≤i)&&decide (i<(↑l.length:Int))) (za (l.length.beq (List.map (λ k:Nat=>D.int .i64 (↑k:Int)) l).length) (ze (List.map (λ k:Nat=>D.int .i64 (↑k:Int)) l) i.toNat λ x_1=>ze x_1.cells 0 λ c=>match c with
 | D.int k' n_1=>bif decide (k'=IntKind.i64) then bif decide (x=n_1) then some (Out.ret (V.d (D.int .i64 i)),[(0,Ob.row (List.map (λ k:Nat=>D.int .i64 (↑k:Int)) l))]) else LP cx (CK.plain zo) n 84 1 2 k [(0,V.slo 0 1 l.length),(1,V.d (D.int .i64 x)),(7,V.d (D.int .i64 (↑l.length:Int))),(8,V.d (D.int .i64 (IntKind.i64.wrap (i+(1:Int)))))] [(0,Ob.row (List.map (λ k:Nat=>D.int .i64 (↑k:Int)) l))] (AK cx (CK.plain zo) n 84 1 2 (EK cx 84 1)) else none
 | x=>none)) else some (Out.ret (V.d (D.int .i64 (Int.negSucc 0))),[(0,Ob.row (List.map (λ k:Nat=>D.int .i64 (↑k:Int)) l))]):=by kernel_rfl
theorem ybi(n:Nat)(l:List Nat)(i:Int):zk cx (CK.plain zo) n 25 [.d (.sl 1 (l.map λ k:Nat=>D.int .i64 k)),.d (.int .i64 i)] []=LP cx (CK.plain zo) n 25 0 2 n [(1,V.d (D.int .i64 i)),(7,V.d (D.sl 1 (List.map (λ k:Nat=>D.int .i64 (↑k:Int)) l))),(8,V.d (D.int .i64 (↑(List.map (λ k:Nat=>D.int .i64 (↑k:Int)) l).length:Int))),(9,V.d (D.int .i64 (0:Int)))] [] (AK cx (CK.plain zo) n 25 0 2 (EK cx 25 0)):=by kernel_rfl
theorem z9v(n k:Nat)(l:List Nat)(x i:Int):LP cx (CK.plain zo) n 25 0 2 (k+1) [(1,.d (.int .i64 x)),(7,.d (.sl 1 (l.map λ k:Nat=>D.int .i64 k))),(8,.d (.int .i64 (l.length:Int))),(9,.d (.int .i64 i))] [] (AK cx (CK.plain zo) n 25 0 2 (EK cx 25 0))=bif decide (i<(↑l.length:Int)) then za (decide (0≤i)&&decide (i<(↑(List.map (λ k:Nat=>D.int .i64 (↑k:Int)) l).length:Int))) (ze (List.map (λ k:Nat=>D.int .i64 (↑k:Int)) l) i.toNat λ y=>ze y.cells 0 λ c=>match c with
 | D.int k' n_1=>bif decide (k'=IntKind.i64) then bif decide (n_1=x) then some (Out.ret (V.d (D.bool true)),[]) else LP cx (CK.plain zo) n 25 0 2 k [(1,V.d (D.int .i64 x)),(7,V.d (D.sl 1 (List.map (λ k:Nat=>D.int .i64 (↑k:Int)) l))),(8,V.d (D.int .i64 (↑l.length:Int))),(9,V.d (D.int .i64 (IntKind.i64.wrap (i+(1:Int)))))] [] (AK cx (CK.plain zo) n 25 0 2 (EK cx 25 0)) else none
 | x=>none) else some (Out.ret (V.d (D.bool false)),[]):=by kernel_rfl
theorem z96(n:Nat)(a b:List (List UInt8)):zk cx (CK.plain zo) n 131 [.d (.sl 1 [.sl 1 (a.map .str),.sl 1 (b.map .str)])] []=LP cx (CK.plain zo) n 131 0 3 n [(0,V.d (D.sl 1 [D.sl 1 (List.map D.str a),D.sl 1 (List.map D.str b)])),(3,V.d (D.int .i64 (0:Int))),(9,V.d (D.sl 1 [D.sl 1 (List.map D.str a),D.sl 1 (List.map D.str b)])),(10,V.d (D.int .i64 (↑[D.sl 1 (List.map D.str a),D.sl 1 (List.map D.str b)].length:Int))),(11,V.d (D.int .i64 (0:Int)))] [] (AK cx (CK.plain zo) n 131 0 3 (EK cx 131 0)):=by kernel_rfl
theorem z63(n k:Nat)(a b:List (List UInt8))(c:Int):LP cx (CK.plain zo) n 131 0 3 (k+1) [(0,.d (.sl 1 [.sl 1 (a.map .str),.sl 1 (b.map .str)])),(3,.d (.int .i64 c)),(9,.d (.sl 1 [.sl 1 (a.map .str),.sl 1 (b.map .str)])),(10,.d (.int .i64 2)),(11,.d (.int .i64 0))] [] (AK cx (CK.plain zo) n 131 0 3 (EK cx 131 0))=bif decide (IntKind.i64.wrap (c+(↑(List.map D.str a).length:Int))<(0:Int)) then some (Out.pan (V.d (D.iface 9 (D.str [108,101,110,32,111,117,116,32,111,102,32,114,97,110,103,101]))),[]) else LP cx (CK.plain zo) n 131 0 3 k [(0,V.d (D.sl 1 [D.sl 1 (List.map D.str a),D.sl 1 (List.map D.str b)])),(3,V.d (D.int .i64 (IntKind.i64.wrap (c+(↑(List.map D.str a).length:Int))))),(9,V.d (D.sl 1 [D.sl 1 (List.map D.str a),D.sl 1 (List.map D.str b)])),(10,V.d (D.int .i64 (2:Int))),(11,V.d (D.int .i64 (1:Int)))] [] (AK cx (CK.plain zo) n 131 0 3 (EK cx 131 0)):=by kernel_rfl
theorem z62(n k:Nat)(a b:List (List UInt8))(c:Int):LP cx (CK.plain zo) n 131 0 3 (k+1) [(0,.d (.sl 1 [.sl 1 (a.map .str),.sl 1 (b.map .str)])),(3,.d (.int .i64 c)),(9,.d (.sl 1 [.sl 1 (a.map .str),.sl 1 (b.map .str)])),(10,.d (.int .i64 2)),(11,.d (.int .i64 1))] [] (AK cx (CK.plain zo) n 131 0 3 (EK cx 131 0))=bif decide (IntKind.i64.wrap (c+(↑(List.map D.str b).length:Int))<(0:Int)) then some (Out.pan (V.d (D.iface 9 (D.str [108,101,110,32,111,117,116,32,111,102,32,114,97,110,103,101]))),[]) else LP cx (CK.plain zo) n 131 0 3 k [(0,V.d (D.sl 1 [D.sl 1 (List.map D.str a),D.sl 1 (List.map D.str b)])),(3,V.d (D.int .i64 (IntKind.i64.wrap (c+(↑(List.map D.str b).length:Int))))),(9,V.d (D.sl 1 [D.sl 1 (List.map D.str a),D.sl 1 (List.map D.str b)])),(10,V.d (D.int .i64 (2:Int))),(11,V.d (D.int .i64 (2:Int)))] [] (AK cx (CK.plain zo) n 131 0 3 (EK cx 131 0)):=by kernel_rfl
theorem z61(n k:Nat)(a b:List (List UInt8))(c:Int):LP cx (CK.plain zo) n 131 0 3 (k+1) [(0,.d (.sl 1 [.sl 1 (a.map .str),.sl 1 (b.map .str)])),(3,.d (.int .i64 c)),(9,.d (.sl 1 [.sl 1 (a.map .str),.sl 1 (b.map .str)])),(10,.d (.int .i64 2)),(11,.d (.int .i64 2))] [] (AK cx (CK.plain zo) n 131 0 3 (EK cx 131 0))=za (decide (0≤c)&&decide (c≤4294967296)&&true&&true&&true) (LP cx (CK.plain zo) n 131 0 11 n [(6,V.sl 1 [] 24),(25,V.d (D.sl 1 [D.sl 1 (List.map D.str a),D.sl 1 (List.map D.str b)])),(26,V.d (D.int .i64 (↑[D.sl 1 (List.map D.str a),D.sl 1 (List.map D.str b)].length:Int))),(27,V.d (D.int .i64 (0:Int)))] [(24,Ob.tok 0)] (AK cx (CK.plain zo) n 131 0 11 (EK cx 131 0))):=by kernel_rfl
theorem z60(n k:Nat)(a b:List (List UInt8))(l:List D):LP cx (CK.plain zo) n 131 0 11 (k+1) [(6,V.sl 1 l 24),(25,V.d (D.sl 1 [D.sl 1 (List.map D.str a),D.sl 1 (List.map D.str b)])),(26,V.d (D.int .i64 2)),(27,V.d (D.int .i64 (0:Int)))] [(24,Ob.tok l.length)] (AK cx (CK.plain zo) n 131 0 11 (EK cx 131 0))=za (decide (l.length=l.length)&&decide (l.length+(List.map D.str a).length≤4294967296)) (LP cx (CK.plain zo) n 131 0 11 k [(6,V.sl 1 (l++List.map D.str a) 24),(25,V.d (D.sl 1 [D.sl 1 (List.map D.str a),D.sl 1 (List.map D.str b)])),(26,V.d (D.int .i64 (2:Int))),(27,V.d (D.int .i64 (1:Int)))] [(24,Ob.tok (l.length+(List.map D.str a).length))] (AK cx (CK.plain zo) n 131 0 11 (EK cx 131 0))):=by kernel_rfl
theorem z6z(n k:Nat)(a b:List (List UInt8))(l:List D):LP cx (CK.plain zo) n 131 0 11 (k+1) [(6,V.sl 1 l 24),(25,V.d (D.sl 1 [D.sl 1 (List.map D.str a),D.sl 1 (List.map D.str b)])),(26,V.d (D.int .i64 2)),(27,V.d (D.int .i64 (1:Int)))] [(24,Ob.tok l.length)] (AK cx (CK.plain zo) n 131 0 11 (EK cx 131 0))=za (decide (l.length=l.length)&&decide (l.length+(List.map D.str b).length≤4294967296)) (LP cx (CK.plain zo) n 131 0 11 k [(6,V.sl 1 (l++List.map D.str b) 24),(25,V.d (D.sl 1 [D.sl 1 (List.map D.str a),D.sl 1 (List.map D.str b)])),(26,V.d (D.int .i64 (2:Int))),(27,V.d (D.int .i64 (2:Int)))] [(24,Ob.tok (l.length+(List.map D.str b).length))] (AK cx (CK.plain zo) n 131 0 11 (EK cx 131 0))):=by kernel_rfl
theorem z6y(n k:Nat)(a b:List (List UInt8))(l:List D):LP cx (CK.plain zo) n 131 0 11 (k+1) [(6,V.sl 1 l 24),(25,V.d (D.sl 1 [D.sl 1 (List.map D.str a),D.sl 1 (List.map D.str b)])),(26,V.d (D.int .i64 2)),(27,V.d (D.int .i64 (2:Int)))] [(24,Ob.tok l.length)] (AK cx (CK.plain zo) n 131 0 11 (EK cx 131 0))=some (Out.ret (V.d (D.sl 1 l)),[]):=by kernel_rfl
def Sp.mem(s:List UInt8)(l:List (List UInt8)):Bool:=l.any λ x=>decide (x=s)
theorem mem_iff{s:List UInt8}{l:List (List UInt8)}:Sp.mem s l=true↔s∈l:=by
 unfold Sp.mem;rw [List.any_eq_true];constructor
 ·rintro ⟨x,hx,h⟩; have:=pc h; exact this ▸ hx
 ·intro h; exact ⟨s,h,pa rfl⟩
def v6(k:Int)(l:List Nat):Bool:=l.any λ x:Nat=>decide ((x:Int)=k)
theorem zjk{k:Nat}{l:List Nat}:v6 (k:Int) l=true↔k∈l:=by
 unfold v6;rw [List.any_eq_true];constructor
 ·rintro ⟨x,hx,h⟩;have:=pc h;have:x=k:=by omega
  exact this ▸ hx
 ·intro h; exact ⟨k,h,pa rfl⟩
abbrev nI(l:List Nat):List D:=l.map λ k:Nat=>D.int .i64 k
theorem zfj{R:Type}{l:List Nat}{i:Nat}{K:D→Option R}:ze (nI l) i K=zd l[i]? λ t=>K (.int .i64 t):=by
 unfold ze;rw [List.getElem?_map];cases l[i]? <;> rfl
theorem yan(l:List (List UInt8))(s:List UInt8)(hl:yi l=true):zh cx 132 [.d (.sl 1 (l.map .str)),.d (.str s)] []=some (.ret (mkI (y4 (λ x=>decide (s=x)) l)),[]):=by
 refine zl zq (N:=l.length+1) ?_;rw [z95,pf]
 have h:=zby (λ k i=>LP cx (CK.plain zo) (l.length+1) 132 0 2 k [(0,.d (.sl 1 (l.map .str))),(1,.d (.str s)),(7,.d (.int .i64 (l.length:Int))),(8,.d (.int .i64 i))] [] (AK cx (CK.plain zo) (l.length+1) 132 0 2 (EK cx 132 0)))
  l (λ x=>decide (s=x)) (λ j=>some (Out.ret (V.d (D.int .i64 j)),[])) (some (Out.ret (V.d (D.int .i64 (Int.negSucc 0))),[])) (y9 hl)
  (λ k j x hj hx=>by
   rw [z45,pf,yq hj,xi,qg,pm,hx];rfl) (λ k=>by rw [z45,x6,cond_false]) (Nat.lt_succ_self _)
 refine h.trans ?_;unfold y4;cases yl (λ x=>decide (s=x)) l 0 <;> rfl
theorem yal(l:List Nat)(a:Int)(hl:yi l=true):zh cx 84 [.slo 0 1 l.length,.d (.int .i64 a)] [(0,.row (nI l))]=some (.ret (mkI (y4 (λ x:Nat=>decide (a=(x:Int))) l)),[(0,.row (nI l))]):=by
 refine zl zq (N:=l.length+1) ?_;rw [z91]
 have h:=zby (λ k i=>LP cx (CK.plain zo) (l.length+1) 84 1 2 k [(0,.slo 0 1 l.length),(1,.d (.int .i64 a)),(7,.d (.int .i64 (l.length:Int))),(8,.d (.int .i64 i))] [(0,.row (nI l))] (AK cx (CK.plain zo) (l.length+1) 84 1 2 (EK cx 84 1)))
  l (λ x:Nat=>decide (a=(x:Int))) (λ j=>some (Out.ret (V.d (D.int .i64 j)),[(0,.row (nI l))])) (some (Out.ret (V.d (D.int .i64 (Int.negSucc 0))),[(0,.row (nI l))])) (y9 hl)
  (λ k j x hj hx=>by
   rw [z42,pf,yq hj,xi,zfj,pm,hx,Nat.beq_refl];rfl) (λ k=>by rw [z42,x6,cond_false]) (Nat.lt_succ_self _)
 refine h.trans ?_;unfold y4;cases yl (λ x:Nat=>decide (a=(x:Int))) l 0 <;> rfl
theorem m25(l:List Nat)(a:Int)(hl:yi l=true):zh cx 25 [.d (.sl 1 (nI l)),.d (.int .i64 a)] []=some (.ret (mkB (v6 a l)),[]):=by
 refine zl zq (N:=l.length+1) ?_;rw [ybi,pf]
 have h:=zby (λ k i=>LP cx (CK.plain zo) (l.length+1) 25 0 2 k [(1,.d (.int .i64 a)),(7,.d (.sl 1 (nI l))),(8,.d (.int .i64 (l.length:Int))),(9,.d (.int .i64 i))] [] (AK cx (CK.plain zo) (l.length+1) 25 0 2 (EK cx 25 0)))
  l (λ x:Nat=>decide ((x:Int)=a)) (λ _=>some (Out.ret (V.d (D.bool true)),[])) (some (Out.ret (V.d (D.bool false)),[])) (y9 hl)
  (λ k j x hj hx=>by
   rw [z9v,pf,yq hj,xi,zfj,pm,hx];rfl) (λ k=>by rw [z9v,x6,cond_false]) (Nat.lt_succ_self _)
 refine h.trans ?_;unfold v6;rw [←zex l 0];cases yl (λ x:Nat=>decide ((x:Int)=a)) l 0 <;> rfl
theorem yao(a b:List (List UInt8))(ha:a.length+b.length≤4294967296):zh cx 131 [.d (.sl 1 [.sl 1 (a.map .str),.sl 1 (b.map .str)])] []=some (.ret (.d (.sl 1 ((a++b).map .str))),[]):=by
 refine zl zq (N:=3) ?_;have w1:IntKind.i64.wrap ((0:Int)+(a.length:Int))=((a.length:Nat):Int):=by rw [IntWalk.i64_in _ (by omega)]; omega
 have w2:IntKind.i64.wrap (((a.length:Nat):Int)+(b.length:Int))=((a.length+b.length:Nat):Int):=by rw [IntWalk.i64_in _ (by omega)]; omega
 have e2:((([D.sl 1 (List.map D.str a),D.sl 1 (List.map D.str b)]:List D).length:Nat):Int)=2:=rfl
 rw [z96,e2,z63,pf,w1,pb (p:=((a.length:Nat):Int)<0) (by omega),cond_false,z62,pf,w2,pb (p:=((a.length+b.length:Nat):Int)<0) (by omega),cond_false,z61,
  pa (p:=(0:Int)≤((a.length+b.length:Nat):Int)) (by omega),pa (p:=((a.length+b.length:Nat):Int)≤4294967296) (by omega)]
 simp only [Bool.and_self,za,cond_true];have hd:=z60 3 2 a b [];rw [List.length_nil] at hd;rw [e2];refine hd.trans ?_;rw [pa rfl,pa (p:=0+(List.map D.str a).length≤4294967296) (by simp; omega)]
 simp only [Bool.and_self,za,cond_true,List.nil_append,Nat.zero_add];refine (z6z 3 1 a b (List.map D.str a)).trans ?_;rw [pa rfl,pa (p:=(List.map D.str a).length+(List.map D.str b).length≤4294967296) (by simp; omega)]
 simp only [Bool.and_self,za,cond_true];rw [←pe,←List.map_append];exact z6y 3 0 a b _
theorem zin{a:List V}{q}(h:zh1 a=some q):a=[.d q.1,.d (.str q.2)]:=by
 unfold zh1 at h;split at h
 ·cases h; rfl
 ·cases h
def Sp.put(l:List (List UInt8))(s:List UInt8):List (List UInt8):=bif Sp.mem s l then l else l++[s]
def z49:List (List UInt8):=[[85],[83,49],[98,97,115,101],[110,111,114,116,104],[115,111,117,116,104],[108,111,111,112],[102,115,116],[115,110,100],[83,117,115,112],[117,110,103,108,117,101],[109,101,114,105,100],[103,108,117,101],[71,108,117,101],[80,97,116,104],[116,114,97,110,115,112],[104,99,111,109,112],[83,49,101,108,105,109],[83,117,115,112,101,108,105,109]]
def wK:List D:=z49.map .str
def wn(ks:List D)(s:List UInt8):Bool:=ks.any λ k=>match k with | .str t=>decide (s=t) | _=>false
def znd:D→Bool | .str _=>true | _=>false
def zxg:D→Bool | .int k _=>decide (k=.i64) | _=>false
def okM(ks vs:List D):Bool:=ks.all znd&&vs.all zxg&&decide (ks.length≤vs.length)
def zv5:List V→Option ((List D×List D)×List UInt8) | [.d (.agg [.map ks vs,_,_,_]),.d (.str s)]=>some ((ks,vs),s) | _=>none
def z0k(q:(List D×List D)×List UInt8):Option Bool:=za (okM q.1.1 q.1.2) (some (wn q.1.1 q.2))
def zr3:List V→Option ((List D×List D)×D) | [.d x,.mfunc 79 [.agg [.map ks vs,_,_,_]]]=>some ((ks,vs),x) | _=>none
def strsOf:List D→Option (List (List UInt8))
 | []=>some []
 | .str s::r=>zd (strsOf r) λ l=>some (s::l)
 | _=>none
def zcr:D→Option (List (List UInt8))
 | .sl sz l=>za (Nat.beq sz 1&&decide (l.length<4294967296)) (strsOf l)
 | _=>none
def zu3(q:(List D×List D)×D):Option Int:=za (okM q.1.1 q.1.2) (zd (zcr q.2) λ l=>some (y4 (wn q.1.1) l))
def z7k(q:(List D×List D)×D):Option Bool:=za (okM q.1.1 q.1.2) (zd (zcr q.2) λ l=>some (l.any (wn q.1.1)))
def zpd:CK R1:=zy 79 zv5 z0k mkB (CK.plain zo)
def z47:CK R1:=zy 106 zr3 zu3 mkI (CK.plain zo)
def xT:D:=.agg [.int .i64 1,.str [120],.sl 5 [],.sl 1 [],.int .i64 0]
def yah(b:Bool):D:=D.agg [D.int .i64 (bif b then 0 else 1),D.int .i64 0,D.str [],D.sl 2 [],D.sl 6 [],D.sl 2 []]
open Classical in
def isD(x:D)(y:D):Bool:=decide (x=y)
def evK(n:Nat):CK R1:=CK.plain (wg cx n)
theorem zqp(n:Nat):knows cx (evK n).S (zh cx):=λ _ _ _ _ _ h=>zgo h
def K42:CK R1:=zy 78 zr3 z7k mkB (evK 60)
def z2e:List V→Option ((D×D)×(D×D)) | [.d t,.d a,.d b,.d c]=>some ((t,a),(b,c)) | _=>none
def zz5:D→Option (List UInt8) | .sl 1 [.str s]=>some s | _=>none
def z5c(q:(D×D)×(D×D)):Option Bool:=zd (zz5 q.1.2) λ s=>za (isD q.1.1 xT&&isD q.2.1 (.sl 1 [.str [120]])&&isD q.2.2 (.sl 1 [])) (some (wn wK s))
def z3j(b:Bool):V:=.tup [.d (yah b),.d (.int .i64 0),.d (.int .i64 (bif b then 61 else 0))]
def yae:CK R1:=zy 42 z2e z5c z3j (CK.plain zo)
theorem ybh(s:List UInt8):zk cx K42 5 42 [.d xT,.d (.sl 1 [.str s]),.d (.sl 1 [.str [120]]),.d (.sl 1 [])] []=bif [s].any (wn wK) then some (.ret (z3j true),[]) else some (.ret (z3j false),[]):=by kernel_rfl
theorem z97(s:List UInt8):zk cx yae 5 130 [.d (.str s)] []=zd (z5c ((xT,.sl 1 [.str s]),(.sl 1 [.str [120]],.sl 1 []))) λ b=>some (.ret (.d (.bool (!decide ((bif b then (61:Int) else 0)=0)))),[]):=by kernel_rfl
theorem yba(n:Nat)(ks vs:List D)(a b c:D)(s:List UInt8):zk cx (CK.plain zo) n 79 [.d (.agg [.map ks vs,a,b,c]),.d (.str s)] []=zd (vr (D.str s) ks 0) λ o=>zh9 o (λ i=>ze vs i λ y=>match y with
 | D.int k' n=>bif decide (k'=IntKind.i64) then some (Out.ret (V.d (D.bool true)),[]) else none
 | x=>none) (some (Out.ret (V.d (D.bool false)),[])):=by kernel_rfl
theorem z7d(n:Nat)(ks vs:List D)(a b c:D)(l:List (List UInt8)):zk cx zpd n 106 [.d (.sl 1 (l.map .str)),.mfunc 79 [.agg [.map ks vs,a,b,c]]] []=LP cx zpd n 106 0 2 n [(0,V.d (D.sl 1 (List.map D.str l))),(1,V.mfunc 79 [D.agg [D.map ks vs,a,b,c]]),(7,V.d (D.int .i64 (↑(List.map D.str l).length:Int))),(8,V.d (D.int .i64 (0:Int)))] [] (AK cx zpd n 106 0 2 (EK cx 106 0)):=by kernel_rfl
theorem z2w(n k:Nat)(ks vs:List D)(a b c:D)(l:List (List UInt8))(i:Int):LP cx zpd n 106 0 2 (k+1) [(0,.d (.sl 1 (l.map .str))),(1,.mfunc 79 [.agg [.map ks vs,a,b,c]]),(7,.d (.int .i64 (l.length:Int))),(8,.d (.int .i64 i))] [] (AK cx zpd n 106 0 2 (EK cx 106 0))=bif decide (i<(↑l.length:Int)) then za (decide (0≤i)&&decide (i<(↑(List.map D.str l).length:Int))) (ze (List.map D.str l) i.toNat λ y=>ze y.cells 0 λ c_1=>match c_1 with
 | D.str s=>zd (za (((ks,vs),s).fst.fst.all znd&&((ks,vs),s).fst.snd.all zxg&&decide (((ks,vs),s).fst.fst.length≤((ks,vs),s).fst.snd.length)) (some (wn ((ks,vs),s).fst.fst ((ks,vs),s).snd))) λ b_1=>bif b_1 then some (Out.ret (V.d (D.int .i64 i)),[]) else LP cx zpd n 106 0 2 k [(0,V.d (D.sl 1 (List.map D.str l))),(1,V.mfunc 79 [D.agg [D.map ks vs,a,b,c]]),(7,V.d (D.int .i64 (↑l.length:Int))),(8,V.d (D.int .i64 (IntKind.i64.wrap (i+(1:Int)))))] [] (AK cx zpd n 106 0 2 (EK cx 106 0))
 | x=>none) else some (Out.ret (V.d (D.int .i64 (Int.negSucc 0))),[]):=by kernel_rfl
theorem z92(n:Nat)(ks vs:List D)(a b c:D)(l:List (List UInt8)):zk cx z47 n 78 [.d (.sl 1 (l.map .str)),.mfunc 79 [.agg [.map ks vs,a,b,c]]] []=zd (za (((ks,vs),D.sl 1 (List.map D.str l)).fst.fst.all znd&&((ks,vs),D.sl 1 (List.map D.str l)).fst.snd.all zxg&&decide (((ks,vs),D.sl 1 (List.map D.str l)).fst.fst.length≤((ks,vs),D.sl 1 (List.map D.str l)).fst.snd.length)) (zd (zcr ((ks,vs),D.sl 1 (List.map D.str l)).snd) λ l_1=>some (y4 (wn ((ks,vs),D.sl 1 (List.map D.str l)).fst.fst) l_1))) λ b=>some (Out.ret (V.d (D.bool (decide ((0:Int)≤b)))),[]):=by kernel_rfl
theorem zub{a:List V}{q}(h:zv5 a=some q):∃ x y z,a=[.d (.agg [.map q.1.1 q.1.2,x,y,z]),.d (.str q.2)]:=by
 unfold zv5 at h; split at h <;> cases h; exact ⟨_,_,_,rfl⟩
theorem zlt{a:List V}{q}(h:zr3 a=some q):∃ x y z,a=[.d q.2,.mfunc 79 [.agg [.map q.1.1 q.1.2,x,y,z]]]:=by
 unfold zr3 at h; split at h <;> cases h; exact ⟨_,_,_,rfl⟩
theorem zwa{a:List V}{q}(h:z2e a=some q):a=[.d q.1.1,.d q.1.2,.d q.2.1,.d q.2.2]:=by
 unfold z2e at h; split at h <;> cases h; rfl
theorem zuu{x:D}{s}(h:zz5 x=some s):x=.sl 1 [.str s]:=by
 unfold zz5 at h; split at h <;> cases h; rfl
open Classical in
theorem znf{x y:D}(h:isD x y=true):x=y:=by unfold isD at h; exact pc h
open Classical in
theorem zng{x:D}:isD x x=true:=by unfold isD; exact pa rfl
theorem zd1:∀ {l:List D} {r:List (List UInt8)},strsOf l=some r→l=r.map .str
 | [],r,h=>by cases h; rfl
 | .str s::l,r,h=>by
  obtain ⟨q,hq,h⟩:=zb h;cases h;rw [zd1 hq]; rfl
theorem ze5:∀ (l:List (List UInt8)),strsOf (l.map .str)=some l
 | []=>rfl
 | s::l=>by show zd (strsOf (l.map .str)) _=_; rw [ze5 l]; rfl
theorem zdi{x:D}{l}(h:zcr x=some l):x=.sl 1 (l.map .str)∧yi l=true:=by
 unfold zcr at h;split at h
 ·obtain ⟨h1,h2⟩:=zc h;rw [ph] at h1;obtain rfl:=pg h1.1;obtain rfl:=zd1 h2;refine ⟨rfl,?_⟩;have:=pc h1.2;rw [pf] at this;exact pa (p:=l.length<4294967296) (by omega)
 ·cases h
theorem zic{l:List (List UInt8)}(h:yi l=true):zcr (.sl 1 (l.map .str))=some l:=by
 show za (Nat.beq 1 1&&decide ((l.map D.str).length<4294967296)) (strsOf (l.map .str))=_;have:=pc h;rw [pf,pa this,ze5];rfl
theorem zkp(s:List UInt8):∀ (ks:List D) (i:Nat),ks.all znd=true→∃ o,vr (.str s) ks i=some o∧o.isSome=wn ks s∧∀ j,o=some j→i≤j∧j<i+ks.length
 | [],i,_=>⟨none,rfl,rfl,λ _ h=>by cases h⟩
 | .str t::ks,i,h=>by
  have h2:ks.all znd=true:=by simpa [znd] using h
  obtain ⟨o,ho,hi,hb⟩:=zkp s ks (i+1) h2;show ∃ o,(bif decide (s=t) then some (some i) else vr (.str s) ks (i+1))=some o∧o.isSome=(decide (s=t)||wn ks s)∧_
  cases decide (s=t)
  ·refine ⟨o,ho,hi,λ j hj=>?_⟩;have:=hb j hj;simp only [List.length_cons]; omega
  ·exact ⟨some i,rfl,rfl,λ j hj=>by cases hj; simp only [List.length_cons]; omega⟩
 | .bool _::_,_,h | .int _ _::_,_,h=>by cases h
theorem m79(ks vs:List D)(a b c:D)(s:List UInt8)(h:okM ks vs=true):zh cx 79 [.d (.agg [.map ks vs,a,b,c]),.d (.str s)] []=some (.ret (mkB (wn ks s)),[]):=by
 refine zl zq (N:=0) ?_;rw [yba];unfold okM at h;rw [ph,ph] at h;obtain ⟨⟨h1,h2⟩,h3⟩:=h;have h3:=pc h3;obtain ⟨o,ho,hi,hb⟩:=zkp s ks 0 h1;rw [ho,←hi];cases o with
 | none=>rfl
 | some i=>
  have hi:=hb i rfl;obtain ⟨y,hy⟩:∃ y,vs[i]?=some y:=⟨vs[i]'(by omega),pr (by omega)⟩
  have:=(List.all_eq_true.1 h2) y (po hy);show (ze vs i λ y=>_)=_;unfold ze;rw [hy];cases y <;> simp only [zxg] at this <;> try cases this
  rename_i k n;have:=pc this;subst this;rfl
theorem zwp:knows cx zpd.S (zh cx):=zj zq λ a q b hd h hb=>by
 obtain ⟨x,y,z,rfl⟩:=zub h;obtain ⟨h1,hb⟩:=zc hb;cases hb;exact m79 _ _ _ _ _ _ h1
theorem z7p(ks vs:List D)(a b c:D)(l:List (List UInt8))(hl:yi l=true)(h:okM ks vs=true):zh cx 106 [.d (.sl 1 (l.map .str)),.mfunc 79 [.agg [.map ks vs,a,b,c]]] []=some (.ret (mkI (y4 (wn ks) l)),[]):=by
 refine zl zwp (N:=l.length+1) ?_;rw [z7d,pf]
 have h:=zby (λ k i=>LP cx zpd (l.length+1) 106 0 2 k [(0,.d (.sl 1 (l.map .str))),(1,.mfunc 79 [.agg [.map ks vs,a,b,c]]),(7,.d (.int .i64 (l.length:Int))),(8,.d (.int .i64 i))] [] (AK cx zpd (l.length+1) 106 0 2 (EK cx 106 0)))
  l (wn ks) (λ j=>some (Out.ret (V.d (D.int .i64 j)),[])) (some (Out.ret (V.d (D.int .i64 (Int.negSucc 0))),[])) (y9 hl)
  (λ k j x hj hx=>by
   rw [z2w,pf,yq hj,xi,qg,pm,hx];show zd (z0k ((ks,vs),x)) _=_;unfold z0k;simp only [h];rfl) (λ k=>by rw [z2w,x6,cond_false]) (Nat.lt_succ_self _)
 refine h.trans ?_;unfold y4;cases yl (wn ks) l 0 <;> rfl
theorem yam(ks vs:List D)(a b c:D)(l:List (List UInt8))(hl:yi l=true)(h:okM ks vs=true):zh cx 78 [.d (.sl 1 (l.map .str)),.mfunc 79 [.agg [.map ks vs,a,b,c]]] []=some (.ret (mkB (l.any (wn ks))),[]):=by
 have hk:knows cx z47.S (zh cx):=zj zq λ a q b hd h hb=>by
  obtain ⟨x,y,z,rfl⟩:=zlt h;obtain ⟨h1,hb⟩:=zc hb;obtain ⟨l,hl,hb⟩:=zb hb;cases hb;obtain ⟨h2,h3⟩:=zdi hl;rw [h2];exact z7p _ _ _ _ _ _ h3 h1
 refine zl hk (N:=0) ?_;rw [z92];show zd (zu3 ((ks,vs),.sl 1 (l.map .str))) _=_;unfold zu3;simp only [h];rw [zic hl];show some (Out.ret (mkB (decide ((0:Int)≤y4 (wn ks) l))),[])=_;rw [zhg]
theorem zzz:knows cx K42.S (zh cx):=zj (zqp 60) λ a q b hd h hb=>by
 obtain ⟨x,y,z,rfl⟩:=zlt h;obtain ⟨h1,hb⟩:=zc hb;obtain ⟨l,hl,hb⟩:=zb hb;cases hb;obtain ⟨h2,h3⟩:=zdi hl;rw [h2];exact yam _ _ _ _ _ _ h3 h1
theorem m42(s:List UInt8):zh cx 42 [.d xT,.d (.sl 1 [.str s]),.d (.sl 1 [.str [120]]),.d (.sl 1 [])] []=some (.ret (z3j (wn wK s)),[]):=by
 refine zl zzz (N:=5) ?_;rw [ybh];have:[s].any (wn wK)=wn wK s:=by simp
 rw [this];cases wn wK s <;> rfl
def Sp.word(s:List UInt8):Bool:=wn wK s
theorem yap(s:List UInt8):zh cx 130 [.d (.str s)] []=some (.ret (mkB (Sp.word s)),[]):=by
 have hk:knows cx yae.S (zh cx):=zj zq λ a q b hd h hb=>by
  obtain rfl:=zwa h;obtain ⟨s,hs,hb⟩:=zb hb;obtain ⟨h1,hb⟩:=zc hb;cases hb;rw [ph,ph] at h1;rw [znf h1.1.1,znf h1.1.2,znf h1.2,zuu hs];exact m42 s
 refine zl hk (N:=5) ?_;rw [z97];unfold z5c;rw [zng,zng,zng];show some (Out.ret (mkB _),[])=_;unfold Sp.word;cases wn wK s <;> rfl
def psN(L:List D):St:=[(0,.val 1 (.sl 1 L 1)),(1,.tok L.length)]
def pdN:St→Option (List D×Nat) | [(0,.val 1 (.sl 1 L 1)),(1,.tok n)]=>some (L,n) | _=>none
def znz(a:List V)(σ:St):Option ((D×D)×(List D×Nat)):=match a with | [.d t,.d b,.func 89 [.ptr 0 0]]=>zd (pdN σ) λ q=>some ((t,b),q) | _=>none
def zv6(a:List V)(σ:St):Option (List UInt8×(List D×Nat)):=match a with | [.d (.str s),.ptr 0 0]=>zd (pdN σ) λ q=>some (s,q) | _=>none
def stK{α:Type}(f:Nat)(dec:List V→St→Option (α×(List D×Nat)))(sp:α→List D→Option (List D))(S:CK R1):CK R1:=
 more f dec (λ K q=>zd (sp q.1 q.2.1) λ L'=>za (Nat.beq q.2.2 q.2.1.length) (K (.ret (.tup [])) (psN L')))
  (λ K q=>by
   simp only;rw [ww];congr 1;funext s;simp only [za,xz];rfl) S
theorem zs8{σ:St}{L:List D}{n:Nat}(h:pdN σ=some (L,n))(hn:Nat.beq n L.length=true):σ=psN L:=by
 unfold pdN at h;split at h
 ·cases h;obtain rfl:=pg hn;rfl
 ·cases h
theorem zpk{α:Type}{f:Nat}{dec:List V→St→Option (α×(List D×Nat))}{sp:α→List D→Option (List D)}{S:CK R1}(hS:knows cx S.S (zh cx))
  (hf:∀ a σ q L n L',dec a σ=some (q,(L,n))→Nat.beq n L.length=true→sp q L=some L'→zh cx f a σ=some (.ret (.tup []),psN L')):knows cx (stK f dec sp S).S (zh cx):=
 xp hS λ a σ q r hd h=>by
  obtain ⟨q,L,n⟩:=q;obtain ⟨s,hs,h⟩:=zb h;obtain ⟨h1,h⟩:=zc h;cases h;exact hf a σ q L n s hd h1 hs
def zwb:List V→Option (D×D) | [.d (.sl 1 [x,y])]=>some (x,y) | _=>none
def vl(sp:D→D→List D→Option (List D))(p:D→List UInt8→Option Bool)(w:List UInt8→Bool)(c:D→D→Option (List D))(a:List UInt8→List D→Option (List D)):CK R1:=
 stK 88 znz (λ q=>sp q.1 q.2) (stK 89 zv6 a (zy 90 zh1 (λ q=>p q.1 q.2) mkB (zy 130 zb2 (λ s=>some (w s)) mkB (zy 131 zwb (λ q=>c q.1 q.2) (λ x=>.d (.sl 1 x)) (CK.plain zo)))))
def z99(p:D→List UInt8→Option Bool):CK R1:=zy 90 zh1 (λ q=>p q.1 q.2) mkB (CK.plain zo)
def zpe(sp:D→D→List D→Option (List D)):CK R1:=stK 88 znz (λ q=>sp q.1 q.2) (CK.plain zo)
theorem z7c(sp:D→D→List D→Option (List D))(p:D→List UInt8→Option Bool)(w:List UInt8→Bool)(c:D→D→Option (List D))(a:List UInt8→List D→Option (List D))(n:Nat)(b L:List D)(nm:List UInt8)(nms:List (List UInt8))(pl:Int):zk cx (vl sp p w c a) n 88 [.d (.agg [.int .i64 1,.str nm,.sl 5 (T.ds []),.sl 1 (nms.map .str),.int .i64 pl]),.d (.sl 1 b),.func 89 [.ptr 0 0]] (psN L)=zd (p (D.sl 1 b,nm).fst (D.sl 1 b,nm).snd) λ b=>bif !b then za (decide (nm.length≤big)) (bif !w nm then zd (a (nm,L,L.length).fst (nm,L,L.length).snd.fst) λ L'=>za ((nm,L,L.length).snd.snd.beq (nm,L,L.length).snd.fst.length) (some (Out.ret (V.tup []),[(0,Ob.val 1 (V.sl 1 L' 1)),(1,Ob.tok L'.length)])) else some (Out.ret (V.tup []),[(0,Ob.val 1 (V.sl 1 L 1)),(1,Ob.tok L.length)])) else some (Out.ret (V.tup []),[(0,Ob.val 1 (V.sl 1 L 1)),(1,Ob.tok L.length)]):=by kernel_rfl
theorem z7b(sp:D→D→List D→Option (List D))(p:D→List UInt8→Option Bool)(w:List UInt8→Bool)(c:D→D→Option (List D))(a:List UInt8→List D→Option (List D))(n:Nat)(b L:List D)(nm:List UInt8)(nms:List (List UInt8))(pl:Int)(k1:Int)(m1:List UInt8)(l1:List T)(n1:List (List UInt8))(p1:Int):zk cx (vl sp p w c a) n 88 [.d (.agg [.int .i64 2,.str nm,.sl 5 (T.ds [(T.mk k1 m1 l1 n1 p1)]),.sl 1 (nms.map .str),.int .i64 pl]),.d (.sl 1 b),.func 89 [.ptr 0 0]] (psN L)=zd (c (D.sl 1 b,D.sl 1 (List.map D.str nms)).fst (D.sl 1 b,D.sl 1 (List.map D.str nms)).snd) λ b=>zd (sp ((D.agg [D.int .i64 k1,D.str m1,D.sl 5 (T.ds l1),D.sl 1 (List.map D.str n1),D.int .i64 p1],D.sl 1 b),L,L.length).fst.fst ((D.agg [D.int .i64 k1,D.str m1,D.sl 5 (T.ds l1),D.sl 1 (List.map D.str n1),D.int .i64 p1],D.sl 1 b),L,L.length).fst.snd ((D.agg [D.int .i64 k1,D.str m1,D.sl 5 (T.ds l1),D.sl 1 (List.map D.str n1),D.int .i64 p1],D.sl 1 b),L,L.length).snd.fst) λ L'=>za (((D.agg [D.int .i64 k1,D.str m1,D.sl 5 (T.ds l1),D.sl 1 (List.map D.str n1),D.int .i64 p1],D.sl 1 b),L,L.length).snd.snd.beq ((D.agg [D.int .i64 k1,D.str m1,D.sl 5 (T.ds l1),D.sl 1 (List.map D.str n1),D.int .i64 p1],D.sl 1 b),L,L.length).snd.fst.length) (some (Out.ret (V.tup []),[(0,Ob.val 1 (V.sl 1 L' 1)),(1,Ob.tok L'.length)])):=by kernel_rfl
theorem z69(sp:D→D→List D→Option (List D))(p:D→List UInt8→Option Bool)(w:List UInt8→Bool)(c:D→D→Option (List D))(a:List UInt8→List D→Option (List D))(n:Nat)(b L:List D)(nm:List UInt8)(nms:List (List UInt8))(pl:Int)(k1:Int)(m1:List UInt8)(l1:List T)(n1:List (List UInt8))(p1:Int)(k2:Int)(m2:List UInt8)(l2:List T)(n2:List (List UInt8))(p2:Int):zk cx (vl sp p w c a) n 88 [.d (.agg [.int .i64 4,.str nm,.sl 5 (T.ds [(T.mk k1 m1 l1 n1 p1),(T.mk k2 m2 l2 n2 p2)]),.sl 1 (nms.map .str),.int .i64 pl]),.d (.sl 1 b),.func 89 [.ptr 0 0]] (psN L)=zd (sp ((D.agg [D.int .i64 k1,D.str m1,D.sl 5 (T.ds l1),D.sl 1 (List.map D.str n1),D.int .i64 p1],D.sl 1 b),L,L.length).fst.fst ((D.agg [D.int .i64 k1,D.str m1,D.sl 5 (T.ds l1),D.sl 1 (List.map D.str n1),D.int .i64 p1],D.sl 1 b),L,L.length).fst.snd ((D.agg [D.int .i64 k1,D.str m1,D.sl 5 (T.ds l1),D.sl 1 (List.map D.str n1),D.int .i64 p1],D.sl 1 b),L,L.length).snd.fst) λ L'=>za (((D.agg [D.int .i64 k1,D.str m1,D.sl 5 (T.ds l1),D.sl 1 (List.map D.str n1),D.int .i64 p1],D.sl 1 b),L,L.length).snd.snd.beq ((D.agg [D.int .i64 k1,D.str m1,D.sl 5 (T.ds l1),D.sl 1 (List.map D.str n1),D.int .i64 p1],D.sl 1 b),L,L.length).snd.fst.length) (zd (c (D.sl 1 b,D.sl 1 (List.map D.str nms)).fst (D.sl 1 b,D.sl 1 (List.map D.str nms)).snd) λ b=>zd (sp ((D.agg [D.int .i64 k2,D.str m2,D.sl 5 (T.ds l2),D.sl 1 (List.map D.str n2),D.int .i64 p2],D.sl 1 b),L',L'.length).fst.fst ((D.agg [D.int .i64 k2,D.str m2,D.sl 5 (T.ds l2),D.sl 1 (List.map D.str n2),D.int .i64 p2],D.sl 1 b),L',L'.length).fst.snd ((D.agg [D.int .i64 k2,D.str m2,D.sl 5 (T.ds l2),D.sl 1 (List.map D.str n2),D.int .i64 p2],D.sl 1 b),L',L'.length).snd.fst) λ L'_1=>za (((D.agg [D.int .i64 k2,D.str m2,D.sl 5 (T.ds l2),D.sl 1 (List.map D.str n2),D.int .i64 p2],D.sl 1 b),L',L'.length).snd.snd.beq ((D.agg [D.int .i64 k2,D.str m2,D.sl 5 (T.ds l2),D.sl 1 (List.map D.str n2),D.int .i64 p2],D.sl 1 b),L',L'.length).snd.fst.length) (some (Out.ret (V.tup []),[(0,Ob.val 1 (V.sl 1 L'_1 1)),(1,Ob.tok L'_1.length)]))):=by kernel_rfl
theorem z68(sp:D→D→List D→Option (List D))(p:D→List UInt8→Option Bool)(w:List UInt8→Bool)(c:D→D→Option (List D))(a:List UInt8→List D→Option (List D))(n:Nat)(b L:List D)(nm:List UInt8)(nms:List (List UInt8))(pl:Int)(k1:Int)(m1:List UInt8)(l1:List T)(n1:List (List UInt8))(p1:Int)(k2:Int)(m2:List UInt8)(l2:List T)(n2:List (List UInt8))(p2:Int):zk cx (vl sp p w c a) n 88 [.d (.agg [.int .i64 5,.str nm,.sl 5 (T.ds [(T.mk k1 m1 l1 n1 p1),(T.mk k2 m2 l2 n2 p2)]),.sl 1 (nms.map .str),.int .i64 pl]),.d (.sl 1 b),.func 89 [.ptr 0 0]] (psN L)=zd (sp ((D.agg [D.int .i64 k1,D.str m1,D.sl 5 (T.ds l1),D.sl 1 (List.map D.str n1),D.int .i64 p1],D.sl 1 b),L,L.length).fst.fst ((D.agg [D.int .i64 k1,D.str m1,D.sl 5 (T.ds l1),D.sl 1 (List.map D.str n1),D.int .i64 p1],D.sl 1 b),L,L.length).fst.snd ((D.agg [D.int .i64 k1,D.str m1,D.sl 5 (T.ds l1),D.sl 1 (List.map D.str n1),D.int .i64 p1],D.sl 1 b),L,L.length).snd.fst) λ L'=>za (((D.agg [D.int .i64 k1,D.str m1,D.sl 5 (T.ds l1),D.sl 1 (List.map D.str n1),D.int .i64 p1],D.sl 1 b),L,L.length).snd.snd.beq ((D.agg [D.int .i64 k1,D.str m1,D.sl 5 (T.ds l1),D.sl 1 (List.map D.str n1),D.int .i64 p1],D.sl 1 b),L,L.length).snd.fst.length) (zd (c (D.sl 1 b,D.sl 1 (List.map D.str nms)).fst (D.sl 1 b,D.sl 1 (List.map D.str nms)).snd) λ b=>zd (sp ((D.agg [D.int .i64 k2,D.str m2,D.sl 5 (T.ds l2),D.sl 1 (List.map D.str n2),D.int .i64 p2],D.sl 1 b),L',L'.length).fst.fst ((D.agg [D.int .i64 k2,D.str m2,D.sl 5 (T.ds l2),D.sl 1 (List.map D.str n2),D.int .i64 p2],D.sl 1 b),L',L'.length).fst.snd ((D.agg [D.int .i64 k2,D.str m2,D.sl 5 (T.ds l2),D.sl 1 (List.map D.str n2),D.int .i64 p2],D.sl 1 b),L',L'.length).snd.fst) λ L'_1=>za (((D.agg [D.int .i64 k2,D.str m2,D.sl 5 (T.ds l2),D.sl 1 (List.map D.str n2),D.int .i64 p2],D.sl 1 b),L',L'.length).snd.snd.beq ((D.agg [D.int .i64 k2,D.str m2,D.sl 5 (T.ds l2),D.sl 1 (List.map D.str n2),D.int .i64 p2],D.sl 1 b),L',L'.length).snd.fst.length) (some (Out.ret (V.tup []),[(0,Ob.val 1 (V.sl 1 L'_1 1)),(1,Ob.tok L'_1.length)]))):=by kernel_rfl
theorem z66(sp:D→D→List D→Option (List D))(p:D→List UInt8→Option Bool)(w:List UInt8→Bool)(c:D→D→Option (List D))(a:List UInt8→List D→Option (List D))(n:Nat)(b L:List D)(nm:List UInt8)(nms:List (List UInt8))(pl:Int)(k1:Int)(m1:List UInt8)(l1:List T)(n1:List (List UInt8))(p1:Int)(k2:Int)(m2:List UInt8)(l2:List T)(n2:List (List UInt8))(p2:Int):zk cx (vl sp p w c a) n 88 [.d (.agg [.int .i64 7,.str nm,.sl 5 (T.ds [(T.mk k1 m1 l1 n1 p1),(T.mk k2 m2 l2 n2 p2)]),.sl 1 (nms.map .str),.int .i64 pl]),.d (.sl 1 b),.func 89 [.ptr 0 0]] (psN L)=zd (sp ((D.agg [D.int .i64 k1,D.str m1,D.sl 5 (T.ds l1),D.sl 1 (List.map D.str n1),D.int .i64 p1],D.sl 1 b),L,L.length).fst.fst ((D.agg [D.int .i64 k1,D.str m1,D.sl 5 (T.ds l1),D.sl 1 (List.map D.str n1),D.int .i64 p1],D.sl 1 b),L,L.length).fst.snd ((D.agg [D.int .i64 k1,D.str m1,D.sl 5 (T.ds l1),D.sl 1 (List.map D.str n1),D.int .i64 p1],D.sl 1 b),L,L.length).snd.fst) λ L'=>za (((D.agg [D.int .i64 k1,D.str m1,D.sl 5 (T.ds l1),D.sl 1 (List.map D.str n1),D.int .i64 p1],D.sl 1 b),L,L.length).snd.snd.beq ((D.agg [D.int .i64 k1,D.str m1,D.sl 5 (T.ds l1),D.sl 1 (List.map D.str n1),D.int .i64 p1],D.sl 1 b),L,L.length).snd.fst.length) (some (Out.ret (V.tup []),[(0,Ob.val 1 (V.sl 1 L' 1)),(1,Ob.tok L'.length)])):=by kernel_rfl
theorem z4e(sp:D→D→List D→Option (List D))(p:D→List UInt8→Option Bool)(w:List UInt8→Bool)(c:D→D→Option (List D))(a:List UInt8→List D→Option (List D))(n:Nat)(b L:List D)(nm:List UInt8)(nms:List (List UInt8))(pl:Int)(x:T)(kids:List T):zk cx (vl sp p w c a) n 88 [.d (.agg [.int .i64 11,.str nm,.sl 5 (T.ds (x::kids)),.sl 1 (nms.map .str),.int .i64 pl]),.d (.sl 1 b),.func 89 [.ptr 0 0]] (psN L)=za (decide ((1:Int)≤(↑(x.d::T.ds kids).length:Int))) (LP cx (vl sp p w c a) n 88 2 20 n [(1,V.d (D.sl 1 b)),(2,V.func 89 [V.ptr 0 0]),(88,V.d (D.sl 5 (List.drop (1:Int).toNat (List.take (x.d::T.ds kids).length (x.d::T.ds kids))))),(89,V.d (D.int .i64 (↑(List.drop (1:Int).toNat (List.take (x.d::T.ds kids).length (x.d::T.ds kids))).length:Int))),(90,V.d (D.int .i64 (0:Int)))] [(0,Ob.val 1 (V.sl 1 L 1)),(1,Ob.tok L.length)] (AK cx (vl sp p w c a) n 88 2 20 (EK cx 88 2))):=by kernel_rfl
theorem z7a(sp:D→D→List D→Option (List D))(p:D→List UInt8→Option Bool)(w:List UInt8→Bool)(c:D→D→Option (List D))(a:List UInt8→List D→Option (List D))(n:Nat)(b L:List D)(nm:List UInt8)(nms:List (List UInt8))(pl:Int)(kids:List T):zk cx (vl sp p w c a) n 88 [.d (.agg [.int .i64 3,.str nm,.sl 5 (T.ds kids),.sl 1 (nms.map .str),.int .i64 pl]),.d (.sl 1 b),.func 89 [.ptr 0 0]] (psN L)=LP cx (vl sp p w c a) n 88 2 3 n [(1,V.d (D.sl 1 b)),(2,V.func 89 [V.ptr 0 0]),(13,V.d (D.sl 5 (T.ds kids))),(14,V.d (D.int .i64 (↑(T.ds kids).length:Int))),(15,V.d (D.int .i64 (0:Int)))] [(0,Ob.val 1 (V.sl 1 L 1)),(1,Ob.tok L.length)] (AK cx (vl sp p w c a) n 88 2 3 (EK cx 88 2)):=by kernel_rfl
theorem z67(sp:D→D→List D→Option (List D))(p:D→List UInt8→Option Bool)(w:List UInt8→Bool)(c:D→D→Option (List D))(a:List UInt8→List D→Option (List D))(n:Nat)(b L:List D)(nm:List UInt8)(nms:List (List UInt8))(pl:Int)(kids:List T):zk cx (vl sp p w c a) n 88 [.d (.agg [.int .i64 6,.str nm,.sl 5 (T.ds kids),.sl 1 (nms.map .str),.int .i64 pl]),.d (.sl 1 b),.func 89 [.ptr 0 0]] (psN L)=LP cx (vl sp p w c a) n 88 2 3 n [(1,V.d (D.sl 1 b)),(2,V.func 89 [V.ptr 0 0]),(13,V.d (D.sl 5 (T.ds kids))),(14,V.d (D.int .i64 (↑(T.ds kids).length:Int))),(15,V.d (D.int .i64 (0:Int)))] [(0,Ob.val 1 (V.sl 1 L 1)),(1,Ob.tok L.length)] (AK cx (vl sp p w c a) n 88 2 3 (EK cx 88 2)):=by kernel_rfl
theorem z65(sp:D→D→List D→Option (List D))(p:D→List UInt8→Option Bool)(w:List UInt8→Bool)(c:D→D→Option (List D))(a:List UInt8→List D→Option (List D))(n:Nat)(b L:List D)(nm:List UInt8)(nms:List (List UInt8))(pl:Int)(kids:List T):zk cx (vl sp p w c a) n 88 [.d (.agg [.int .i64 8,.str nm,.sl 5 (T.ds kids),.sl 1 (nms.map .str),.int .i64 pl]),.d (.sl 1 b),.func 89 [.ptr 0 0]] (psN L)=LP cx (vl sp p w c a) n 88 2 3 n [(1,V.d (D.sl 1 b)),(2,V.func 89 [V.ptr 0 0]),(13,V.d (D.sl 5 (T.ds kids))),(14,V.d (D.int .i64 (↑(T.ds kids).length:Int))),(15,V.d (D.int .i64 (0:Int)))] [(0,Ob.val 1 (V.sl 1 L 1)),(1,Ob.tok L.length)] (AK cx (vl sp p w c a) n 88 2 3 (EK cx 88 2)):=by kernel_rfl
theorem z64(sp:D→D→List D→Option (List D))(p:D→List UInt8→Option Bool)(w:List UInt8→Bool)(c:D→D→Option (List D))(a:List UInt8→List D→Option (List D))(n:Nat)(b L:List D)(nm:List UInt8)(nms:List (List UInt8))(pl:Int)(kids:List T):zk cx (vl sp p w c a) n 88 [.d (.agg [.int .i64 9,.str nm,.sl 5 (T.ds kids),.sl 1 (nms.map .str),.int .i64 pl]),.d (.sl 1 b),.func 89 [.ptr 0 0]] (psN L)=LP cx (vl sp p w c a) n 88 2 3 n [(1,V.d (D.sl 1 b)),(2,V.func 89 [V.ptr 0 0]),(13,V.d (D.sl 5 (T.ds kids))),(14,V.d (D.int .i64 (↑(T.ds kids).length:Int))),(15,V.d (D.int .i64 (0:Int)))] [(0,Ob.val 1 (V.sl 1 L 1)),(1,Ob.tok L.length)] (AK cx (vl sp p w c a) n 88 2 3 (EK cx 88 2)):=by kernel_rfl
theorem z4f(sp:D→D→List D→Option (List D))(p:D→List UInt8→Option Bool)(w:List UInt8→Bool)(c:D→D→Option (List D))(a:List UInt8→List D→Option (List D))(n:Nat)(b L:List D)(nm:List UInt8)(nms:List (List UInt8))(pl:Int)(kids:List T):zk cx (vl sp p w c a) n 88 [.d (.agg [.int .i64 10,.str nm,.sl 5 (T.ds kids),.sl 1 (nms.map .str),.int .i64 pl]),.d (.sl 1 b),.func 89 [.ptr 0 0]] (psN L)=LP cx (vl sp p w c a) n 88 2 3 n [(1,V.d (D.sl 1 b)),(2,V.func 89 [V.ptr 0 0]),(13,V.d (D.sl 5 (T.ds kids))),(14,V.d (D.int .i64 (↑(T.ds kids).length:Int))),(15,V.d (D.int .i64 (0:Int)))] [(0,Ob.val 1 (V.sl 1 L 1)),(1,Ob.tok L.length)] (AK cx (vl sp p w c a) n 88 2 3 (EK cx 88 2)):=by kernel_rfl
theorem ya8(sp:D→D→List D→Option (List D))(p:D→List UInt8→Option Bool)(w:List UInt8→Bool)(c:D→D→Option (List D))(a:List UInt8→List D→Option (List D))(n k:Nat)(b L:List D)(kids:List T)(i:Int):LP cx (vl sp p w c a) n 88 2 3 (k+1) [(1,V.d (D.sl 1 b)),(2,V.func 89 [V.ptr 0 0]),(13,V.d (D.sl 5 (T.ds kids))),(14,V.d (D.int .i64 (kids.length:Int))),(15,V.d (D.int .i64 i))] [(0,Ob.val 1 (V.sl 1 L 1)),(1,Ob.tok L.length)] (AK cx (vl sp p w c a) n 88 2 3 (EK cx 88 2))=bif decide (i<(↑kids.length:Int)) then za (decide (0≤i)&&decide (i<(↑(T.ds kids).length:Int))) (ze (T.ds kids) i.toNat λ y=>ze y.cells 0 λ c_1=>ze y.cells 1 λ c_2=>ze y.cells 2 λ c_3=>ze y.cells 3 λ c_4=>ze y.cells 4 λ c_5=>zd (sp ((D.agg [c_1,c_2,c_3,c_4,c_5],D.sl 1 b),L,L.length).fst.fst ((D.agg [c_1,c_2,c_3,c_4,c_5],D.sl 1 b),L,L.length).fst.snd ((D.agg [c_1,c_2,c_3,c_4,c_5],D.sl 1 b),L,L.length).snd.fst) λ L'=>za (((D.agg [c_1,c_2,c_3,c_4,c_5],D.sl 1 b),L,L.length).snd.snd.beq ((D.agg [c_1,c_2,c_3,c_4,c_5],D.sl 1 b),L,L.length).snd.fst.length) (LP cx (vl sp p w c a) n 88 2 3 k [(1,V.d (D.sl 1 b)),(2,V.func 89 [V.ptr 0 0]),(13,V.d (D.sl 5 (T.ds kids))),(14,V.d (D.int .i64 (↑kids.length:Int))),(15,V.d (D.int .i64 (IntKind.i64.wrap (i+(1:Int)))))] [(0,Ob.val 1 (V.sl 1 L' 1)),(1,Ob.tok L'.length)] (AK cx (vl sp p w c a) n 88 2 3 (EK cx 88 2)))) else some (Out.ret (V.tup []),[(0,Ob.val 1 (V.sl 1 L 1)),(1,Ob.tok L.length)]):=by kernel_rfl
theorem z9p(sp:D→D→List D→Option (List D))(p:D→List UInt8→Option Bool)(w:List UInt8→Bool)(c:D→D→Option (List D))(a:List UInt8→List D→Option (List D))(n k:Nat)(b L:List D)(kids:List T)(i:Int):LP cx (vl sp p w c a) n 88 2 20 (k+1) [(1,V.d (D.sl 1 b)),(2,V.func 89 [V.ptr 0 0]),(88,V.d (D.sl 5 (T.ds kids))),(89,V.d (D.int .i64 (kids.length:Int))),(90,V.d (D.int .i64 i))] [(0,Ob.val 1 (V.sl 1 L 1)),(1,Ob.tok L.length)] (AK cx (vl sp p w c a) n 88 2 20 (EK cx 88 2))=bif decide (i<(↑kids.length:Int)) then za (decide (0≤i)&&decide (i<(↑(T.ds kids).length:Int))) (ze (T.ds kids) i.toNat λ y=>ze y.cells 0 λ c_1=>ze y.cells 1 λ c_2=>ze y.cells 2 λ c_3=>ze y.cells 3 λ c_4=>ze y.cells 4 λ c_5=>zd (sp ((D.agg [c_1,c_2,c_3,c_4,c_5],D.sl 1 b),L,L.length).fst.fst ((D.agg [c_1,c_2,c_3,c_4,c_5],D.sl 1 b),L,L.length).fst.snd ((D.agg [c_1,c_2,c_3,c_4,c_5],D.sl 1 b),L,L.length).snd.fst) λ L'=>za (((D.agg [c_1,c_2,c_3,c_4,c_5],D.sl 1 b),L,L.length).snd.snd.beq ((D.agg [c_1,c_2,c_3,c_4,c_5],D.sl 1 b),L,L.length).snd.fst.length) (LP cx (vl sp p w c a) n 88 2 20 k [(1,V.d (D.sl 1 b)),(2,V.func 89 [V.ptr 0 0]),(88,V.d (D.sl 5 (T.ds kids))),(89,V.d (D.int .i64 (↑kids.length:Int))),(90,V.d (D.int .i64 (IntKind.i64.wrap (i+(1:Int)))))] [(0,Ob.val 1 (V.sl 1 L' 1)),(1,Ob.tok L'.length)] (AK cx (vl sp p w c a) n 88 2 20 (EK cx 88 2)))) else some (Out.ret (V.tup []),[(0,Ob.val 1 (V.sl 1 L 1)),(1,Ob.tok L.length)]):=by kernel_rfl
theorem z90(p:D→List UInt8→Option Bool)(n:Nat)(L:List D)(s:List UInt8):zk cx (z99 p) n 89 [.d (.str s),.ptr 0 0] (psN L)=zd (p (D.sl 1 L,s).fst (D.sl 1 L,s).snd) λ b=>bif !b then za (decide (L.length=L.length)&&decide (L.length+[D.str s].length≤4294967296)) (some (Out.ret (V.tup []),[(0,Ob.val 1 (V.sl 1 (L++[D.str s]) 1)),(1,Ob.tok (L.length+[D.str s].length))])) else some (Out.ret (V.tup []),[(0,Ob.val 1 (V.sl 1 L 1)),(1,Ob.tok L.length)]):=by kernel_rfl
theorem ybb(sp:D→D→List D→Option (List D))(n:Nat)(l:List T):zk cx (zpe sp) n 52 [.d (.sl 5 (T.ds l))] []=LP cx (zpe sp) n 52 0 3 n [(3,V.ptr 3 0),(6,V.d (D.sl 5 (T.ds l))),(7,V.d (D.int .i64 (↑(T.ds l).length:Int))),(8,V.d (D.int .i64 (0:Int)))] [(3,Ob.val 1 (V.sl 1 [] 20)),(20,Ob.tok 0)] (AK cx (zpe sp) n 52 0 3 (EK cx 52 0)):=by kernel_rfl
theorem z9s(sp:D→D→List D→Option (List D))(n k:Nat)(l:List T)(L:List D)(i:Int):LP cx (zpe sp) n 52 0 3 (k+1) [(3,V.ptr 3 0),(6,V.d (D.sl 5 (T.ds l))),(7,V.d (D.int .i64 (l.length:Int))),(8,V.d (D.int .i64 i))] [(3,Ob.val 1 (V.sl 1 L 20)),(20,Ob.tok L.length)] (AK cx (zpe sp) n 52 0 3 (EK cx 52 0))=bif decide (i<(↑l.length:Int)) then za (decide (0≤i)&&decide (i<(↑(T.ds l).length:Int))) (ze (T.ds l) i.toNat λ y=>ze y.cells 0 λ c=>ze y.cells 1 λ c_1=>ze y.cells 2 λ c_2=>ze y.cells 3 λ c_3=>ze y.cells 4 λ c_4=>zd (sp ((D.agg [c,c_1,c_2,c_3,c_4],D.sl 1 []),L,L.length).fst.fst ((D.agg [c,c_1,c_2,c_3,c_4],D.sl 1 []),L,L.length).fst.snd ((D.agg [c,c_1,c_2,c_3,c_4],D.sl 1 []),L,L.length).snd.fst) λ L'=>za (((D.agg [c,c_1,c_2,c_3,c_4],D.sl 1 []),L,L.length).snd.snd.beq ((D.agg [c,c_1,c_2,c_3,c_4],D.sl 1 []),L,L.length).snd.fst.length) (LP cx (zpe sp) n 52 0 3 k [(3,V.ptr 3 0),(6,V.d (D.sl 5 (T.ds l))),(7,V.d (D.int .i64 (↑l.length:Int))),(8,V.d (D.int .i64 (IntKind.i64.wrap (i+(1:Int)))))] [(3,Ob.val 1 (V.sl 1 L' 20)),(20,Ob.tok L'.length)] (AK cx (zpe sp) n 52 0 3 (EK cx 52 0)))) else some (Out.ret (V.d (D.sl 1 L)),[]):=by kernel_rfl
theorem z9z(p:D→List UInt8→Option Int)(n:Nat)(l:List D)(s:List UInt8):zk cx (zy 132 zh1 (λ q=>p q.1 q.2) mkI (CK.plain zo)) n 90 [.d (.sl 1 l),.d (.str s)] []=zd (p (.sl 1 l) s) λ b=>some (.ret (.d (.bool (decide ((0:Int)≤b)))),[]):=by kernel_rfl
theorem yak(l:List (List UInt8))(s:List UInt8)(hl:yi l=true):zh cx 90 [.d (.sl 1 (l.map .str)),.d (.str s)] []=some (.ret (mkB (Sp.mem s l)),[]):=by
 have hk:knows cx (zy 132 zh1 (λ q=>(λ (x:D) s=>zd (zcr x) λ l=>some (y4 (λ x=>decide (s=x)) l)) q.1 q.2) mkI (CK.plain zo)).S (zh cx):=zj zq λ a q b hd h hb=>by
  obtain rfl:=zin h;obtain ⟨l,hl,hb⟩:=zb hb;cases hb;obtain ⟨h1,h2⟩:=zdi hl;rw [h1];exact yan l q.2 h2
 refine zl hk (N:=0) ?_;refine (z9z (λ (x:D) s=>zd (zcr x) λ l=>some (y4 (λ x=>decide (s=x)) l)) 0 _ s).trans ?_;rw [zic hl];show some (Out.ret (mkB (decide ((0:Int)≤y4 (λ x=>decide (s=x)) l))),[])=_;rw [zhg];have:(l.any λ x=>decide (s=x))=Sp.mem s l:=by
  unfold Sp.mem;congr 1;funext x;by_cases h:s=x
  ·subst h; rfl
  ·rw [pb h,pb (λ e=>h e.symm)]
 rw [this]
def p90(x:D)(s:List UInt8):Option Bool:=zd (zcr x) λ l=>some (Sp.mem s l)
theorem zps{f:List V}{q:D×List UInt8}{b:Bool}(h:zh1 f=some q)(hb:p90 q.1 q.2=some b):zh cx 90 f []=some (.ret (mkB b),[]):=by
 obtain rfl:=zin h;obtain ⟨l,hl,hb⟩:=zb hb;cases hb;obtain ⟨h1,h2⟩:=zdi hl;rw [h1];exact yak l q.2 h2
theorem m89(l:List (List UInt8))(s:List UInt8)(hl:l.length+1<4294967296):zh cx 89 [.d (.str s),.ptr 0 0] (psN (l.map .str))=some (.ret (.tup []),psN ((Sp.put l s).map .str)):=by
 have hk:knows cx (z99 p90).S (zh cx):=zj zq λ a q b hd h hb=>zps h hb;refine zl hk (N:=0) ?_;rw [z90];show zd (p90 (.sl 1 (l.map .str)) s) _=_;unfold p90;rw [zic (pa (by omega))]
 unfold Sp.put;show (bif !Sp.mem s l then _ else _)=_;cases Sp.mem s l
 ·simp only [Bool.not_false,cond_true,cond_false];rw [pa (p:=(l.map D.str).length+[D.str s].length≤4294967296) (by simp only [pf,List.length_cons,List.length_nil]; omega)]
  simp only [za,decide_true,Bool.and_self,cond_true,psN,List.map_append,List.map_cons,List.map_nil,pe]
 ·rfl
mutual
def vk:T→List (List UInt8)→List (List UInt8)→List (List UInt8)
 | .mk k nm kids nms _,b,acc=>bif decide (k=1) then (bif Sp.mem nm b||Sp.word nm then acc else Sp.put acc nm) else v7 kids k nms b 0 acc
def v7:List T→Int→List (List UInt8)→List (List UInt8)→Nat→List (List UInt8)→List (List UInt8)
 | [],_,_,_,_,acc=>acc
 | t::r,k,nms,b,i,acc=>v7 r k nms b (i+1)
   (bif (decide (k=7)&&decide (i=1))||(decide (k=11)&&decide (i=0)) then acc
    else vk t (bif decide (k=2)||(decide (i=1)&&(decide (k=4)||decide (k=5))) then b++nms else b) acc)
end
mutual
def Sp.cnt:T→Nat
 | .mk _ _ kids nms _=>1+nms.length+xg kids
def xg:List T→Nat
 | []=>0
 | t::l=>Sp.cnt t+xg l
end
theorem z3d(l:List (List UInt8))(s:List UInt8):(Sp.put l s).length≤l.length+1:=by
 unfold Sp.put;cases Sp.mem s l <;> simp
mutual
theorem zjn:∀ (t:T) (b acc:List (List UInt8)),(vk t b acc).length≤acc.length+Sp.cnt t
 | .mk k nm kids nms _,b,acc=>by
  unfold vk;have h1:=ztu kids k nms b 0 acc;have h2:=z3d acc nm;unfold Sp.cnt;cases decide (k=1)
  ·simp only [cond_false]; omega
  ·simp only [cond_true];cases Sp.mem nm b||Sp.word nm
   ·simp only [cond_false]; omega
   ·simp only [cond_true]; omega
theorem ztu:∀ (l:List T) (k:Int) (nms b:List (List UInt8)) (i:Nat) (acc:List (List UInt8)),(v7 l k nms b i acc).length≤acc.length+xg l
 | [],k,nms,b,i,acc=>by simp [v7]
 | t::r,k,nms,b,i,acc=>by
  unfold v7 xg;refine Nat.le_trans (ztu r k nms b (i+1) _) ?_;cases (decide (k=7)&&decide (i=1))||(decide (k=11)&&decide (i=0))
  ·simp only [cond_false];have:=zjn t (bif decide (k=2)||(decide (i=1)&&(decide (k=4)||decide (k=5))) then b++nms else b) acc
   omega
  ·simp only [cond_true]; omega
end
def wo(b acc:List (List UInt8))(l:List T):List (List UInt8):=l.foldl (λ a t=>vk t b a) acc
theorem z1r{k:Int}{nms b:List (List UInt8)}(h2:k ≠ 2)(h4:k ≠ 4)(h5:k ≠ 5)(h7:k ≠ 7)(h11:k ≠ 11):∀ (l:List T) (i:Nat) (acc:List (List UInt8)),v7 l k nms b i acc=wo b acc l
 | [],i,acc=>by simp [v7,wo]
 | t::r,i,acc=>by
  unfold v7;rw [pb h2,pb h4,pb h5,pb h7,pb h11];simp only [Bool.false_and,Bool.or_false,Bool.and_false,cond_false];exact z1r h2 h4 h5 h7 h11 r (i+1) _
theorem z1q{nms b:List (List UInt8)}:∀ (l:List T) (i:Nat) (acc:List (List UInt8)),0<i→v7 l 11 nms b i acc=wo b acc l
 | [],i,acc,_=>by simp [v7,wo]
 | t::r,i,acc,hi=>by
  unfold v7;rw [pb (p:=i=0) (by omega),show decide ((11:Int)=7)=false from rfl,show decide ((11:Int)=2)=false from rfl,show decide ((11:Int)=4)=false from rfl,show decide ((11:Int)=5)=false from rfl]
  simp only [Bool.false_and,Bool.or_false,Bool.and_false,cond_false];exact z1q r (i+1) _ (Nat.succ_pos _)
theorem zhh{R α S:Type}(L:Nat→Int→S→Option R)(xs:List α)(step:S→α→S)(I:Nat→S→Prop)(E:S→Option R)(hs:xs.length<4294967296)
  (H:∀ (k j:Nat) x s,j<xs.length→xs[j]?=some x→I j s→L (k+1) j s=L k (IntKind.i64.wrap ((j:Int)+1)) (step s x)∧I (j+1) (step s x)) (HE:∀ k s,L (k+1) xs.length s=E s) {s:S} (h0:I 0 s) {k:Nat} (hk:xs.length<k) :
  L k 0 s=E (xs.foldl step s):=by
 have key:∀ (d j:Nat) (k:Nat) (s:S),j+d=xs.length→d<k→I j s→L k j s=E ((xs.drop j).foldl step s):=by
  intro d
  induction d with
  | zero=>
   intro j k s hj hk hi;obtain ⟨k,rfl⟩:∃ k',k=k'+1:=⟨k - 1,by omega⟩
   obtain rfl:j=xs.length:=by omega
   rw [HE,List.drop_length]; rfl
  | succ d ih=>
   intro j k s hj hk hi;obtain ⟨k,rfl⟩:∃ k',k=k'+1:=⟨k - 1,by omega⟩
   have hlt:j<xs.length:=by omega
   obtain ⟨h1,h2⟩:=H k j xs[j] s hlt (pr hlt) hi;rw [h1,IntWalk.i64_in _ (by omega)]
   have e:((j:Int)+1)=((j+1:Nat):Int):=by omega
   rw [e,ih (j+1) k _ (by omega) (by omega) h2,List.drop_eq_getElem_cons hlt]
   rfl
 have:=key xs.length 0 k s (by omega) hk h0
 rw [List.drop_zero] at this;exact this
def okG(t:T)(b l:List (List UInt8)):Bool:=(Sp.right t||Sp.elem t)&&decide (b.length+Sp.cnt t<2147483648)&&decide (l.length+Sp.cnt t<2147483648)
def qk(m:Nat)(x y:D)(L:List D):Option (List D):=zd (zi m x) λ t=>zd (zcr y) λ b=>zd (strsOf L) λ l=>za (okG t b l) (some ((vk t b l).map .str))
def zcl(x y:D):Option (List D):=zd (zcr x) λ a=>zd (zcr y) λ b=>za (decide (a.length+b.length<4294967296)) (some ((a++b).map .str))
def a89(s:List UInt8)(L:List D):Option (List D):=zd (strsOf L) λ l=>za (decide (l.length+1<4294967296)) (some ((Sp.put l s).map .str))
theorem zud{a:List V}{σ:St}{q L n}(h:znz a σ=some (q,(L,n))):a=[.d q.1,.d q.2,.func 89 [.ptr 0 0]]∧pdN σ=some (L,n):=by
 unfold znz at h;split at h
 ·obtain ⟨p,hp,h⟩:=zb h;cases h;exact ⟨rfl,hp⟩
 ·cases h
theorem zuc{a:List V}{σ:St}{q L n}(h:zv6 a σ=some (q,(L,n))):a=[.d (.str q),.ptr 0 0]∧pdN σ=some (L,n):=by
 unfold zv6 at h;split at h
 ·obtain ⟨p,hp,h⟩:=zb h;cases h;exact ⟨rfl,hp⟩
 ·cases h
theorem zuf{a:List V}{q}(h:zwb a=some q):a=[.d (.sl 1 [q.1,q.2])]:=by
 unfold zwb at h; split at h <;> cases h; rfl
def zrt(m:Nat):Prop:=∀ (t:T) (b l:List (List UInt8)),t.depth≤m→t.ok=true→okG t b l=true→zh cx 88 [.d t.d,.d (.sl 1 (b.map .str)),.func 89 [.ptr 0 0]] (psN (l.map .str))=some (.ret (.tup []),psN ((vk t b l).map .str))
theorem zmk{m:Nat}(hm:zrt m){S:CK R1}(hS:knows cx S.S (zh cx)):knows cx (stK 88 znz (λ q=>qk m q.1 q.2) S).S (zh cx):=zpk hS λ a σ q L n L' hd hn h=>by
 obtain ⟨rfl,hp⟩:=zud hd;obtain ⟨t,ht,h⟩:=zb h;obtain ⟨b,hb,h⟩:=zb h;obtain ⟨l,hl,h⟩:=zb h;obtain ⟨ho,h⟩:=zc h;cases h;obtain ⟨h1,h2,h3⟩:=y6 ht;rw [h1,(zdi hb).1,zs8 hp hn,zd1 hl];exact hm t b l h2 h3 ho
theorem zzs{m:Nat}(hm:zrt m):knows cx (vl (qk m) p90 Sp.word zcl a89).S (zh cx):=
 zmk hm <| zpk (zj (zj (zj zq λ a q b hd h hb=>by
   obtain rfl:=zuf h;obtain ⟨x,hx,hb⟩:=zb hb;obtain ⟨y,hy,hb⟩:=zb hb;obtain ⟨h1,hb⟩:=zc hb;cases hb;have:=pc h1;rw [(zdi hx).1,(zdi hy).1];exact yao x y (by omega)) λ a q b hd h hb=>by
   cases hb;obtain rfl:=qu h;exact yap q) λ a q b hd h hb=>zps h hb) λ a σ q L n L' hd hn h=>by
  obtain ⟨rfl,hp⟩:=zuc hd;obtain ⟨l,hl,h⟩:=zb h;obtain ⟨ho,h⟩:=zc h;cases h;rw [zs8 hp hn,zd1 hl];exact m89 l q (pc ho)
theorem zg6{m:Nat}{t:T}{b l:List (List UInt8)}(hd:t.depth≤m)(ho:t.ok=true)(h:okG t b l=true):qk m t.d (.sl 1 (b.map .str)) (l.map .str)=some ((vk t b l).map .str):=by
 have hb:yi b=true:=by
  unfold okG at h;rw [ph,ph] at h;have:=pc h.1.2;exact pa (by omega)
 unfold qk;rw [zd0 hd ho,zic hb,ze5];show za (okG t b l) _=_;rw [h];rfl
theorem zfi{t:T}{b l:List (List UInt8)}:okG t b l=true↔(Sp.right t||Sp.elem t)=true∧b.length+Sp.cnt t<2147483648∧l.length+Sp.cnt t<2147483648:=by
 unfold okG;rw [ph,ph,decide_eq_true_eq,decide_eq_true_eq,and_assoc]
theorem z04{m:Nat}(n:Nat)(b acc:List (List UInt8))(kids:List T)(hk:kids.length<n)(hs:yi kids=true)(hd:∀ t∈kids,t.depth≤m∧t.ok=true∧(Sp.right t||Sp.elem t)=true)
  (hb:b.length+xg kids<2147483648) (ha:acc.length+xg kids<2147483648) (blk:Nat) (v1 v2 v3:Nat)
  (HL:∀ (k:Nat) (L:List D) (i:Int),(λ (k:Nat) (i:Int) (L:List D)=>LP cx (vl (qk m) p90 Sp.word zcl a89) n 88 2 blk k [(1,V.d (D.sl 1 (b.map .str))),(2,V.func 89 [V.ptr 0 0]),(v1,V.d (D.sl 5 (T.ds kids))),(v2,V.d (D.int .i64 (kids.length:Int))),(v3,V.d (D.int .i64 i))] [(0,Ob.val 1 (V.sl 1 L 1)),(1,Ob.tok L.length)] (AK cx (vl (qk m) p90 Sp.word zcl a89) n 88 2 blk (EK cx 88 2))) (k+1) i L =
   bif decide (i<(kids.length:Int)) then za (decide (0≤i)&&decide (i<((T.ds kids).length:Int))) (ze (T.ds kids) i.toNat λ y=>
    ze y.cells 0 λ c_1=>ze y.cells 1 λ c_2=>ze y.cells 2 λ c_3=>ze y.cells 3 λ c_4=>ze y.cells 4 λ c_5=>
     zd (qk m (D.agg [c_1,c_2,c_3,c_4,c_5]) (D.sl 1 (b.map .str)) L) λ L'=>za (L.length.beq L.length)
      ((λ (k:Nat) (i:Int) (L:List D)=>LP cx (vl (qk m) p90 Sp.word zcl a89) n 88 2 blk k [(1,V.d (D.sl 1 (b.map .str))),(2,V.func 89 [V.ptr 0 0]),(v1,V.d (D.sl 5 (T.ds kids))),(v2,V.d (D.int .i64 (kids.length:Int))),(v3,V.d (D.int .i64 i))] [(0,Ob.val 1 (V.sl 1 L 1)),(1,Ob.tok L.length)] (AK cx (vl (qk m) p90 Sp.word zcl a89) n 88 2 blk (EK cx 88 2))) k (IntKind.i64.wrap (i+1)) L'))
   else some (Out.ret (V.tup []),[(0,Ob.val 1 (V.sl 1 L 1)),(1,Ob.tok L.length)])) :
  LP cx (vl (qk m) p90 Sp.word zcl a89) n 88 2 blk n [(1,V.d (D.sl 1 (b.map .str))),(2,V.func 89 [V.ptr 0 0]),(v1,V.d (D.sl 5 (T.ds kids))),(v2,V.d (D.int .i64 (kids.length:Int))),(v3,V.d (D.int .i64 0))] (psN (acc.map .str)) (AK cx (vl (qk m) p90 Sp.word zcl a89) n 88 2 blk (EK cx 88 2)) =
   some (.ret (.tup []),psN ((wo b acc kids).map .str)):=by
 have h:=zhh (λ k i (l:List (List UInt8))=>LP cx (vl (qk m) p90 Sp.word zcl a89) n 88 2 blk k [(1,V.d (D.sl 1 (b.map .str))),(2,V.func 89 [V.ptr 0 0]),(v1,V.d (D.sl 5 (T.ds kids))),(v2,V.d (D.int .i64 (kids.length:Int))),(v3,V.d (D.int .i64 i))] [(0,Ob.val 1 (V.sl 1 (l.map .str) 1)),(1,Ob.tok (l.map D.str).length)] (AK cx (vl (qk m) p90 Sp.word zcl a89) n 88 2 blk (EK cx 88 2)))
  kids (λ a t=>vk t b a) (λ j l=>l.length+xg (kids.drop j)<2147483648) (λ l=>some (.ret (.tup []),psN (l.map .str))) (y9 hs)
  (λ k j x l hj hx hi=>by
   have hmem:=po hx;obtain ⟨h1,h2,h3⟩:=hd x hmem;have hdr:kids.drop j=x::kids.drop (j+1):=by
    have:=List.drop_eq_getElem_cons hj;rw [pr hj] at hx;cases hx;exact this
   have hc:∀ {l:List T},x∈l→Sp.cnt x≤xg l:=by
    intro l
    induction l with
    | nil=>intro h; cases h
    | cons y r ih=>
     intro h;simp only [xg];cases h with
     | head=>omega
     | tail _ h=>have:=ih h; omega
   have hc:=hc hmem;rw [hdr] at hi;simp only [xg] at hi;have hg:=zjn x b l;refine ⟨?_,by omega⟩
   refine (HL k (l.map .str) j).trans ?_;rw [yq hj,yc,yq hj,xi,yu,pm,hx];show ze x.d.cells 0 _=_;rw [xa];simp only [vq,zbm,zbt,zbs,zbr,za2];rw [zg6 h1 h2 (zfi.2 ⟨h3,by omega,by omega⟩)]
   show za _ _=_;rw [Nat.beq_refl];rfl)
  (λ k l=>by
   refine (HL k (l.map .str) kids.length).trans ?_;rw [x6,cond_false];rfl) (s:=acc) (by rw [List.drop_zero]; exact ha) hk
 exact h
inductive Shp (k:Int) (kids:List T):Prop
 | nam (h:k=1) (e:kids=[])
 | lam (h:k=2) {a:T} (e:kids=[a]) (ha:Sp.right a=true)
 | all (h:k=3∨k=6∨k=8∨k=9∨k=10) (ha:∀ t∈kids,(Sp.right t||Sp.elem t)=true)
 | pi (h:k=4∨k=5) {a b:T} (e:kids=[a,b]) (ha:Sp.right a=true) (hb:Sp.right b=true)
 | at (h:k=7) {a b:T} (e:kids=[a,b]) (ha:Sp.right a=true)
 | elem (h:k=11) {f:T} {r:List T} (e:kids=f::r) (ha:∀ t∈r,(Sp.right t||Sp.elem t)=true)
theorem z5d{k:Int}{nm:List UInt8}{kids:List T}{nms:List (List UInt8)}{pl:Int}(h:(Sp.right (.mk k nm kids nms pl)||Sp.elem (.mk k nm kids nms pl))=true):Shp k kids:=by
 rw [Bool.or_eq_true] at h;rcases h with h | h
 ·rcases kids with _ | ⟨a,_ | ⟨b,_ | ⟨c,l⟩⟩⟩
  ·simp only [Sp.right,ph,Bool.or_eq_true,decide_eq_true_eq] at h;rcases h.2 with h | h
   ·exact .nam h.1 rfl
   ·exact .all (by omega) λ t ht=>by cases ht
  ·simp only [Sp.right,ph,Bool.or_eq_true,decide_eq_true_eq] at h;rcases h.2 with ⟨⟨⟨h1 | h1,_⟩,_⟩,h2⟩ | ⟨⟨h1,_⟩,h2⟩
   ·exact .lam h1 rfl h2
   ·exact .all (by omega) λ t ht=>by
     rw [List.mem_singleton] at ht; subst ht; rw [h2]; rfl
   ·exact .all (by omega) λ t ht=>by
     rw [List.mem_singleton] at ht; subst ht; rw [h2,Bool.or_true]
  ·simp only [Sp.right,ph,Bool.or_eq_true,decide_eq_true_eq] at h;rcases h.2 with ((h1 | h1) | h1) | h1
   ·exact .pi h1.1.1.1.1 rfl h1.1.2 h1.2
   ·exact .all (by omega) λ t ht=>by
     simp only [List.mem_cons,List.not_mem_nil,or_false] at ht;rcases ht with rfl | rfl
     ·rw [h1.1.2]; rfl
     ·rw [h1.2]; rfl
   ·exact .at h1.1.1.1 rfl h1.1.2
   ·exact .all (by omega) λ t ht=>by
     simp only [List.mem_cons,List.not_mem_nil,or_false] at ht;rcases ht with rfl | rfl
     ·rw [h1.1.2,Bool.or_true]
     ·rw [h1.2,Bool.or_true]
  ·simp only [Sp.right,ph,decide_eq_true_eq,zhl] at h;obtain ⟨⟨⟨_,h0⟩,_⟩,⟨⟨h1,h2⟩,h3⟩,h4⟩:=h;exact .all (by omega) λ t ht=>by
    simp only [List.mem_cons] at ht;rcases ht with rfl | rfl | rfl | ht
    ·rw [h1,Bool.or_true]
    ·rw [h2,Bool.or_true]
    ·rw [h3,Bool.or_true]
    ·rw [List.all_eq_true.1 h4 t ht,Bool.or_true]
 ·rcases kids with _ | ⟨a,_ | ⟨b,_ | ⟨c,l⟩⟩⟩
  ·simp [Sp.elem] at h
  ·simp only [Sp.elem,ph,decide_eq_true_eq] at h;exact .elem h.1.1.1 rfl λ t ht=>by cases ht
  ·simp only [Sp.elem,ph,decide_eq_true_eq] at h;exact .elem h.1.1.1.1 rfl λ t ht=>by
    rw [List.mem_singleton] at ht; subst ht; rw [h.2]; rfl
  ·simp [Sp.elem] at h
theorem zao{R:Type}(x:Option R):za true x=x:=rfl
theorem zxp{a b:List (List UInt8)}(h:a.length+b.length<4294967296):zcl (.sl 1 (a.map .str)) (.sl 1 (b.map .str))=some ((a++b).map .str):=by
 unfold zcl;rw [zic (pa (by omega)),zic (pa (by omega))]
 show za (decide (a.length+b.length<4294967296)) _=_;rw [pa h];rfl
theorem z5i{b:List (List UInt8)}{s:List UInt8}(h:yi b=true):p90 (.sl 1 (b.map .str)) s=some (Sp.mem s b):=by
 unfold p90;rw [zic h]; rfl
theorem z7e{l:List (List UInt8)}{s:List UInt8}(h:l.length+1<4294967296):a89 s (l.map .str)=some ((Sp.put l s).map .str):=by
 unfold a89;rw [ze5];show za (decide (l.length+1<4294967296)) _=_;rw [pa h];rfl
theorem zim{t:T}:∀ {l:List T},t∈l→t.depth≤T.depths l
 | u::l,h=>by
  simp only [T.depths];cases h with
  | head=>omega
  | tail _ h=>have:=zim h; omega
theorem m88:∀ m,zrt m
 | 0=>λ t b l hd _ _=>by cases t; simp only [T.depth] at hd; omega
 | m+1=>λ t b l hd ho hg=>by
  obtain ⟨k,nm,kids,nms,pl⟩:=t;obtain ⟨hr,hb,hl⟩:=zfi.1 hg;have hsh:=z5d hr;have ho2:=ho;simp only [T.ok,ph] at ho2;obtain ⟨⟨⟨⟨o1,o2⟩,o3⟩,o4⟩,o5⟩:=ho2;simp only [T.depth] at hd;simp only [Sp.cnt] at hb hl;have hbs:yi b=true:=pa (by omega)
  refine zl (zzs (m88 m)) (N:=kids.length+1) ?_;have kid:∀ t∈kids,t.depth≤m∧t.ok=true:=λ t ht=>⟨by have:=zim ht; omega,vp o5 ht⟩
  cases hsh with
  | nam h e=>
   subst h; subst e;refine (z7c (qk m) p90 Sp.word zcl a89 _ _ _ _ _ _).trans ?_;show zd (p90 (.sl 1 (b.map .str)) nm) _=_;rw [z5i hbs];show (bif !Sp.mem nm b then za (decide (nm.length≤big)) (bif !Sp.word nm then zd (a89 nm (l.map .str)) _ else _) else _)=_;rw [zep o1,z7e (by omega)]
   show _=some (Out.ret (V.tup []),psN ((bif Sp.mem nm b||Sp.word nm then l else Sp.put l nm).map .str))
   cases Sp.mem nm b
   ·cases Sp.word nm
    ·show za (Nat.beq _ _) _=_;rw [Nat.beq_refl];rfl
    ·rfl
   ·rfl
  | lam h e ha=>
   subst h; subst e;rename_i a;obtain ⟨k1,m1,l1,n1,p1⟩:=a;obtain ⟨d1,d2⟩:=kid _ (List.mem_singleton.2 rfl);simp only [xg] at hb hl;refine (z7b (qk m) p90 Sp.word zcl a89 _ _ _ _ _ _ _ _ _ _ _).trans ?_;show zd (zcl (.sl 1 (b.map .str)) (.sl 1 (nms.map .str))) _=_;rw [zxp (by omega)]
   show zd (qk m (T.mk k1 m1 l1 n1 p1).d (.sl 1 ((b++nms).map .str)) (l.map .str)) _=_;rw [zg6 d1 d2 (zfi.2 ⟨by rw [ha]; rfl,by rw [pe]; omega,by omega⟩)]
   show za (Nat.beq _ _) _=_;rw [Nat.beq_refl];rfl
  | all h ha=>
   have e:vk (.mk k nm kids nms pl) b l=wo b l kids:=by
    unfold vk;rw [pb (p:=k=1) (by omega),cond_false]
    exact z1r (by omega) (by omega) (by omega) (by omega) (by omega) kids 0 l
   rw [e];have hloop:=z04 (m:=m) (kids.length+1) b l kids (Nat.lt_succ_self _) o2 (λ t ht=>⟨(kid t ht).1,(kid t ht).2,ha t ht⟩) (by omega) (by omega) 3 13 14 15 (λ k L i=>ya8 (qk m) p90 Sp.word zcl a89 _ k _ L kids i)
   have lds:=yc kids;rcases h with rfl | rfl | rfl | rfl | rfl
   ·have g:=z7a (qk m) p90 Sp.word zcl a89 (kids.length+1) (b.map .str) (l.map .str) nm nms pl kids;rw [lds] at g;exact g.trans hloop
   ·have g:=z67 (qk m) p90 Sp.word zcl a89 (kids.length+1) (b.map .str) (l.map .str) nm nms pl kids;rw [lds] at g;exact g.trans hloop
   ·have g:=z65 (qk m) p90 Sp.word zcl a89 (kids.length+1) (b.map .str) (l.map .str) nm nms pl kids;rw [lds] at g;exact g.trans hloop
   ·have g:=z64 (qk m) p90 Sp.word zcl a89 (kids.length+1) (b.map .str) (l.map .str) nm nms pl kids;rw [lds] at g;exact g.trans hloop
   ·have g:=z4f (qk m) p90 Sp.word zcl a89 (kids.length+1) (b.map .str) (l.map .str) nm nms pl kids;rw [lds] at g;exact g.trans hloop
  | pi h e ha hb2=>
   subst e;rename_i a c;obtain ⟨k1,m1,l1,n1,p1⟩:=a;obtain ⟨k2,m2,l2,n2,p2⟩:=c;obtain ⟨d1,d2⟩:=kid (T.mk k1 m1 l1 n1 p1) (by simp)
   obtain ⟨d3,d4⟩:=kid (T.mk k2 m2 l2 n2 p2) (by simp)
   simp only [xg] at hb hl;have hgl:=zjn (T.mk k1 m1 l1 n1 p1) b l
   have fin:zd (qk m (T.mk k1 m1 l1 n1 p1).d (.sl 1 (b.map .str)) (l.map .str)) (λ L'=>za (Nat.beq (l.map D.str).length (l.map D.str).length) (zd (zcl (.sl 1 (b.map .str)) (.sl 1 (nms.map .str))) λ b=>zd (qk m (T.mk k2 m2 l2 n2 p2).d (.sl 1 b) L') λ L''=>za (Nat.beq L'.length L'.length) (some (Out.ret (V.tup []),psN L'')))) =
     some (Out.ret (V.tup []),psN ((vk (T.mk k2 m2 l2 n2 p2) (b++nms) (vk (T.mk k1 m1 l1 n1 p1) b l)).map .str)):=by
    rw [zg6 d1 d2 (zfi.2 ⟨by rw [ha]; rfl,by omega,by omega⟩)]
    show za (Nat.beq _ _) _=_;rw [Nat.beq_refl,zxp (by omega)]
    show zd (qk m (T.mk k2 m2 l2 n2 p2).d (.sl 1 ((b++nms).map .str)) ((vk (T.mk k1 m1 l1 n1 p1) b l).map .str)) _=_;rw [zg6 d3 d4 (zfi.2 ⟨by rw [hb2]; rfl,by rw [pe]; omega,by omega⟩)]
    show za (Nat.beq _ _) _=_;rw [Nat.beq_refl];rfl
   rcases h with rfl | rfl
   ·exact (z69 (qk m) p90 Sp.word zcl a89 _ _ _ _ _ _ _ _ _ _ _ _ _ _ _ _).trans fin
   ·exact (z68 (qk m) p90 Sp.word zcl a89 _ _ _ _ _ _ _ _ _ _ _ _ _ _ _ _).trans fin
  | «at» h e ha=>
   subst h; subst e;rename_i a c;obtain ⟨k1,m1,l1,n1,p1⟩:=a;obtain ⟨k2,m2,l2,n2,p2⟩:=c;obtain ⟨d1,d2⟩:=kid (T.mk k1 m1 l1 n1 p1) (by simp)
   simp only [xg] at hb hl;refine (z66 (qk m) p90 Sp.word zcl a89 _ _ _ _ _ _ _ _ _ _ _ _ _ _ _ _).trans ?_;show zd (qk m (T.mk k1 m1 l1 n1 p1).d (.sl 1 (b.map .str)) (l.map .str)) _=_;rw [zg6 d1 d2 (zfi.2 ⟨by rw [ha]; rfl,by omega,by omega⟩)]
   show za (Nat.beq _ _) _=_;rw [Nat.beq_refl];rfl
  | elem h e ha=>
   subst h; subst e;rename_i f r;simp only [xg] at hb hl;have e:vk (.mk 11 nm (f::r) nms pl) b l=wo b l r:=by
    unfold vk;rw [show decide ((11:Int)=1)=false from rfl,cond_false];unfold v7;exact z1q r 1 l (Nat.succ_pos _)
   rw [e];have hloop:=z04 (m:=m) ((f::r).length+1) b l r (by simp only [List.length_cons]; omega) (pa (by have:=y9 o2; simp only [List.length_cons] at this; omega)) (λ t ht=>⟨(kid t (pp _ ht)).1,(kid t (pp _ ht)).2,ha t ht⟩) (by omega) (by omega) 20 88 89 90 (λ k L i=>z9p (qk m) p90 Sp.word zcl a89 _ k _ L r i)
   refine (z4e (qk m) p90 Sp.word zcl a89 _ _ _ _ _ _ _ _).trans ?_;have e2:List.drop (1:Int).toNat (List.take (f.d::T.ds r).length (f.d::T.ds r))=T.ds r:=by
    rw [List.take_length]; rfl
   rw [e2,yc,pa (p:=(1:Int)≤((f.d::T.ds r).length:Int)) (by simp only [List.length_cons]; omega)]
   exact (zao _).trans hloop
def z9k:List V→Option (D×(D×D)) | [.d h,.d t,.d b]=>some (h,(t,b)) | _=>none
theorem zxn{x:T}:∀ {l:List T},x∈l→Sp.cnt x≤xg l
 | y::r,h=>by
  simp only [xg];cases h with
  | head=>omega
  | tail _ h=>have:=zxn h; omega
theorem m52(l:List T)(hs:yi l=true)(ho:T.oks l=true)(hr:∀ t∈l,(Sp.right t||Sp.elem t)=true)(hc:xg l<2147483648):zh cx 52 [.d (.sl 5 (T.ds l))] []=some (.ret (.d (.sl 1 ((wo [] [] l).map .str))),[]):=by
 have hk:knows cx (zpe (qk (T.depths l))).S (zh cx):=zmk (m88 _) zq;refine zl hk (N:=l.length+1) ?_;rw [ybb,yc]
 have h:=zhh (λ k i (s:List (List UInt8))=>LP cx (zpe (qk (T.depths l))) (l.length+1) 52 0 3 k [(3,V.ptr 3 0),(6,V.d (D.sl 5 (T.ds l))),(7,V.d (D.int .i64 (l.length:Int))),(8,V.d (D.int .i64 i))] [(3,Ob.val 1 (V.sl 1 (s.map .str) 20)),(20,Ob.tok (s.map D.str).length)] (AK cx (zpe (qk (T.depths l))) (l.length+1) 52 0 3 (EK cx 52 0)))
  l (λ a t=>vk t [] a) (λ j s=>s.length+xg (l.drop j)<2147483648) (λ s=>some (.ret (.d (.sl 1 (s.map .str))),[])) (y9 hs)
  (λ k j x s hj hx hi=>by
   have hmem:=po hx;have hdr:l.drop j=x::l.drop (j+1):=by
    have:=List.drop_eq_getElem_cons hj;rw [pr hj] at hx;cases hx;exact this
   have hcm:=zxn hmem;rw [hdr] at hi;simp only [xg] at hi;have hg:=zjn x [] s;refine ⟨?_,by omega⟩
   refine (z9s (qk (T.depths l)) (l.length+1) k l (s.map .str) j).trans ?_;rw [yq hj,yc,yq hj,xi,yu,pm,hx];show ze x.d.cells 0 _=_;rw [xa];simp only [vq,zbm,zbt,zbs,zbr,za2];have hsp:=zg6 (m:=T.depths l) (b:=[]) (l:=s) (zim hmem) (vp ho hmem) (zfi.2 ⟨hr x hmem,by simp only [List.length_nil]; omega,by omega⟩)
   show zd (qk (T.depths l) x.d (.sl 1 (([]:List (List UInt8)).map .str)) (s.map .str)) _=_;rw [hsp];show za _ _=_;rw [Nat.beq_refl];rfl)
  (λ k s=>by
   refine (z9s (qk (T.depths l)) (l.length+1) k l (s.map .str) l.length).trans ?_;rw [x6,cond_false]) (s:=[]) (by rw [List.drop_zero]; simp only [List.length_nil]; omega) (k:=l.length+1) (Nat.lt_succ_self _)
 exact h
def zcj:List V→Option D | [.d x]=>some x | _=>none
def zg2(f:D→Option (List UInt8×Int)):CK R1:=zy 87 zcj f mkE (CK.plain zo)
def z2a(a:List V)(σ:St):Option (List D×Nat):=match a,σ with | [.slo 0 1 n],[(0,.row l)]=>some (l,n) | _,_=>none
def z7f(s:List D→Option (List D))(S:CK R1):CK R1:=more 49 z2a (λ K q=>zd (s q.1) λ l=>za (Nat.beq q.2 q.1.length) (K (.ret (.tup [])) [(0,.row l)]))
  (λ K q=>by
   simp only;rw [ww];congr 1;funext s;simp only [za,xz];rfl) S
def mkM(q:List D×List D):V:=.tup [.d (.map q.1 q.2),.d (.int .i64 0)]
def z3i(e:Int):V:=.tup [.d .nilmap,.d (.int .i64 e)]
def z4i(pl:D→Option Int):CK R1:=zy 51 zcj pl z3i (CK.plain zo)
def qd(pl:D→Option (List D×List D))(al:D→Option (List D))(s:List D→Option (List D)):CK R1:=
 zy 51 zcj pl mkM (zy 52 zcj al (λ x=>.d (.sl 1 x)) (z7f s (CK.plain zo)))
def ybn(sp:D→D→D→Option (List D))(p:D→List UInt8→Option Bool):CK R1:=zy 60 z9k (λ x=>sp x.1 x.2.1 x.2.2) (λ x=>.d (.sl 1 x)) (zy 93 zh1 (λ q=>p q.1 q.2) mkB (CK.plain zo))
theorem ybc(f:D→Option (List UInt8×Int))(n:Nat)(l:List T):zk cx (zg2 f) n 51 [.d (.sl 5 (T.ds l))] []=zd (f (D.sl 5 (T.ds l))) λ b=>bif decide (b.snd=(61:Int)) then some (Out.ret (V.tup [V.d D.nilmap,V.d (D.int .i64 b.snd)]),[]) else LP cx (zg2 f) n 51 0 6 n [(6,V.map 19),(20,V.d (D.sl 5 (T.ds l))),(21,V.d (D.int .i64 (↑(T.ds l).length:Int))),(22,V.d (D.int .i64 (0:Int)))] [(19,Ob.map [] [])] (AK cx (zg2 f) n 51 0 6 (EK cx 51 0)):=by kernel_rfl
theorem z94(pl:D→Option Int)(n:Nat)(l:List T):zk cx (z4i pl) n 24 [.d (.sl 5 (T.ds l))] []=zd (pl (D.sl 5 (T.ds l))) λ b=>bif !decide (b=(0:Int)) then some (Out.ret (V.tup [V.d (D.sl 1 []),V.d (D.int .i64 b)]),[]) else LP cx (z4i pl) n 24 0 6 n [(4,V.d D.nilmap),(6,V.sl 1 [] 6),(22,V.d (D.sl 5 (T.ds l))),(23,V.d (D.int .i64 (↑(T.ds l).length:Int))),(24,V.d (D.int .i64 (0:Int)))] [(6,Ob.tok 0)] (AK cx (z4i pl) n 24 0 6 (EK cx 24 0)):=by kernel_rfl
theorem ybj(pl:D→Option (List D×List D))(al:D→Option (List D))(s:List D→Option (List D))(n:Nat)(l:List T):zk cx (qd pl al s) n 24 [.d (.sl 5 (T.ds l))] []=zd (pl (D.sl 5 (T.ds l))) λ b=>LP cx (qd pl al s) n 24 0 6 n [(4,V.d (D.map b.1 b.2)),(6,V.sl 1 [] 6),(22,V.d (D.sl 5 (T.ds l))),(23,V.d (D.int .i64 (↑(T.ds l).length:Int))),(24,V.d (D.int .i64 (0:Int)))] [(6,Ob.tok 0)] (AK cx (qd pl al s) n 24 0 6 (EK cx 24 0)):=by kernel_rfl
theorem ybr(sp:D→D→D→Option (List D))(p:D→List UInt8→Option Bool)(n:Nat)(l:List T)(i k:Int):zk cx (ybn sp p) n 57 [.d (.sl 5 (T.ds l)),.d (.int .i64 i),.d (.int .i64 k)] []=za (decide (0≤i)&&decide (i<(↑(T.ds l).length:Int))) (ze (T.ds l) i.toNat λ y=>ze y.cells 2 λ c=>match c with
 | D.sl s l_1=>bif s.beq (cx.P.cellsOf 26)||l_1.isEmpty then za (decide ((0:Int)<(↑l_1.length:Int))) (ze l_1 (0:Int).toNat λ y=>ze y.cells 0 λ c=>ze y.cells 1 λ c_1=>ze y.cells 2 λ c_2=>ze y.cells 3 λ c_3=>ze y.cells 4 λ c_4=>zd (sp (D.sl 1 [],D.agg [c,c_1,c_2,c_3,c_4],D.sl 1 []).fst (D.sl 1 [],D.agg [c,c_1,c_2,c_3,c_4],D.sl 1 []).snd.fst (D.sl 1 [],D.agg [c,c_1,c_2,c_3,c_4],D.sl 1 []).snd.snd) λ b=>za (decide (0≤i)&&decide (i<(↑(T.ds l).length:Int))) (ze (T.ds l) i.toNat λ y=>ze y.cells 2 λ c=>match c with
  | D.sl s l_2=>bif s.beq (cx.P.cellsOf 26)||l_2.isEmpty then za (decide ((1:Int)<(↑l_2.length:Int))) (ze l_2 (1:Int).toNat λ y=>ze y.cells 0 λ c=>ze y.cells 1 λ c_5=>ze y.cells 2 λ c_6=>ze y.cells 3 λ c_7=>ze y.cells 4 λ c_8=>zd (sp (D.sl 1 b,D.agg [c,c_5,c_6,c_7,c_8],D.sl 1 []).fst (D.sl 1 b,D.agg [c,c_5,c_6,c_7,c_8],D.sl 1 []).snd.fst (D.sl 1 b,D.agg [c,c_5,c_6,c_7,c_8],D.sl 1 []).snd.snd) λ b=>za (decide (0≤k)&&decide (k<(↑(T.ds l).length:Int))) (ze (T.ds l) k.toNat λ y=>ze y.cells 1 λ c=>match c with
   | D.str s=>zd (p (D.sl 1 b,s).fst (D.sl 1 b,s).snd) λ b=>some (Out.ret (V.d (D.bool b)),[])
   | x=>none)) else none
  | x=>none)) else none
 | x=>none):=by kernel_rfl
theorem z9t(f:D→Option (List UInt8×Int))(n k:Nat)(l:List T)(ks vs:List D)(i:Int):LP cx (zg2 f) n 51 0 6 (k+1) [(6,V.map 19),(20,V.d (D.sl 5 (T.ds l))),(21,V.d (D.int .i64 (l.length:Int))),(22,V.d (D.int .i64 i))] [(19,Ob.map ks vs)] (AK cx (zg2 f) n 51 0 6 (EK cx 51 0))=bif decide (i<(↑l.length:Int)) then za (decide (0≤i)&&decide (i<(↑(T.ds l).length:Int))) (ze (T.ds l) i.toNat λ y=>ze y.cells 0 λ c=>ze y.cells 1 λ c=>ze y.cells 2 λ c_1=>ze y.cells 3 λ c_2=>ze y.cells 4 λ c_3=>match c with
 | D.str s=>zd (vr (D.str s) ks 0) λ o=>zh9 o (λ i=>ze vs i λ y=>match y with
  | D.int k' n=>bif decide (k'=IntKind.i64) then some (Out.ret (V.tup [V.d D.nilmap,V.d (D.int .i64 (270:Int))]),[]) else none
  | x=>none) (match c with
  | D.str s=>zd (vr (D.str s) ks 0) λ o=>zh9 o (λ i_1=>LP cx (zg2 f) n 51 0 6 k [(6,V.map 19),(20,V.d (D.sl 5 (T.ds l))),(21,V.d (D.int .i64 (↑l.length:Int))),(22,V.d (D.int .i64 (IntKind.i64.wrap (i+(1:Int)))))] [(19,Ob.map ks (vs.set i_1 (D.int .i64 i)))] (AK cx (zg2 f) n 51 0 6 (EK cx 51 0))) (LP cx (zg2 f) n 51 0 6 k [(6,V.map 19),(20,V.d (D.sl 5 (T.ds l))),(21,V.d (D.int .i64 (↑l.length:Int))),(22,V.d (D.int .i64 (IntKind.i64.wrap (i+(1:Int)))))] [(19,Ob.map (ks++[D.str s]) (vs++[D.int .i64 i]))] (AK cx (zg2 f) n 51 0 6 (EK cx 51 0)))
  | x=>none)
 | x=>none) else some (Out.ret (V.tup [V.d (D.map ks vs),V.d (D.int .i64 (0:Int))]),[]):=by kernel_rfl
theorem z9w(pl:D→Option (List D×List D))(al:D→Option (List D))(s:List D→Option (List D))(n k:Nat)(l:List T)(ks vs L:List D)(i:Int):LP cx (qd pl al s) n 24 0 6 (k+1) [(4,V.d (D.map ks vs)),(6,V.sl 1 L 6),(22,V.d (D.sl 5 (T.ds l))),(23,V.d (D.int .i64 (l.length:Int))),(24,V.d (D.int .i64 i))] [(6,Ob.tok L.length)] (AK cx (qd pl al s) n 24 0 6 (EK cx 24 0))=bif decide (i<(↑l.length:Int)) then za (decide (0≤i)&&decide (i<(↑(T.ds l).length:Int))) (ze (T.ds l) i.toNat λ y=>ze y.cells 0 λ c=>ze y.cells 1 λ c=>ze y.cells 2 λ c=>ze y.cells 3 λ c_1=>ze y.cells 4 λ c_2=>match c with
 | D.sl s_1 l_1=>bif s_1.beq (cx.P.cellsOf 26)||l_1.isEmpty then zd (al (D.sl 5 l_1)) λ b=>LP cx (qd pl al s) n 24 0 10 n [(4,V.d (D.map ks vs)),(6,V.sl 1 L 6),(9,V.slo 9 1 0),(22,V.d (D.sl 5 (T.ds l))),(23,V.d (D.int .i64 (↑l.length:Int))),(24,V.d (D.int .i64 i)),(30,V.d (D.sl 1 b)),(31,V.d (D.int .i64 (↑b.length:Int))),(32,V.d (D.int .i64 (0:Int)))] [(6,Ob.tok L.length),(9,Ob.row [])] (AL cx (qd pl al s) n 24 0 6 10 (inK cx (qd pl al s) n 24 0 6 k (AK cx (qd pl al s) n 24 0 6 (EK cx 24 0)))) else none
 | x=>none) else some (Out.ret (V.tup [V.d (D.sl 1 L),V.d (D.int .i64 (0:Int))]),[]):=by kernel_rfl
theorem z43(pl:D→Option (List D×List D))(al:D→Option (List D))(s:List D→Option (List D))(n k m:Nat)(l:List T)(ks vs L U:List D)(b:List (List UInt8))(i j:Int):LP cx (qd pl al s) n 24 0 10 (m+1) [(4,V.d (D.map ks vs)),(6,V.sl 1 L 6),(9,V.slo 9 1 U.length),(22,V.d (D.sl 5 (T.ds l))),(23,V.d (D.int .i64 (l.length:Int))),(24,V.d (D.int .i64 i)),(30,V.d (D.sl 1 (b.map .str))),(31,V.d (D.int .i64 (b.length:Int))),(32,V.d (D.int .i64 j))] [(6,Ob.tok L.length),(9,Ob.row U)] (AL cx (qd pl al s) n 24 0 6 10 (inK cx (qd pl al s) n 24 0 6 k (AK cx (qd pl al s) n 24 0 6 (EK cx 24 0))))=bif decide (j<(↑b.length:Int)) then za (decide (0≤j)&&decide (j<(↑(List.map D.str b).length:Int))) (ze (List.map D.str b) j.toNat λ y=>ze y.cells 0 λ c=>match c with
 | D.str s_1=>zd (vr (D.str s_1) ks 0) λ o=>zh9 o (λ i_1=>ze vs i_1 λ y=>match y with
  | D.int k' n_1=>bif decide (k'=IntKind.i64) then za (U.length.beq U.length&&decide (U.length+[D.int .i64 n_1].length≤4294967296)) (LP cx (qd pl al s) n 24 0 10 m [(4,V.d (D.map ks vs)),(6,V.sl 1 L 6),(9,V.slo 9 1 (U.length+[D.int .i64 n_1].length)),(22,V.d (D.sl 5 (T.ds l))),(23,V.d (D.int .i64 (↑l.length:Int))),(24,V.d (D.int .i64 i)),(30,V.d (D.sl 1 (List.map D.str b))),(31,V.d (D.int .i64 (↑b.length:Int))),(32,V.d (D.int .i64 (IntKind.i64.wrap (j+(1:Int)))))] [(6,Ob.tok L.length),(9,Ob.row (U++[D.int .i64 n_1]))] (AL cx (qd pl al s) n 24 0 6 10 (inK cx (qd pl al s) n 24 0 6 k (AK cx (qd pl al s) n 24 0 6 (EK cx 24 0))))) else none
  | x=>none) (LP cx (qd pl al s) n 24 0 10 m [(4,V.d (D.map ks vs)),(6,V.sl 1 L 6),(9,V.slo 9 1 U.length),(22,V.d (D.sl 5 (T.ds l))),(23,V.d (D.int .i64 (↑l.length:Int))),(24,V.d (D.int .i64 i)),(30,V.d (D.sl 1 (List.map D.str b))),(31,V.d (D.int .i64 (↑b.length:Int))),(32,V.d (D.int .i64 (IntKind.i64.wrap (j+(1:Int)))))] [(6,Ob.tok L.length),(9,Ob.row U)] (AL cx (qd pl al s) n 24 0 6 10 (inK cx (qd pl al s) n 24 0 6 k (AK cx (qd pl al s) n 24 0 6 (EK cx 24 0)))))
 | x=>none) else zd (s (U,U.length).fst) λ l_1=>za ((U,U.length).snd.beq (U,U.length).fst.length) (za (U.length.beq l_1.length) (za (decide (L.length=L.length)&&decide (L.length+[D.sl 1 l_1].length≤4294967296)) (LP cx (qd pl al s) n 24 0 6 k [(4,V.d (D.map ks vs)),(6,V.sl 1 (L++[D.sl 1 l_1]) 6),(22,V.d (D.sl 5 (T.ds l))),(23,V.d (D.int .i64 (↑l.length:Int))),(24,V.d (D.int .i64 (IntKind.i64.wrap (i+(1:Int)))))] [(6,Ob.tok (L.length+[D.sl 1 l_1].length))] (AK cx (qd pl al s) n 24 0 6 (EK cx 24 0))))):=by kernel_rfl
def zd7(l:List T):Bool:=yi l&&T.oks l&&decide (12 * Sp.bulks l≤65536)
def zl0(x:D):Option (List T):=zd (w9 Sp.toC x) λ l=>za (zd7 l) (some l)
theorem zbx{l:List T}:zd7 l=true↔yi l=true∧T.oks l=true∧12 * Sp.bulks l≤65536:=by
 unfold zd7;rw [ph,ph,decide_eq_true_eq,and_assoc]
theorem ziz{x:D}{l:List T}(h:zl0 x=some l):x=.sl 5 (T.ds l)∧zd7 l=true:=by
 obtain ⟨m,hm,h⟩:=zb h;obtain ⟨h1,h⟩:=zc h;cases h;obtain ⟨d,rfl,h2,_⟩:=zdy hm;exact ⟨by rw [(ze3 (λ x t h=>(wl h).1) h2).1],h1⟩
theorem zsp{l:List T}(h:zd7 l=true):zl0 (.sl 5 (T.ds l))=some l:=by
 obtain ⟨h1,h2,h3⟩:=zbx.1 h;unfold zl0;rw [zmi (λ t ht=>zhv (vp h2 ht)) h1];show za (zd7 l) _=_;rw [h]; rfl
theorem zp7:∀ l:List (List UInt8),l.length≤Sp.lens l
 | []=>Nat.le_refl _
 | x::l=>by have:=zp7 l; simp only [Sp.lens,List.length_cons]; omega
mutual
theorem zn6:∀ t:T,Sp.cnt t≤yo t
 | .mk _ nm kids nms _=>by
  have:=zqw kids;have:=zp7 nms;simp only [Sp.cnt,yo]; omega
theorem zqw:∀ l:List T,xg l≤Sp.bulks l
 | []=>Nat.le_refl _
 | t::l=>by
  have:=zn6 t;have:=zqw l;simp only [xg,Sp.bulks]; omega
end
theorem z2n(t:T):1≤yo t:=by cases t; simp only [yo]; omega
theorem zkq:∀ l:List T,l.length≤Sp.bulks l
 | []=>Nat.le_refl _
 | t::l=>by have:=zkq l; have:=z2n t; simp only [Sp.bulks,List.length_cons]; omega
def nmL(l:List T):List (List UInt8):=l.map T.nm
theorem z5k{l:List T}{j:Nat}{x:T}(hx:l[j]?=some x):(nmL l)[j]?=some x.nm:=by unfold nmL; rw [List.getElem?_map,hx]; rfl
def zce:List (List UInt8)→List (List UInt8)→Bool
 | _,[]=>false
 | seen,s::r=>Sp.mem s seen||zce (seen++[s]) r
def Sp.wr(l:List T):Int:=bif l.all yr then (bif zce [] (nmL l) then 270 else 0) else 61
theorem z3p(s:List UInt8)(l:List (List UInt8)):wn (l.map .str) s=Sp.mem s l:=by
 unfold wn Sp.mem;rw [List.any_map];congr 1;funext x;show decide (s=x)=_;by_cases h:s=x
 ·subst h; rfl
 ·rw [pb h,pb (λ e=>h e.symm)]
theorem z0g(l:List (List UInt8)):(l.map D.str).all znd=true:=by
 rw [List.all_map,List.all_eq_true]; intro x _; rfl
theorem cellT(t:T){R:Type}(F:D→D→D→D→D→Option R):(ze t.d.cells 0 λ a=>ze t.d.cells 1 λ b=>ze t.d.cells 2 λ c=>ze t.d.cells 3 λ d=>ze t.d.cells 4 λ e=>F a b c d e)=F (.int .i64 t.k) (.str t.nm) (.sl 5 (T.ds t.kids)) (.sl 1 (t.nms.map .str)) (.int .i64 t.pl):=by
 rw [xa]; rfl
def f87(x:D):Option (List UInt8×Int):=zd (zl0 x) λ l=>some (zec l)
theorem z1v(l:List T):(zec l).2=bif l.all yr then 0 else 61:=by
 unfold zec; cases l.all yr <;> rfl
theorem z5m(n:Nat)(l:List T)(hs:yi l=true):∀ (d j k:Nat),j+d=l.length→d<k →
  LP cx (zg2 f87) n 51 0 6 k [(6,V.map 19),(20,V.d (D.sl 5 (T.ds l))),(21,V.d (D.int .i64 (l.length:Int))),(22,V.d (D.int .i64 (j:Int)))] [(19,Ob.map (((nmL l).take j).map .str) (nI (List.range j)))] (AK cx (zg2 f87) n 51 0 6 (EK cx 51 0)) =
   bif zce ((nmL l).take j) ((nmL l).drop j) then some (.ret (z3i 270),[]) else some (.ret (mkM ((nmL l).map .str,nI (List.range l.length))),[]):=by
 intro d
 induction d with
 | zero=>
  intro j k hj hk;obtain ⟨k,rfl⟩:∃ k',k=k'+1:=⟨k - 1,by omega⟩
  obtain rfl:j=l.length:=by omega
  have hl:(nmL l).length=l.length:=pf _;rw [z9t,x6,cond_false,List.drop_eq_nil_of_le (by omega),List.take_of_length_le (by omega)]
  rfl
 | succ d ih=>
  intro j k hj hk;obtain ⟨k,rfl⟩:∃ k',k=k'+1:=⟨k - 1,by omega⟩
  have hlt:j<l.length:=by omega
  have hx:=pr hlt;generalize l[j]=x at hx;have hn:=z5k hx;have hlt2:j<(nmL l).length:=by unfold nmL; rw [pf]; exact hlt
  have hdr:(nmL l).drop j=x.nm::(nmL l).drop (j+1):=by
   rw [List.drop_eq_getElem_cons hlt2];rw [pr hlt2] at hn;injection hn with hn; rw [hn]
  have htk:(nmL l).take (j+1)=(nmL l).take j++[x.nm]:=by
   rw [List.take_succ,hn]; rfl
  have hih:=ih (j+1) k (by omega) (by omega)
  rw [z9t,yq hlt,yc,yq hlt,xi,yu,pm,hx];obtain ⟨o,ho,hi,hb⟩:=zkp x.nm (((nmL l).take j).map .str) 0 (z0g _);rw [z3p] at hi;rw [hdr];show (ze x.d.cells 0 _)=bif (Sp.mem x.nm ((nmL l).take j)||zce ((nmL l).take j++[x.nm]) ((nmL l).drop (j+1))) then _ else _
  refine (cellT x (λ _ c _ _ _=>match c with
   | D.str s=>zd (vr (D.str s) (((nmL l).take j).map .str) 0) λ o=>zh9 o (λ i=>ze (nI (List.range j)) i λ y=>match y with
     | D.int k' n=>bif decide (k'=IntKind.i64) then some (Out.ret (z3i 270),[]) else none
     | _=>none)
    (match c with
     | D.str s=>zd (vr (D.str s) (((nmL l).take j).map .str) 0) λ o=>zh9 o
      (λ i_1=>LP cx (zg2 f87) n 51 0 6 k [(6,V.map 19),(20,V.d (D.sl 5 (T.ds l))),(21,V.d (D.int .i64 (l.length:Int))),(22,V.d (D.int .i64 (IntKind.i64.wrap ((j:Int)+1))))] [(19,Ob.map (((nmL l).take j).map .str) ((nI (List.range j)).set i_1 (D.int .i64 (j:Int))))] (AK cx (zg2 f87) n 51 0 6 (EK cx 51 0)))
      (LP cx (zg2 f87) n 51 0 6 k [(6,V.map 19),(20,V.d (D.sl 5 (T.ds l))),(21,V.d (D.int .i64 (l.length:Int))),(22,V.d (D.int .i64 (IntKind.i64.wrap ((j:Int)+1))))] [(19,Ob.map (((nmL l).take j).map .str++[D.str s]) (nI (List.range j)++[D.int .i64 (j:Int)]))] (AK cx (zg2 f87) n 51 0 6 (EK cx 51 0)))
     | _=>none)
   | _=>none)).trans ?_
  show (zd (vr (D.str x.nm) (((nmL l).take j).map .str) 0) λ o=>zh9 o _ (zd (vr (D.str x.nm) (((nmL l).take j).map .str) 0) λ o=>zh9 o _ _))=_;rw [ho,←hi];cases o with
  | some i=>
   have:=hb i rfl;simp only [pf,List.length_take] at this;show (ze (nI (List.range j)) i λ y=>_)=_;rw [zfj,List.getElem?_range (by omega)]
   rfl
  | none=>
   have e:((j:Int)+1)=((j+1:Nat):Int):=by omega
   have h1:((nmL l).take j).map D.str++[D.str x.nm]=((nmL l).take (j+1)).map D.str:=by rw [htk,List.map_append]; rfl
   have h2:nI (List.range j)++[D.int .i64 (j:Int)]=nI (List.range (j+1)):=by unfold nI; rw [List.range_succ,List.map_append]; rfl
   show LP cx (zg2 f87) n 51 0 6 k _ [(19,Ob.map (((nmL l).take j).map D.str++[D.str x.nm]) (nI (List.range j)++[D.int .i64 (j:Int)]))] _=_;rw [IntWalk.i64_in _ (by have:=y9 hs; omega),e,h1,h2,hih,htk]
   rfl
theorem vd{a:List V}{x:D}(h:zcj a=some x):a=[.d x]:=by
 unfold zcj at h; split at h <;> cases h; rfl
theorem m51(l:List T)(hg:zd7 l=true):zh cx 51 [.d (.sl 5 (T.ds l))] []=some (.ret (bif decide (Sp.wr l=0) then mkM ((nmL l).map .str,nI (List.range l.length)) else z3i (Sp.wr l)),[]):=by
 have hk:knows cx (zg2 f87).S (zh cx):=zj zq λ a q b hd h hb=>by
  obtain ⟨m,hm,hb⟩:=zb hb;cases hb;obtain ⟨h0,hg⟩:=ziz hm;obtain ⟨h1,h2,h3⟩:=zbx.1 hg;rw [vd h,h0];exact z3m m h1 h2 h3
 refine zl hk (N:=l.length+1) ?_;have e:f87 (.sl 5 (T.ds l))=some (zec l):=by unfold f87; rw [zsp hg]; rfl
 rw [ybc,e];show (bif decide ((zec l).2=61) then some (Out.ret (V.tup [V.d D.nilmap,V.d (D.int .i64 (zec l).2)]),[]) else _)=_;rw [z1v];unfold Sp.wr;cases l.all yr
 ·rfl
 ·rw [yc];have e1:decide ((bif true then (0:Int) else 61)=61)=false:=rfl;rw [e1,cond_false];refine (z5m (l.length+1) l (zbx.1 hg).1 l.length 0 (l.length+1) (by omega) (Nat.lt_succ_self _)).trans ?_
  show (bif zce [] (nmL l) then _ else _)=_;cases zce [] (nmL l) <;> rfl
def zup(names:List (List UInt8))(t:T):List Nat:=zat (λ k=>Sp.mem (names.getD k []) (wo [] [] t.kids)) names.length
def zcs(l:List T):List (List Nat):=l.map (zup (nmL l))
def wt(l:List (List Nat)):List D:=l.map λ u=>.sl 1 (nI u)
theorem zpn{l:List (List UInt8)}{s:List UInt8}(h:l.Nodup):(Sp.put l s).Nodup:=by
 unfold Sp.put;cases hm:Sp.mem s l
 ·simp only [cond_false];rw [List.nodup_append];refine ⟨h,by simp,λ a ha b hb=>?_⟩
  rw [List.mem_singleton] at hb;subst hb;intro e;subst e;rw [mem_iff.2 ha] at hm;cases hm
 ·exact h
mutual
theorem zqh:∀ (t:T) (b acc:List (List UInt8)),acc.Nodup→(vk t b acc).Nodup
 | .mk k nm kids nms _,b,acc,h=>by
  unfold vk;cases decide (k=1)
  ·exact znj kids k nms b 0 acc h
  ·simp only [cond_true];cases Sp.mem nm b||Sp.word nm
   ·exact zpn h
   ·exact h
theorem znj:∀ (l:List T) (k:Int) (nms b:List (List UInt8)) (i:Nat) (acc:List (List UInt8)),acc.Nodup→(v7 l k nms b i acc).Nodup
 | [],k,nms,b,i,acc,h=>by simpa [v7] using h
 | t::r,k,nms,b,i,acc,h=>by
  unfold v7;refine znj r k nms b (i+1) _ ?_;cases (decide (k=7)&&decide (i=1))||(decide (k=11)&&decide (i=0))
  ·exact zqh t _ acc h
  ·exact h
end
theorem znk{b:List (List UInt8)}:∀ (l:List T) {acc:List (List UInt8)},acc.Nodup→(wo b acc l).Nodup
 | [],acc,h=>h
 | t::l,acc,h=>znk l (zqh t b acc h)
theorem ztv{b:List (List UInt8)}:∀ (l:List T) (acc:List (List UInt8)),(wo b acc l).length≤acc.length+xg l
 | [],acc=>by simp [wo]
 | t::l,acc=>by
  have h1:=ztv (b:=b) l (vk t b acc);have h2:=zjn t b acc;simp only [xg];show (wo b (vk t b acc) l).length≤_;omega
theorem zns:∀ (r seen:List (List UInt8)),seen.Nodup→zce seen r=false→(seen++r).Nodup
 | [],seen,h,_=>by rwa [List.append_nil]
 | s::r,seen,h,hd=>by
  unfold zce at hd;rw [Bool.or_eq_false_iff] at hd;have h1:(seen++[s]).Nodup:=by
   have:=zpn (s:=s) h;unfold Sp.put at this;rw [hd.1] at this;exact this
  have:=zns r (seen++[s]) h1 hd.2
  rwa [List.append_assoc] at this
def zb8(names:List (List UInt8))(s:List UInt8):Option Nat:=yl (λ t=>decide (s=t)) names 0
theorem zij{p:List UInt8→Bool}:∀ {l:List (List UInt8)} {i j:Nat},yl p l i=some j→∃ d x,j=i+d∧l[d]?=some x∧p x=true
 | [],i,j,h=>by cases h
 | x::r,i,j,h=>by
  unfold yl at h;cases hp:p x <;> rw [hp] at h
  ·simp only [cond_false] at h;obtain ⟨d,y,h1,h2,h3⟩:=zij h;exact ⟨d+1,y,by omega,by simpa using h2,h3⟩
  ·simp only [cond_true] at h;cases h;exact ⟨0,x,rfl,rfl,hp⟩
theorem zt1{s:List UInt8}:∀ {l:List (List UInt8)} {i d:Nat},l.Nodup→l[d]?=some s→yl (λ t=>decide (s=t)) l i=some (i+d)
 | [],i,d,_,h=>by simp at h
 | x::r,i,d,hn,h=>by
  unfold yl;rw [List.nodup_cons] at hn;rcases d with _ | d
  ·simp at h; subst h;rw [pa rfl]; rfl
  ·simp only [List.getElem?_cons_succ] at h;have:s ≠ x:=λ e=>hn.1 (e ▸ po h);rw [pb this,cond_false,zt1 hn.2 h];congr 1; omega
theorem ziu{names:List (List UInt8)}(hn:names.Nodup){s:List UInt8}{k:Nat}:zb8 names s=some k↔names[k]?=some s:=by
 unfold zb8;constructor
 ·intro h;obtain ⟨d,x,h1,h2,h3⟩:=zij h;have:=pc h3;subst this;rw [h1,Nat.zero_add]; exact h2
 ·intro h;rw [zt1 hn h,Nat.zero_add]
theorem zp3(s:List UInt8):∀ (names:List (List UInt8)) (i:Nat),vr (.str s) (names.map .str) i=some (yl (λ t=>decide (s=t)) names i)
 | [],i=>rfl
 | x::r,i=>by
  show (bif decide (s=x) then some (some i) else vr (.str s) (r.map .str) (i+1))=some (bif decide (s=x) then some i else yl _ r (i+1));rw [zp3 s r (i+1)];cases decide (s=x) <;> rfl
def zk7(names:List (List UInt8))(us:List Nat)(s:List UInt8):List Nat:=match zb8 names s with | some i=>us++[i] | none=>us
theorem zxj(names:List (List UInt8)):∀ (N:List (List UInt8)) (us:List Nat),N.foldl (zk7 names) us=us++N.filterMap (zb8 names)
 | [],us=>by simp
 | s::N,us=>by
  rw [List.foldl_cons,zxj names N,List.filterMap_cons];unfold zk7;cases zb8 names s <;> simp
theorem z1s{names N:List (List UInt8)}(hn:names.Nodup)(hN:N.Nodup) :
  we ((N.foldl (zk7 names) []).map λ k:Nat=>(k:Int))=(zat (λ k=>Sp.mem (names.getD k []) N) names.length).map λ k:Nat=>(k:Int):=by
 rw [zxj,List.nil_append];refine zsx ?_ λ k=>?_
 ·unfold List.Nodup;rw [List.pairwise_filterMap];refine hN.imp λ {a a'} hab b hb b' hb' e=>hab ?_;subst e;have h1:=(ziu hn).1 hb;have h2:=(ziu hn).1 hb';rw [h1] at h2;cases h2; rfl
 ·rw [List.mem_filterMap];constructor
  ·rintro ⟨s,hs,he⟩;have h1:=(ziu hn).1 he;have h2:=(pj.1 h1).1;refine ⟨h2,?_⟩;rw [List.getD_eq_getElem?_getD,h1];exact mem_iff.2 hs
  ·rintro ⟨h1,h2⟩;have h3:=pr h1;rw [List.getD_eq_getElem?_getD,h3] at h2;exact ⟨names[k],mem_iff.1 h2,(ziu hn).2 h3⟩
theorem ztq(x:Int):∀ l:List Int,(zgq x l).length=l.length+1
 | []=>rfl
 | y::l=>by
  unfold zgq;cases decide (x≤y)
  ·simp only [cond_false,List.length_cons,ztq x l]
  ·rfl
theorem zj8:∀ l:List Int,(we l).length=l.length
 | []=>rfl
 | x::l=>by simp only [we,ztq,zj8 l,List.length_cons]
theorem ztp:∀ us:List Nat,zjm (nI us)=some (us.map λ k:Nat=>(k:Int))
 | []=>rfl
 | u::us=>by
  show (match zjm (nI us) with | some l=>some ((u:Int)::l) | none=>none)=_
  rw [ztp us]; rfl
theorem m49(l:List D)(zs:List Int)(hz:zjm l=some zs)(h:l.length≤4294967296):zh cx 49 [.slo 0 1 l.length] [(0,.row l)]=some (.ret (.tup []),[(0,.row ((we zs).map (.int .i64)))]):=by
 cases l with
 | nil=>cases hz; exact zgo (n:=10) (by kernel_rfl)
 | cons x r=>
  refine zgo (n:=1) ?_;have e:zjh [.slo 0 1 (x::r).length] [(0,.row (x::r))]=some (.ret (.tup []),[(0,.row ((we zs).map (.int .i64)))]):=by
   show za (Nat.beq (x::r).length (x::r).length&&decide ((x::r).length≤4294967296)&&true) (zd (zjm (x::r)) _)=_;rw [Nat.beq_refl,pa h,hz]; rfl
  have e2:cx.nat 49 [.slo 0 1 (x::r).length] [(0,.row (x::r))]=zjh [.slo 0 1 (x::r).length] [(0,.row (x::r))]:=rfl;unfold wg zae;rw [e2,e]
def zed(x:D):Option (List D×List D):=zd (zl0 x) λ l=>za (decide (Sp.wr l=0)) (some ((nmL l).map .str,nI (List.range l.length)))
def z0v(x:D):Option Int:=zd (zl0 x) λ l=>za (!decide (Sp.wr l=0)) (some (Sp.wr l))
def okA(l:List T):Bool:=yi l&&T.oks l&&(l.all λ t=>Sp.right t||Sp.elem t)&&decide (xg l<2147483648)
def zdv(x:D):Option (List D):=zd (w9 Sp.toC x) λ l=>za (okA l) (some ((wo [] [] l).map .str))
def s49(l:List D):Option (List D):=zd (zjm l) λ zs=>za (decide (l.length≤4294967296)) (some ((we zs).map (.int .i64)))
theorem zu2{a:List V}{x:D}{b:List D}(h:zcj a=some x)(hb:zdv x=some b):zh cx 52 a []=some (.ret (.d (.sl 1 b)),[]):=by
 obtain ⟨m,hm,hb⟩:=zb hb;obtain ⟨ho,hb⟩:=zc hb;cases hb;obtain ⟨d,rfl,h2,_⟩:=zdy hm;unfold okA at ho;rw [ph,ph,ph] at ho;rw [vd h,(ze3 (λ x t h=>(wl h).1) h2).1];exact m52 m ho.1.1.1 ho.1.1.2 (List.all_eq_true.1 ho.1.2) (pc ho.2)
theorem z3b{l:List T}(h:okA l=true):zdv (.sl 5 (T.ds l))=some ((wo [] [] l).map .str):=by
 have ho:=h;unfold okA at ho;rw [ph,ph,ph] at ho;unfold zdv;rw [zmi (λ t ht=>zhv (vp ho.1.1.2 ht)) ho.1.1.1];show za (okA l) _=_;rw [h]; rfl
theorem zov{S:CK R1}(hS:knows cx S.S (zh cx)):knows cx (z7f s49 S).S (zh cx):=xp hS λ a σ q r hd h=>by
 obtain ⟨l,n⟩:=q;unfold z2a at hd;split at hd
 ·cases hd;obtain ⟨l',hl,h⟩:=zb h;obtain ⟨hn,h⟩:=zc h;cases h;obtain ⟨zs,hz,hl⟩:=zb hl;obtain ⟨h1,hl⟩:=zc hl;cases hl;have hn:n=l.length:=pg hn;subst hn;exact m49 l zs hz (pc h1)
 ·cases hd
theorem zwq:knows cx (qd zed zdv s49).S (zh cx):=
 zj (zj (zov zq) λ a q b hd h hb=>zu2 h hb) λ a q b hd h hb=>by
  obtain ⟨l,hl,hb⟩:=zb hb;obtain ⟨h1,hb⟩:=zc hb;cases hb;obtain ⟨h0,hg⟩:=ziz hl;rw [vd h,h0,m51 l hg,h1];rfl
theorem zwr:knows cx (z4i z0v).S (zh cx):=
 zj zq λ a q b hd h hb=>by
  obtain ⟨l,hl,hb⟩:=zb hb;obtain ⟨h1,hb⟩:=zc hb;cases hb;obtain ⟨h0,hg⟩:=ziz hl;have h2:decide (Sp.wr l=0)=false:=by simpa using h1
  rw [vd h,h0,m51 l hg,h2];rfl
theorem wr0{l:List T}(h:Sp.wr l=0):l.all yr=true∧(nmL l).Nodup:=by
 unfold Sp.wr at h;cases h1:l.all yr <;> rw [h1] at h
 ·simp at h
 ·cases h2:zce [] (nmL l) <;> rw [h2] at h
  ·exact ⟨rfl,by have:=zns (nmL l) [] List.nodup_nil h2; rwa [List.nil_append] at this⟩
  ·simp at h
theorem zy4{t:T}(h:yr t=true):∃ a b,t.kids=[a,b]∧Sp.right a=true∧Sp.right b=true:=by
 obtain ⟨k,nm,kids,nms,pl⟩:=t;unfold yr at h;split at h
 ·rename_i he;cases he;rw [ph,ph,ph] at h;exact ⟨_,_,rfl,h.1.2,h.2⟩
 ·cases h
theorem z1g{t:T}(h:t.ok=true):T.oks t.kids=true∧yi t.kids=true:=by
 obtain ⟨k,nm,kids,nms,pl⟩:=t;simp only [T.ok,ph] at h;exact ⟨h.2,h.1.1.1.2⟩
theorem zp9(t:T):xg t.kids<Sp.cnt t:=by
 obtain ⟨k,nm,kids,nms,pl⟩:=t;simp only [Sp.cnt,T.kids]; omega
theorem z0x{l:List T}(hg:zd7 l=true)(hd:l.all yr=true){t:T}(ht:t∈l):okA t.kids=true:=by
 obtain ⟨h1,h2,h3⟩:=zbx.1 hg;obtain ⟨a,b,he,ha,hb⟩:=zy4 (List.all_eq_true.1 hd t ht);obtain ⟨h4,h5⟩:=z1g (vp h2 ht);have h6:=zp9 t;have h7:=zn6 t;have h8:=zod ht;unfold okA;rw [h4,h5,pa (p:=xg t.kids<2147483648) (by omega),he]
 simp [ha,hb]
theorem zvq{R α S:Type}(L:Nat→Int→S→Option R)(xs:List α)(step:S→α→S)(I:Nat→S→Prop)(E:S→Option R)(hs:xs.length<4294967296)
  (H:∀ (k j:Nat) x s,j<xs.length→xs[j]?=some x→I j s→L (k+1) j s=L k (IntKind.i64.wrap ((j:Int)+1)) (step s x)∧I (j+1) (step s x)) (HE:∀ k s,I xs.length s→L (k+1) xs.length s=E s) {s:S} (h0:I 0 s) {k:Nat} (hk:xs.length<k) :
  L k 0 s=E (xs.foldl step s):=by
 have key:∀ (d j:Nat) (k:Nat) (s:S),j+d=xs.length→d<k→I j s→L k j s=E ((xs.drop j).foldl step s):=by
  intro d
  induction d with
  | zero=>
   intro j k s hj hk hi;obtain ⟨k,rfl⟩:∃ k',k=k'+1:=⟨k - 1,by omega⟩
   obtain rfl:j=xs.length:=by omega
   rw [HE _ _ hi,List.drop_length]; rfl
  | succ d ih=>
   intro j k s hj hk hi;obtain ⟨k,rfl⟩:∃ k',k=k'+1:=⟨k - 1,by omega⟩
   have hlt:j<xs.length:=by omega
   obtain ⟨h1,h2⟩:=H k j xs[j] s hlt (pr hlt) hi;rw [h1,IntWalk.i64_in _ (by omega)]
   have e:((j:Int)+1)=((j+1:Nat):Int):=by omega
   rw [e,ih (j+1) k _ (by omega) (by omega) h2,List.drop_eq_getElem_cons hlt]
   rfl
 have:=key xs.length 0 k s (by omega) hk h0
 rw [List.drop_zero] at this;exact this
theorem z0p(us:List Nat)(h:us.length≤4294967296):s49 (nI us)=some ((we (us.map λ k:Nat=>(k:Int))).map (.int .i64)):=by
 unfold s49;rw [ztp];show za (decide ((nI us).length≤4294967296)) _=_;rw [pa (by unfold nI; rw [pf]; exact h)]
 rfl
theorem z3l(n k:Nat)(l:List T)(names:List (List UInt8))(hnl:names.length<4294967296)(L:List D)(hL:L.length<4294967295)(b:List (List UInt8))(hb:yi b=true)(hbn:b.length<n)(hn:names.Nodup)(hbd:b.Nodup)(i:Int) :
  LP cx (qd zed zdv s49) n 24 0 10 n [(4,V.d (D.map (names.map .str) (nI (List.range names.length)))),(6,V.sl 1 L 6),(9,V.slo 9 1 0),(22,V.d (D.sl 5 (T.ds l))),(23,V.d (D.int .i64 (l.length:Int))),(24,V.d (D.int .i64 i)),(30,V.d (D.sl 1 (b.map .str))),(31,V.d (D.int .i64 (b.length:Int))),(32,V.d (D.int .i64 0))] [(6,Ob.tok L.length),(9,Ob.row [])] (AL cx (qd zed zdv s49) n 24 0 6 10 (inK cx (qd zed zdv s49) n 24 0 6 k (AK cx (qd zed zdv s49) n 24 0 6 (EK cx 24 0)))) =
  LP cx (qd zed zdv s49) n 24 0 6 k [(4,V.d (D.map (names.map .str) (nI (List.range names.length)))),(6,V.sl 1 (L++[D.sl 1 (nI (zat (λ k=>Sp.mem (names.getD k []) b) names.length))]) 6),(22,V.d (D.sl 5 (T.ds l))),(23,V.d (D.int .i64 (l.length:Int))),(24,V.d (D.int .i64 (IntKind.i64.wrap (i+1))))] [(6,Ob.tok (L++[D.sl 1 (nI (zat (λ k=>Sp.mem (names.getD k []) b) names.length))]).length)] (AK cx (qd zed zdv s49) n 24 0 6 (EK cx 24 0)):=by
 have h:=zvq (λ m j (us:List Nat)=>LP cx (qd zed zdv s49) n 24 0 10 m [(4,V.d (D.map (names.map .str) (nI (List.range names.length)))),(6,V.sl 1 L 6),(9,V.slo 9 1 (nI us).length),(22,V.d (D.sl 5 (T.ds l))),(23,V.d (D.int .i64 (l.length:Int))),(24,V.d (D.int .i64 i)),(30,V.d (D.sl 1 (b.map .str))),(31,V.d (D.int .i64 (b.length:Int))),(32,V.d (D.int .i64 j))] [(6,Ob.tok L.length),(9,Ob.row (nI us))] (AL cx (qd zed zdv s49) n 24 0 6 10 (inK cx (qd zed zdv s49) n 24 0 6 k (AK cx (qd zed zdv s49) n 24 0 6 (EK cx 24 0)))))
  b (zk7 names) (λ j us=>us.length≤j)
  (λ us=>LP cx (qd zed zdv s49) n 24 0 6 k [(4,V.d (D.map (names.map .str) (nI (List.range names.length)))),(6,V.sl 1 (L++[D.sl 1 ((we (us.map λ k:Nat=>(k:Int))).map (.int .i64))]) 6),(22,V.d (D.sl 5 (T.ds l))),(23,V.d (D.int .i64 (l.length:Int))),(24,V.d (D.int .i64 (IntKind.i64.wrap (i+1))))] [(6,Ob.tok (L.length+[D.sl 1 ((we (us.map λ k:Nat=>(k:Int))).map (.int .i64))].length))] (AK cx (qd zed zdv s49) n 24 0 6 (EK cx 24 0)))
  (y9 hb)
  (λ m j s us hj hs hi=>by
   have hu:(nI us).length=us.length:=by unfold nI; rw [pf]
   have hjb:=y9 hb;refine ⟨?_,?_⟩
   ·refine (z43 zed zdv s49 n k m l (names.map .str) (nI (List.range names.length)) L (nI us) b i j).trans ?_;rw [pf,yq hj,xi,qg,pm,hs];show (zd (vr (D.str s) (names.map .str) 0) _)=_;rw [zp3];unfold zk7 zb8;cases hf:yl (λ t=>decide (s=t)) names 0 with
    | none=>rfl
    | some d=>
     obtain ⟨e,x,h1,h2,_⟩:=zij hf;have h3:=(pj.1 h2).1;have h4:nI (us++[d])=nI us++[D.int .i64 (d:Int)]:=by unfold nI; rw [List.map_append]; rfl
     simp only;show (ze (nI (List.range names.length)) d λ y=>_)=_;rw [zfj,List.getElem?_range (by omega)]
     show za (Nat.beq (nI us).length (nI us).length&&decide ((nI us).length+[D.int .i64 (d:Int)].length≤4294967296)) _=_;rw [Nat.beq_refl,pa (p:=(nI us).length+[D.int .i64 (d:Int)].length≤4294967296) (by rw [hu]; simp only [List.length_cons,List.length_nil]; omega),h4,pe]
     rfl
   ·unfold zk7;cases zb8 names s with
    | none=>simp only; omega
    | some d=>simp only [pe,List.length_cons,List.length_nil]; omega)
  (λ m us hi=>by
   refine (z43 zed zdv s49 n k m l (names.map .str) (nI (List.range names.length)) L (nI us) b i b.length).trans ?_;have hjb:=y9 hb;rw [x6,cond_false];show (zd (s49 (nI us)) _)=_;rw [z0p us (by omega)]
   have e5:((we (us.map λ k:Nat=>(k:Int))).map (D.int .i64)).length=(nI us).length:=by unfold nI; rw [pf,zj8,pf,pf]
   show za (Nat.beq (nI us).length (nI us).length) (za (Nat.beq (nI us).length ((we (us.map λ k:Nat=>(k:Int))).map (D.int .i64)).length) (za (decide (L.length=L.length)&&decide (L.length+[D.sl 1 ((we (us.map λ k:Nat=>(k:Int))).map (D.int .i64))].length≤4294967296)) _))=_;rw [e5,Nat.beq_refl,pa (p:=L.length=L.length) rfl,pa (p:=L.length+[D.sl 1 ((we (us.map λ k:Nat=>(k:Int))).map (D.int .i64))].length≤4294967296) (by simp only [List.length_cons,List.length_nil]; omega)]
   rfl) (s:=[]) (Nat.le_refl _) (k:=n) hbn
 refine h.trans ?_;rw [z1s hn hbd];have e:((zat (λ k=>Sp.mem (names.getD k []) b) names.length).map λ k:Nat=>(k:Int)).map (D.int .i64)=nI (zat (λ k=>Sp.mem (names.getD k []) b) names.length):=by
  unfold nI; rw [List.map_map]; rfl
 rw [e,pe]
theorem zq8{α:Type}{l:List α}(h:l.length<4294967296):yi l=true:=pa h
theorem zhc(l:List T):(nmL l).length=l.length:=pf _
theorem zxs(a:List (List Nat))(u:List Nat):wt (a++[u])=wt a++[D.sl 1 (nI u)]:=by unfold wt; rw [List.map_append]; rfl
theorem zqj{α β:Type}(f:α→β):∀ (l:List α) (acc:List β),l.foldl (λ a x=>a++[f x]) acc=acc++l.map f
 | [],acc=>by simp
 | x::l,acc=>by rw [List.foldl_cons,zqj f l]; simp
def mkU(q:List (List Nat)×Int):V:=.tup [.d (.sl 1 (wt q.1)),.d (.int .i64 q.2)]
def zc1(l:List T):List (List Nat)×Int:=bif decide (Sp.wr l=0) then (zcs l,0) else ([],Sp.wr l)
theorem m24(l:List T)(hg:zd7 l=true):zh cx 24 [.d (.sl 5 (T.ds l))] []=some (.ret (mkU (zc1 l)),[]):=by
 unfold zc1;obtain ⟨h1,h2,h3⟩:=zbx.1 hg;have hlb:=zkq l;cases hw:decide (Sp.wr l=0)
 ·refine zl zwr (N:=0) ?_;have e:z0v (.sl 5 (T.ds l))=some (Sp.wr l):=by
   unfold z0v; rw [zsp hg];show za (!decide (Sp.wr l=0)) _=_;rw [hw]; rfl
  rw [z94,e];show (bif !decide (Sp.wr l=0) then _ else _)=_;rw [hw];rfl
 ·have hw0:=pc hw;obtain ⟨hd,hn⟩:=wr0 hw0;obtain ⟨N,hN⟩:∃ N,N=l.length+65537:=⟨_,rfl⟩;refine zl zwq (N:=N) ?_;have e:zed (.sl 5 (T.ds l))=some ((nmL l).map .str,nI (List.range l.length)):=by
   unfold zed; rw [zsp hg];show za (decide (Sp.wr l=0)) _=_;rw [hw]; rfl
  rw [ybj,e,yc]
  have h:=zhh (λ k j (us:List (List Nat))=>LP cx (qd zed zdv s49) N 24 0 6 k [(4,V.d (D.map ((nmL l).map .str) (nI (List.range (nmL l).length)))),(6,V.sl 1 (wt us) 6),(22,V.d (D.sl 5 (T.ds l))),(23,V.d (D.int .i64 (l.length:Int))),(24,V.d (D.int .i64 j))] [(6,Ob.tok (wt us).length)] (AK cx (qd zed zdv s49) N 24 0 6 (EK cx 24 0)))
   l (λ a t=>a++[zup (nmL l) t]) (λ j us=>us.length≤j) (λ us=>some (.ret (mkU (us,0)),[])) (y9 h1)
   (λ k j x us hj hx hi=>by
    have hmem:=po hx;have ho:=z0x hg hd hmem;have hjb:=y9 h1;have hud:(wt us).length=us.length:=by unfold wt; rw [pf]
    have hgl:=ztv (b:=[]) x.kids [];have hc1:=zp9 x;have hc2:=zn6 x;have hc3:=zod hmem;have hin:=z3l N k l (nmL l) (by rw [zhc]; omega) (wt us) (by omega) (wo [] [] x.kids) (zq8 (by simp only [List.length_nil] at hgl; omega)) (by simp only [List.length_nil] at hgl; omega) hn (znk x.kids List.nodup_nil) j
    refine ⟨?_,by simp only [pe,List.length_cons,List.length_nil]; omega⟩
    refine (z9w zed zdv s49 _ k l ((nmL l).map .str) (nI (List.range (nmL l).length)) (wt us) j).trans ?_;rw [yq hj,yc,yq hj,xi,yu,pm,hx];rw [cond_true,zci,xa];simp only [vq,zbm,zbt,zbs,zbr,zao,Bool.and_self];rw [zpl,Bool.true_or,cond_true,z3b ho];rw [zci,pf,zxs];exact hin)
   (λ k us=>by
    refine (z9w zed zdv s49 _ k l ((nmL l).map .str) (nI (List.range (nmL l).length)) (wt us) l.length).trans ?_;rw [x6,cond_false];rfl) (s:=[]) (Nat.le_refl _) (k:=N) (by omega)
  rw [zqj,List.nil_append,zhc] at h;exact h
theorem zra(p:Nat→Bool)(j:Nat):(zat p j).length≤j:=by
 unfold zat;exact Nat.le_trans (List.length_filter_le ..) (by rw [List.length_range]; exact Nat.le_refl _)
theorem zkm(l:List Nat):(nI l).length=l.length:=by unfold nI; rw [pf]
theorem zrk{R:Type}{l:List D}{i:Nat}{x:D}{K:D→Option R}(h:l[i]?=some x):ze l i K=K x:=by
 unfold ze; rw [h]
theorem cells3:Nat.beq 1 (cx.P.cellsOf 3)=true:=by kernel_rfl
theorem zsh{l:List (List Nat)}{j:Nat}{x:List Nat}(hx:l[j]?=some x):(wt l)[j]?=some (.sl 1 (nI x)):=by unfold wt; rw [List.getElem?_map,hx]; rfl
theorem zxr(l:List (List Nat)):(wt l).length=l.length:=by unfold wt; rw [pf]
def txW:List UInt8:=[97,32,58,32,85,32,61,32,83,49,59,32,98,32,58,32,85,32,61,32,85,59,32,99,32,58,32,97,32,61,32,98,97,115,101,59]
def nmT(s:List UInt8)(a:Int):T:=.mk 1 s [] [] a
def lw:List T:=[.mk 18 [97] [nmT [85] 4,nmT [83,49] 8] [] 0,.mk 18 [98] [nmT [85] 16,nmT [85] 20] [] 12,.mk 18 [99] [nmT [97] 27,nmT [98,97,115,101] 31] [] 23]
theorem w44:wg cx 100 44 [.d (.str txW)] []=some (.ret (.tup [.d (.sl 5 (T.ds lw)),.d (.int .i64 0),.d (.int .i64 0)]),[]):=by kernel_rfl
mutual
def z0o:T→T→Bool
 | .mk k nm kids nms pl,.mk k' nm' kids' nms' pl'=>decide (k=k')&&decide (nm=nm')&&zmp kids kids'&&decide (nms=nms')&&decide (pl=pl')
def zmp:List T→List T→Bool
 | [],[]=>true
 | a::l,b::m=>z0o a b&&zmp l m
 | _,_=>false
end
mutual
theorem z0n:∀ {a b:T},z0o a b=true→a=b
 | .mk k nm kids nms pl,.mk k' nm' kids' nms' pl',h=>by
  simp only [z0o,ph,decide_eq_true_eq] at h;obtain ⟨⟨⟨⟨rfl,rfl⟩,h3⟩,rfl⟩,rfl⟩:=h;rw [zka h3]
theorem zka:∀ {a b:List T},zmp a b=true→a=b
 | [],[],_=>rfl
 | a::l,b::m,h=>by
  simp only [zmp,ph] at h;rw [z0n h.1,zka h.2]
 | [],b::m,h=>by cases h
 | a::l,[],h=>by cases h
end
def z1j(x:D):Option Unit:=zd (w9 (zi 5) x) λ l=>za (zmp l lw) (some ())
theorem zhe{x:D}{u:Unit}(h:z1j x=some u):x=.sl 5 (T.ds lw):=by
 obtain ⟨l,hl,h⟩:=zb h;obtain ⟨h1,_⟩:=zc h;obtain ⟨d,rfl,h2,_⟩:=zdy hl;rw [(ze3 (λ x t h=>(y6 h).1) h2).1,zka h1]
theorem z3r:zd7 lw=true:=by kernel_rfl
theorem z26:zc1 lw=([[],[],[0]],0):=by kernel_rfl
def mkL(l:List Nat):V:=.tup [.d (.sl 1 (nI l)),.d (.int .i64 0)]
def z21:CK R1:=zy 24 zcj z1j (λ _=>mkU ([[],[],[0]],0)) (evK 40)
theorem zf7:knows cx z21.S (zh cx):=zj (zqp 40) λ a q b hd h hb=>by
 rw [vd h,zhe hb,m24 lw z3r,z26]
theorem w19:zk cx z21 10 19 [.d (.sl 5 (T.ds lw)),.d (.str [99])] []=some (.ret (mkL [0,2]),[]):=by kernel_rfl
theorem w21:zk cx z21 10 21 [.d (.sl 5 (T.ds lw))] []=some (.ret (mkL [1,2]),[]):=by kernel_rfl
theorem w26:zk cx z21 10 26 [.d (.sl 5 (T.ds lw))] []=some (.ret (mkL [0,1,2]),[]):=by kernel_rfl
def z9g:List V→Option Unit | [.d (.str s)]=>za (decide (s=txW)) (some ()) | _=>none
def z2f:List V→Option D | [.d x,.d (.str s)]=>za (decide (s=[99])) (some x) | _=>none
def yac:CK R1:=zy 44 z9g some (λ _=>.tup [.d (.sl 5 (T.ds lw)),.d (.int .i64 0),.d (.int .i64 0)]) (zy 19 z2f z1j (λ _=>mkL [0,2]) (zy 21 zcj z1j (λ _=>mkL [1,2]) (zy 26 zcj z1j (λ _=>mkL [0,1,2]) z21)))
theorem zws:knows cx yac.S (zh cx):=
 zj (zj (zj (zj zf7 λ a q b hd h hb=>by
   rw [vd h,zhe hb];exact zl zf7 (N:=10) w26) λ a q b hd h hb=>by
   rw [vd h,zhe hb];exact zl zf7 (N:=10) w21) λ a q b hd h hb=>by
   unfold z2f at h;split at h
   ·obtain ⟨h1,h⟩:=zc h;cases h;rw [zhe hb,pc h1];exact zl zf7 (N:=10) w19
   ·cases h) λ a q b hd h hb=>by
   unfold z9g at h;split at h
   ·obtain ⟨h1,h⟩:=zc h;rw [pc h1];exact zgo w44
   ·cases h
theorem w18:zk cx yac 10 18 [] []=some (.ret (mkB true),[]):=by kernel_rfl
theorem m18:zh cx 18 [] []=some (.ret (mkB true),[]):=zl zws (N:=10) w18
def mk2(q:List D×Int):V:=.tup [.d (.sl 1 q.1),.d (.int .i64 q.2)]
def ybp:List V→Option (D×D) | [.d x,.d y]=>some (x,y) | _=>none
def z2h:List V→Option Unit | []=>some () | _=>none
def yab(b:D→Int→Option Int):CK R1:=zy 28 zjw (λ q=>b q.1 q.2) mkI (CK.plain zo)
def yad(g:D→Option Bool):CK R1:=zy 43 zcj g mkB (CK.plain zo)
theorem ybg(b:D→Int→Option Int)(n:Nat)(l:List T):zk cx (yab b) n 43 [.d (.sl 5 (T.ds l))] []=zd (b (D.agg [D.int .i64 (0:Int),D.str [],D.sl 5 (T.ds l),D.sl 1 [],D.int .i64 (0:Int)],(400:Int)).fst (D.agg [D.int .i64 (0:Int),D.str [],D.sl 5 (T.ds l),D.sl 1 [],D.int .i64 (0:Int)],(400:Int)).snd) λ b=>some (Out.ret (V.d (D.bool (decide ((400:Int)<b)))),[]):=by kernel_rfl
theorem ybl(g:D→Option Bool)(n:Nat)(l:List T):zk cx (yad g) n 17 [.d (.sl 5 (T.ds l))] []=bif decide ((40:Int)<(↑(T.ds l).length:Int)) then some (Out.ret (V.d (D.bool true)),[]) else zd (g (D.sl 5 (T.ds l))) λ b=>some (Out.ret (V.d (D.bool b)),[]):=by kernel_rfl
def zq2(x:D):Option (List T):=zd (w9 Sp.toC x) λ l=>za (T.oks l) (some l)
theorem zq5{x:D}{l:List T}(h:zq2 x=some l):x=.sl 5 (T.ds l)∧yi l=true∧T.oks l=true:=by
 obtain ⟨m,hm,h⟩:=zb h;obtain ⟨h1,h⟩:=zc h;cases h;obtain ⟨d,rfl,h2,h3⟩:=zdy hm;exact ⟨by rw [(ze3 (λ x t h=>(wl h).1) h2).1],h3,h1⟩
theorem z0c{l:List T}(h1:yi l=true)(h2:T.oks l=true):zq2 (.sl 5 (T.ds l))=some l:=by
 unfold zq2;rw [zmi (λ t ht=>zhv (vp h2 ht)) h1];show za (T.oks l) _=_;rw [h2]; rfl
def zun(l:List T):T:=.mk 0 [] l [] 0
theorem z4a{l:List T}(h1:yi l=true)(h2:T.oks l=true):(zun l).ok=true:=by
 unfold zun; simp only [T.ok,h1,h2]; rfl
def zdr(l:List T):Bool:=decide ((40:Int)<(l.length:Int))||decide ((400:Int)<Sp.blk (zun l) 400)
def b28(x:D)(a:Int):Option Int:=zd (Sp.toC x) λ t=>za (decide (0≤a)&&decide (a≤1048576)) (some (Sp.blk t a))
theorem z19{a:List V}{q}(h:zjw a=some q):a=[.d q.1,.d (.int .i64 q.2)]:=zio h
theorem zzi{a:List V}{q:D×Int}{b:Int}(h:zjw a=some q)(hb:b28 q.1 q.2=some b):zh cx 28 a []=some (.ret (mkI b),[]):=by
 obtain ⟨t,ht,hb⟩:=zb hb;obtain ⟨h1,hb⟩:=zc hb;cases hb;rw [ph] at h1;obtain ⟨h0,hg⟩:=wl ht;rw [z19 h,h0];exact z4z t.depth t q.2 (Nat.le_refl _) hg (pc h1.1) (pc h1.2)
def g43(x:D):Option Bool:=zd (zq2 x) λ l=>some (decide ((400:Int)<Sp.blk (zun l) 400))
theorem m43(l:List T)(h1:yi l=true)(h2:T.oks l=true):zh cx 43 [.d (.sl 5 (T.ds l))] []=some (.ret (mkB (decide ((400:Int)<Sp.blk (zun l) 400))),[]):=by
 have hk:knows cx (yab b28).S (zh cx):=zj zq λ a q b hd h hb=>zzi h hb;refine zl hk (N:=0) ?_;rw [ybg];show zd (b28 (zun l).d 400) _=_;unfold b28;rw [zhv (z4a h1 h2)];rfl
theorem m17(l:List T)(h1:yi l=true)(h2:T.oks l=true):zh cx 17 [.d (.sl 5 (T.ds l))] []=some (.ret (mkB (zdr l)),[]):=by
 have hk:knows cx (yad g43).S (zh cx):=zj zq λ a q b hd h hb=>by
  obtain ⟨m,hm,hb⟩:=zb hb;cases hb;obtain ⟨h0,h1,h2⟩:=zq5 hm;rw [vd h,h0];exact m43 m h1 h2
 refine zl hk (N:=0) ?_;have e:g43 (.sl 5 (T.ds l))=some (decide ((400:Int)<Sp.blk (zun l) 400)):=by unfold g43; rw [z0c h1 h2]; rfl
 rw [ybl,yc,e];unfold zdr;cases decide ((40:Int)<(l.length:Int)) <;> rfl
def g17(x:D):Option Bool:=zd (zq2 x) λ l=>some (zdr l)
theorem zyt{a:List V}{x:D}{b:Bool}(h:zcj a=some x)(hb:g17 x=some b):zh cx 17 a []=some (.ret (mkB b),[]):=by
 obtain ⟨m,hm,hb⟩:=zb hb;cases hb;obtain ⟨h0,h1,h2⟩:=zq5 hm;rw [vd h,h0];exact m17 m h1 h2
theorem z6o{l:List T}(h1:yi l=true)(h2:T.oks l=true):g17 (.sl 5 (T.ds l))=some (zdr l):=by unfold g17; rw [z0c h1 h2]; rfl
theorem z6w{t:T}(h : ¬ (400:Int)<Sp.blk t 400):yo t≤400:=by
 obtain ⟨_,_,h3⟩:=zoh t 400 (by omega)
 have:=h3 (by omega)
 omega
theorem zvo{l:List T}(h1:yi l=true)(h2:T.oks l=true)(h:zdr l=false):zd7 l=true∧l.length≤40∧Sp.bulks l≤400:=by
 unfold zdr at h;rw [Bool.or_eq_false_iff] at h;have ha:=of_decide_eq_false h.1;have hb:=z6w (of_decide_eq_false h.2);simp only [zun,yo] at hb;exact ⟨zbx.2 ⟨h1,h2,by omega⟩,by omega,by omega⟩
def u24(x:D):Option (List D×Int):=zd (zl0 x) λ l=>some (wt (zc1 l).1,(zc1 l).2)
theorem z0a{l:List T}(h:zd7 l=true):u24 (.sl 5 (T.ds l))=some (wt (zc1 l).1,(zc1 l).2):=by unfold u24; rw [zsp h]; rfl
theorem zpg{a:List V}{x:D}{b}(h:zcj a=some x)(hb:u24 x=some b):zh cx 24 a []=some (.ret (mk2 b),[]):=by
 obtain ⟨m,hm,hb⟩:=zb hb;cases hb;obtain ⟨h0,h1⟩:=ziz hm;rw [vd h,h0];exact m24 m h1
theorem zxq{a:List V}{q:Unit}{b:Bool}(h:z2h a=some q)(hb:(some true:Option Bool)=some b):zh cx 18 a []=some (.ret (mkB b),[]):=by
 cases hb;unfold z2h at h; split at h <;> cases h;exact m18
def psT(s:List UInt8):St:=[(0,.val 1 (.d (.str s)))]
def pdT:St→Option (List UInt8) | [(0,.val 1 (.d (.str s)))]=>some s | _=>none
def zge(a:List V)(σ:St):Option (D×List UInt8):=match a with | [.d x,.ptr 0 0]=>zd (pdT σ) λ s=>some (x,s) | _=>none
def z2d(a:List V)(σ:St):Option (D×List UInt8):=match a with | [.d x,.func 46 [.ptr 0 0]]=>zd (pdT σ) λ s=>some (x,s) | _=>none
def txK{β:Type}(f:Nat)(dec:List V→St→Option (D×List UInt8))(p:D→List UInt8→Option β)(mk:β→V)(S:CK R1):CK R1:=
 more f dec (λ K q=>zd (p q.1 q.2) λ b=>K (.ret (mk b)) (psT q.2)) (λ K q=>by
   simp only;rw [ww];rfl) S
def psI(L:List D):St:=[(0,.val 1 (.slo 1 1 L.length)),(1,.row L)]
def pdI:St→Option (List D×Nat) | [(0,.val 1 (.slo 1 1 n)),(1,.row L)]=>some (L,n) | _=>none
def z2c(a:List V)(σ:St):Option (Int×(List D×Nat)):=match a with | [.d (.int .i64 i),.ptr 0 0]=>zd (pdI σ) λ q=>some (i,q) | _=>none
def yaa(ad:Int→List D→Option (List D))(S:CK R1):CK R1:=more 47 z2c (λ K q=>zd (ad q.1 q.2.1) λ L'=>za (Nat.beq q.2.2 q.2.1.length) (K (.ret (.tup [])) (psI L')))
  (λ K q=>by
   simp only;rw [ww];congr 1;funext s;simp only [za,xz];rfl) S
def z2b(a:List V)(σ:St):Option (Int×(List D×Nat)):=match a,σ with | [.slo 0 1 n,.d (.int .i64 i)],[(0,.row l)]=>some (i,(l,n)) | _,_=>none
def z4h{β:Type}(f:Nat)(c:Int→List D→Option β)(mk:β→V)(S:CK R1):CK R1:=more f z2b (λ K q=>zd (c q.1 q.2.1) λ b=>za (Nat.beq q.2.2 q.2.1.length) (K (.ret (mk b)) [(0,.row q.2.1)]))
  (λ K q=>by
   simp only;rw [ww];congr 1;funext s;simp only [za,xz];rfl) S
def zcp(u:D→Option (List D×Int))(ix:D→List UInt8→Option Int)(ad:Int→List D→Option (List D))(s:List D→Option (List D)):CK R1:=
 zy 24 zcj u mk2 (txK 45 z2d ix mkI (yaa ad (z7f s (CK.plain zo))))
end Go.Vai
end

/-
  Show: the library's functions that are taken as one step: strings.Builder's String, and strings.Join: they do what is said of them.
  Slice: which nodes of a graph hang on which: plain lists.
  Slice: what calls decode.
  Slice: lists of texts and of numbers: looked through, put together.
  Slice: the words of the language: what calls decode.
  Slice: the words of the language.
  Slice: the names of trees: what calls decode.
  Slice: the names that trees have.
  Slice: the names that trees have: the code does it.
  Slice: the document's names: what calls decode.
  Slice: the document's names of a tree are the same.
  Slice: the document's names of a tree: the code does it; the names of trees.
  Slice: declarations by their names: what calls decode.
-/
import Derived.Test.YtmolcgfhgdhgoaaGreatDoorSliPart4

set_option linter.all false
set_option linter.unusedSimpArgs false
set_option linter.unusedVariables false

section
set_option linter.unusedVariables false
namespace Go.Proofs
open Go.Shelf Go.RowKit
variable {P:Program} {ρ:Ren}
set_option maxHeartbeats 2000000 in
set_option maxRecDepth 100000 in
theorem Any.String_core(L:Lays.n169 P ρ)(X:Builder.Extra P ρ)(b:Nat)(w w2:World)(ao p:Option Addr)(n cap:Nat)(s:ByteArray)
  (c1:w.drew.cell? ⟨b,1,none⟩=some (.slice ao n cap))
  (hSD:(Builtin.unsafeSliceData_ #[(ρ.t 37)] (ρ.t 127) #[.slice ao n cap]).run P w.drew=.ok (.pointer p) w.drew)
  (hUS:(Builtin.unsafeString_ #[(ρ.t 127),(ρ.t 3)] (ρ.t 9) #[.pointer p,.int .i64 n]).run P w.drew=.ok (.string s) w2) :
  Calls P (ρ.f 169) #[.pointer (some ⟨b,0,none⟩)] w fun e w'=>e=.returned (.string s)∧w'=w2:=by
 have mixed:=L.mixed
 have t72:=L.t72; have a72:=L.a72; have z72:=L.z72; have v72:=L.v72; have u72:=run_underlying L.t72
 have t70:=L.t70; have a70:=L.a70; have z70:=L.z70; have v70:=L.v70; have u70:=run_underlying L.t70
 have t37:=L.t37; have a37:=L.a37; have z37:=L.z37; have v37:=L.v37; have u37:=run_underlying L.t37
 have t127:=L.t127; have a127:=L.a127; have z127:=L.z127; have v127:=L.v127; have u127:=run_underlying L.t127
 have t3:=L.t3; have a3:=L.a3; have z3:=L.z3; have v3:=L.v3; have u3:=run_underlying L.t3
 have t9:=L.t9; have a9:=L.a9; have z9:=L.z9; have v9:=L.v9; have u9:=run_underlying L.t9
 have t5:=X.t5; have a5:=X.a5; have z5:=X.z5; have v5:=X.v5; have u5:=run_underlying X.t5
 go_enter L.f169,Body.n169_ntmps ρ
 go_wp2
 go_region_o
 all_goals (go_wp2; go_ret; exact ⟨rfl,rfl⟩)
theorem Tryz.String_core(b:Nat)(w w2:World)(ao p:Option Addr)(n cap:Nat)(s:ByteArray)
  (c1:w.drew.cell? ⟨b,1,none⟩=some (.slice ao n cap))
  (hSD:(Builtin.unsafeSliceData_ #[174] 232 #[.slice ao n cap]).run Tryz.prog w.drew=.ok (.pointer p) w.drew)
  (hUS:(Builtin.unsafeString_ #[232,3] 9 #[.pointer p,.int .i64 n]).run Tryz.prog w.drew=.ok (.string s) w2) :
  Calls Tryz.prog 164 #[.pointer (some ⟨b,0,none⟩)] w fun e w'=>e=.returned (.string s)∧w'=w2:=
 Any.String_core Tryz.lays169 Tryz.Builder_Extra_169 b w w2 ao p n cap s c1 hSD hUS
end Go.Proofs
namespace Go.Vai
open Go.Proofs Go.Sort
section
variable {cx:Cx} {w w':World} {σ:St} {μ:Mu}
theorem zw8{w w':World}(h:RowKit.Below w.heap.size w w'){b i:Nat}{x:Value}(hc:w.cell? ⟨b,i,none⟩=some x):w'.cell? ⟨b,i,none⟩=some x:=by
 have:=h.block b (lt_of_cell hc)
 unfold World.cell? at hc ⊢
 simp only at hc ⊢
 rw [this]
 exact hc
theorem zhm(hi:Inv cx w σ μ)(h:RowKit.Below w.heap.size w w'):After cx w σ μ w' σ μ:=by
 have hu:Upd cx w σ μ w' σ μ []:=⟨h.os,h.output,h.size,fun b hb _=>h.block b hb,fun b i x _ hc=>zw8 h hc,rfl,fun _ _=>⟨rfl,rfl⟩,fun _ h=>by simp at h,fun _ h=>by simp at h,fun _ h=>by simp at h⟩
 exact hu.after hi (fun _ h=>by simp at h)
theorem zl6(w:World)(g n:Nat):∀ b,b ≠ g→(w.freeze ⟨g,0,none⟩ n).heap[b]?=w.heap[b]?:=fun b hb=>by
 unfold World.freeze
 split
 ·rfl
 ·simp [Array.getElem?_modify,Ne.symm hb]
theorem zum(w:World)(g n:Nat)(b k:Nat):(w.freeze ⟨g,0,none⟩ n).cell? ⟨b,k,none⟩=w.cell? ⟨b,k,none⟩:=by
 by_cases hbg:b=g
 ·subst hbg
  unfold World.freeze
  split
  ·rfl
  ·unfold World.cell?
   simp only [Array.getElem?_modify,if_true]
   cases h:w.heap[b]? with
   | none=>rfl
   | some o=>cases o <;> rfl
 ·unfold World.cell?
  simp only
  rw [zl6 w g n b hbg]
theorem z2t{id k:Nat}(ho:zi σ id=some (.tok k))(hos:w'.os=w.os)(hout:w'.output=w.output)(hsize:w.heap.size≤w'.heap.size)
  (hblk:∀ b,b<w.heap.size→(μ id).blk ≠ some b→w'.heap[b]?=w.heap[b]?) (hcell:∀ b i x,w.cell? ⟨b,i,none⟩=some x→w'.cell? ⟨b,i,none⟩=some x) :
  Upd cx w σ μ w' (qg σ id (.tok (k+1))) (setMu μ id ⟨none,0,0,0⟩) [id] where
 os:=hos
 output:=hout
 size:=hsize
 blk:=fun b hb h=>hblk b hb fun e=>h id (by simp) _ ho (μ id).f ⟨e,Nat.le_refl _⟩
 cell:=fun b i x _ h=>hcell b i x h
 fr:=rfl
 same:=fun j hj=>by
  have:id ≠ j:=fun e=>hj (by simp [e])
  exact ⟨by simp [zp,this],by simp [setMu,Ne.symm this]⟩
 own:=fun j hj q hq b i hown _=>by
  simp at hj; subst hj
  simp only [zp,if_true] at hq
  cases hq
  have:=hown.1
  simp [setMu] at this
 still:=fun j hj q hq=>by
  simp at hj; subst hj
  rw [ho] at hq; cases hq
  simp only [zp,if_true]
  exact ⟨by omega,fun h=>by omega⟩
 apart:=fun j hj j' hj' _ _ _ _ _ _ _ _ _=>by simp at hj hj'; rw [hj,hj']
theorem zwr{id k:Nat}(hi:Inv cx w σ μ)(ho:zi σ id=some (.tok k))(hos:w'.os=w.os)(hout:w'.output=w.output)(hsize:w.heap.size≤w'.heap.size)
  (hblk:∀ b,b<w.heap.size→(μ id).blk ≠ some b→w'.heap[b]?=w.heap[b]?) (hcell:∀ b i x,w.cell? ⟨b,i,none⟩=some x→w'.cell? ⟨b,i,none⟩=some x) :
  After cx w σ μ w' (qg σ id (.tok (k+1))) (setMu μ id ⟨none,0,0,0⟩):=
 (z2t ho hos hout hsize hblk hcell).after hi fun j hj o' ho'=>by
  simp at hj; subst hj
  simp only [zp,if_true] at ho'
  cases ho'
  intro b hb
  simp [setMu] at hb
theorem zlq:szN 6291457=1:=by decide
theorem zz5{id k:Nat}(hc:Canon σ)(ho:zi σ id=some (.tok k)):∀ j o,zi (qg σ id (.tok (k+1))) j=some o→j<σ.length∧∀ i∈o.ids,i<σ.length:=by
 intro j o hj
 rw [zp] at hj
 by_cases h:id=j
 ·subst h
  rw [if_pos rfl] at hj
  cases hj
  exact ⟨(hc id _ ho).1,by simp [Ob.ids]⟩
 ·rw [if_neg h] at hj
  exact hc j o hj
theorem zze(hP : cx.P = Tryz.prog){args : List V}{out : Out}{σ' : St}(h : zk0 args σ = some (out, σ')){vs : List Value}(hi : Inv cx w σ μ)(hcan : Canon σ)(hv : RVs w σ μ vs args) :
    ∃ u, out = .ret u ∧ (∀ k o, zi σ' k = some o → k < σ.length ∧ ∀ i ∈ o.ids, i < σ.length) ∧ (∀ i ∈ u.ids, i < σ.length) ∧
    Calls cx.P 164 vs.toArray w fun e w' => ∃ μ' x, e = .returned x ∧ After cx w σ μ w' σ' μ' ∧ RV w' σ' μ' x u := by
  unfold zk0 at h
  obtain ⟨i, hargs, h1⟩ := zd h
  clear h
  obtain rfl := zy4 hargs
  obtain ⟨⟨sz, l, id⟩, hq, h2⟩ := zd h1
  clear h1
  obtain ⟨n, p, r, ho⟩ := zvv hq
  obtain ⟨k, hk, h3⟩ := zd h2
  clear h2
  have ht := zvq hk
  obtain ⟨hc, h4⟩ := ze h3
  clear h3
  obtain ⟨s, hs, h⟩ := zd h4
  clear h4
  cases h
  clear hk hq hargs
  simp only at hs hc ht ho
  simp only [Bool.and_eq_true, decide_eq_true_eq] at hc
  obtain ⟨⟨hsz, hk⟩, hlen⟩ := hc
  have hsz := Nat.eq_of_beq_eq_true hsz
  subst hsz
  subst hk
  have hl := zox l s hs
  refine ⟨_, rfl, zz5 hcan ht, by simp [V.ids], ?_⟩
  -- the argument
  obtain ⟨v, rfl⟩ : ∃ v, vs = [v] := List.length_eq_one_iff.1 (by simpa using hv.1)
  have hv0 := hv.2 0 v _ rfl rfl
  cases hv0 with | ptr _ _ b _ hb => ?_
  obtain ⟨b', cs, el, hb', hh, _, _, _, hrs, _⟩ := hi.ob i _ ho
  obtain rfl : b = b' := by rw [hb] at hb'; exact Option.some.inj hb'
  obtain ⟨v1, hv1⟩ : ∃ v1, cs.toList[1]? = some v1 := yv (by rw [hrs.1]; simp [V.cells])
  have hr1 := hrs.2 1 v1 (.sl 6291457 l id) hv1 rfl
  cases hr1 with | sl _ _ _ _ n' hrd ht' hn' htail => ?_
  rw [ht] at ht'; cases ht'
  have htail := htail rfl
  rw [zlq] at hrd
  obtain ⟨base, cap, rfl⟩ := hrd.slice_inv
  have c1 : w.drew.cell? ⟨b, 1, none⟩ = some (.slice base l.length cap) := by
    show w.cell? ⟨b, 1, none⟩ = _
    rw [cell_of_heap hh]
    simpa using hv1
  rw [hP]
  have fin : ∀ w', w'.os = w.os → w'.output = w.output → w.heap.size ≤ w'.heap.size → (∀ b, b < w.heap.size → (μ id).blk ≠ some b → w'.heap[b]? = w.heap[b]?) →
      (∀ b i x, w.cell? ⟨b, i, none⟩ = some x → w'.cell? ⟨b, i, none⟩ = some x) →
      ∃ μ' x, Ending.returned (.string ⟨s.toArray⟩) = .returned x ∧ After cx w σ μ w' (qg σ id (.tok (l.length + 1))) μ' ∧ RV w' (qg σ id (.tok (l.length + 1))) μ' x (.d (.str s)) :=
    fun w' h1 h2 h3 h4 h5 => ⟨_, _, rfl, zwr hi ht h1 h2 h3 h4 h5, .d _ _ (.str s)⟩
  by_cases he : l = []
  · subst he
    have hs0 : s = [] := by cases s with | nil => rfl | cons a b => simp at hl
    subst hs0
    rcases htail with ⟨h1, _, _, h2⟩ | ⟨b2, o, _, _, _, _, _, h2⟩
    · subst h1
      obtain rfl : base = none := by rcases h2 with h2 | h2; · exact absurd h2 (by decide)
                                     · exact h2
      refine (Tryz.String_core b w w.drew none none 0 0 .empty c1 rfl (Lib.run_unsafeString_none w.drew 232 3 9 none)).mono ?_
      rintro e w' ⟨rfl, rfl⟩
      exact fin _ rfl rfl (Nat.le_refl _) (fun _ _ _ => rfl) (fun _ _ _ h => h)
    · rcases h2 with h2 | h2
      · exact absurd h2 (by decide)
      · exact absurd h2.2.2 (by simp)
  · have hpos : 0 < l.length := List.length_pos_iff.2 he
    rcases htail with ⟨_, h1, _⟩ | ⟨g, o, hbase, hg, hf, hend, hnc, h2⟩
    · omega
    rcases h2 with h2 | ⟨hel, ho0, _⟩
    · exact absurd h2 (by decide)
    subst hbase
    subst ho0
    obtain ⟨cs', el', fr', hh', hel', hcs', _⟩ := hi.ob id _ ht g hg
    have h6 : (6291457 : Nat) / 1048576 = 6 := by decide
    have hel5 : el' = 5 := by rw [hel']; rw [h6] at hel; exact (Nat.succ.inj hel).symm
    rw [zlq] at hend
    subst hel5
    have hsl : s.length = l.length := by rw [hl]; simp
    have hs0 : s ≠ [] := fun e => by rw [e] at hsl; simp at hsl; omega
    have hcell : ∀ j x, s[j]? = some x → w.drew.cell? ((⟨g, 0, none⟩ : Addr).add j) = some (.int .u8 x.toNat) := by
      intro j x hx
      have hj := (List.getElem?_eq_some_iff.1 hx).1
      generalize hnl : l.length = nl at hrd
      cases hrd with
      | sl0 => exact absurd rfl he
      | sl _ _ _ _ _ _ xs hn hcap hszs hcells hels =>
        have hlx : l[j]? = some (zme x) := by rw [hl, List.getElem?_map, hx]; rfl
        have h1 := hcells j (by omega)
        have h2 := hels j 0 (zme x) (zme x) hlx rfl
        simp only [Nat.mul_one, Nat.add_zero] at h2
        rw [show (⟨g, 0, none⟩ : Addr).add j = ⟨g, 0 + j, none⟩ from by by_cases hj0 : j = 0 <;> simp [Addr.add, hj0]]
        have h3 : w.cell? ⟨g, 0 + j, none⟩ = some (xs j) := h1.1
        generalize xs j = q at h2 h3
        unfold zme at h2
        cases h2
        exact h3
    have hUS := Lib.run_unsafeString_row (P := Tryz.prog) w.drew 232 3 9 5 (by kernel_rfl) (by kernel_rfl) g cs'.size (by show w.shape? g = _; simp [World.shape?, hh']) s hs0 (by rw [hsl, hcs']; omega) (by omega) hcell
    rw [hsl] at hUS
    refine (Tryz.String_core b w _ (some ⟨g, 0, none⟩) (some ⟨g, 0, none⟩) l.length cap ⟨s.toArray⟩ c1 (Lib.run_unsafeSliceData_row w.drew _ _ _ _ _ (by omega)) hUS).mono ?_
    rintro e w' ⟨rfl, rfl⟩
    refine fin _ ?_ ?_ ?_ (fun b' _ hb' => ?_) (fun b' i' x hx => ?_)
    · unfold World.freeze; split <;> rfl
    · unfold World.freeze; split <;> rfl
    · unfold World.freeze; split
      · exact Nat.le_refl _
      · simp
    · rw [zl6 w.drew g _ b' (fun e => hb' (by rw [e]; exact hg))]
      rfl
    · rw [zum]
      exact hx
theorem zv3(hP:cx.P=Tryz.prog){args:List V}{out:Out}{σ':St}(h:zj1 args σ=some (out,σ')){vs:List Value}(hi:Inv cx w σ μ)(hcan:Canon σ)(hv:RVs w σ μ vs args) :
  ∃ u,out=.ret u∧(∀ k o,zi σ' k=some o→k<σ.length∧∀ i∈o.ids,i<σ.length)∧(∀ i∈u.ids,i<σ.length) ∧
  Calls cx.P 192 vs.toArray w fun e w'=>∃ μ' x,e=.returned x∧After cx w σ μ w' σ' μ'∧RV w' σ' μ' x u:=by
 unfold zj1 at h
 split at h
 case h_2=>cases h
 rename_i sz xs sep
 obtain ⟨l,hl,h1⟩:=zd h
 clear h
 obtain ⟨hc,h⟩:=ze h1
 clear h1
 cases h
 simp only [Bool.and_eq_true,decide_eq_true_eq] at hc
 refine ⟨_,rfl,hcan,by simp [V.ids],?_⟩
 obtain ⟨v1,v2,rfl⟩:∃ v1 v2,vs=[v1,v2]:=by
  have:=hv.1
  match vs,this with
  | [a,b],_=>exact ⟨a,b,rfl⟩
 have h1:=hv.2 0 v1 _ rfl rfl
 have h2:=hv.2 1 v2 _ rfl rfl
 cases h2 with | d _ _ h2=>?_
 cases h2
 cases h1 with | d _ _ h1=>?_
 have hxs:=zkn xs l hl
 rw [hP]
 have fin:∀ (q:ByteArray) (w':World),q=xl (Lib.join l sep)→RowKit.Below w.heap.size w w'→∃ μ' x,Ending.returned (.string q)=.returned x∧After cx w σ μ w' σ μ'∧RV w' σ μ' x (.d (.str (Lib.join l sep))):=by
  rintro q w' rfl hb
  exact ⟨μ,_,rfl,zhm hi hb,.d _ _ (.str _)⟩
 cases h1 with
 | sl0 base cap _=>
  have hl0:l=[]:=by cases l with | nil=>rfl | cons a b=>simp at hxs
  subst hl0
  refine (Tryz.strings_Join_none base cap (xl sep) w).mono ?_
  rintro e w' ⟨rfl,rfl⟩
  exact fin _ _ (by simp [Lib.join,List.intercalate,xl]) (RowKit.Below.refl _ _)
 | sl b o n cap _ _ ys hn hcap hsz hcell hels=>
  subst hn
  by_cases h0:l=[]
  ·subst h0
   have hx0:xs=[]:=by simpa using hxs
   subst hx0
   refine (Tryz.strings_Join_none (some ⟨b,o,none⟩) cap (xl sep) w).mono ?_
   rintro e w' ⟨rfl,rfl⟩
   exact fin _ _ (by simp [Lib.join,List.intercalate,xl]) (RowKit.Below.refl _ _)
  have hlen:xs.length=(l.map xl).length:=by rw [hxs]; simp
  have hsz1:sz=1:=by
   have hne:xs ≠ []:=by rw [hxs]; simpa using h0
   obtain ⟨y,hy⟩:=List.exists_mem_of_ne_nil xs hne
   have:=hsz y hy
   rw [hxs] at hy
   obtain ⟨q,_,rfl⟩:=List.mem_map.1 hy
   exact this.symm
  subst hsz1
  have hmap:(l.map xl).map (·.data.toList)=l:=by
   rw [List.map_map]
   conv=>rhs; rw [←List.map_id l]
   exact List.map_congr_left fun a _=>by simp [xl]
  have hsep:(xl sep).data.toList=sep:=by simp [xl]
  have hj:=Tryz.strings_Join b o cap (l.map xl) (xl sep) w (fun j x hx=>?_) ?_ (by rw [←hlen,hxs]; simpa using hc.1) (by rw [←hlen]; exact hcap) (by rw [hmap,hsep]; exact hc.2)
  ·rw [hmap,hsep,←hlen] at hj
   refine hj.mono ?_
   rintro e w' ⟨rfl,hb⟩
   exact fin _ _ rfl hb
  ·rw [List.getElem?_map,Option.map_eq_some_iff] at hx
   obtain ⟨q,hq,rfl⟩:=hx
   have hjl:j<xs.length:=by rw [hlen]; simpa using (List.getElem?_eq_some_iff.1 hq).1
   have g1:=(hcell j (by omega)).1
   have hlx:xs[j]?=some (.str q):=by rw [hxs,List.getElem?_map,hq]; rfl
   have g2:=hels j 0 (.str q) (.str q) hlx rfl
   simp only [Nat.mul_one,Nat.add_zero] at g2
   generalize ys j=z at g1 g2
   cases g2
   exact g1
  ·have hpos:0<xs.length:=by rw [hlen]; simpa using List.length_pos_iff.2 h0
   exact lt_of_cell (hcell 0 (by omega)).1
theorem zir:∀ l:List Int,(vd l).Perm l
 | []=>.refl _
 | x::l=>by
  have ins:∀ (x:Int) (l:List Int),(zhf x l).Perm (x::l):=by
   intro x l
   induction l with
   | nil=>exact .refl _
   | cons y r ih=>
    unfold zhf
    cases decide (x≤y)
    ·exact (ih.cons y).trans (.swap x y r)
    ·exact .refl _
  exact (ins x _).trans ((zir l).cons x)
theorem ztp:∀ l:List Int,(vd l).Pairwise (·≤·)
 | []=>by simp [vd]
 | x::l=>by
  have ins:∀ (x:Int) (l:List Int),l.Pairwise (·≤·)→(zhf x l).Pairwise (·≤·):=by
   intro x l
   induction l with
   | nil=>intro _; simp [zhf]
   | cons y r ih=>
    intro h
    rw [List.pairwise_cons] at h
    unfold zhf
    by_cases hxy:x≤y
    ·rw [decide_eq_true hxy]
     simp only [cond_true,List.pairwise_cons,List.mem_cons]
     refine ⟨fun z hz=>?_,h⟩
     rcases hz with rfl | hz
     ·exact hxy
     ·exact Int.le_trans hxy (h.1 z hz)
    ·rw [decide_eq_false hxy]
     simp only [cond_false,List.pairwise_cons]
     refine ⟨fun z hz=>?_,ih h.2⟩
     have hz:z=x∨z∈r:=by
      have hp:(zhf x r).Perm (x::r):=by
       clear ih h hz hxy
       induction r with
       | nil=>exact .refl _
       | cons y r ih=>
        unfold zhf
        cases decide (x≤y)
        ·exact (ih.cons y).trans (.swap x y r)
        ·exact .refl _
      simpa using hp.mem_iff.1 hz
     rcases hz with rfl | hz
     ·omega
     ·exact h.1 z hz
  exact ins x _ (ztp l)
theorem zto(l:List Int):(l.mergeSort fun x y=>decide (x≤y))=vd l:=by
 have h1:(l.mergeSort fun x y=>decide (x≤y)).Pairwise (·≤·):=by
  have:=List.pairwise_mergeSort (le:=fun x y:Int=>decide (x≤y)) (by intro a b c; simp; omega) (by intro a b; simp; omega) l
  exact this.imp fun h=>by simpa using h
 exact ((List.mergeSort_perm l _).trans (zir l).symm).eq_of_pairwise (fun a b _ _ h1 h2=>by omega) h1 (ztp l)
theorem zqz:∀ {l:List D} {zs:List Int},zj5 l=some zs→l=zs.map (.int .i64)
 | [],zs,h=>by cases h; rfl
 | x::r,zs,h=>by
  unfold zj5 at h
  split at h
  ·rename_i he; cases he
  ·rename_i n q he
   cases he
   split at h
   ·rename_i l hl; cases h; rw [zqz hl]; rfl
   ·cases h
  ·cases h
theorem zv2(hP:cx.P=Tryz.prog){args:List V}{out:Out}{σ':St}(h:zj0 args σ=some (out,σ')){vs:List Value}(hi:Inv cx w σ μ)(hcan:Canon σ)(hv:RVs w σ μ vs args) :
  ∃ u,out=.ret u∧(∀ k o,zi σ' k=some o→k<σ.length∧∀ i∈o.ids,i<σ.length)∧(∀ i∈u.ids,i<σ.length) ∧
  Calls cx.P 49 vs.toArray w fun e w'=>∃ μ' x,e=.returned x∧After cx w σ μ w' σ' μ'∧RV w' σ' μ' x u:=by
 unfold zj0 at h
 split at h
 case h_2=>cases h
 rename_i id k
 split at h
 case h_2=>cases h
 rename_i l ho
 obtain ⟨hc,h1⟩:=ze h
 clear h
 obtain ⟨zs,hz,h⟩:=zd h1
 clear h1
 cases h
 simp only [Bool.and_eq_true,decide_eq_true_eq,Bool.not_eq_true'] at hc
 obtain ⟨⟨hk,hle⟩,hne⟩:=hc
 obtain rfl:=Nat.eq_of_beq_eq_true hk
 have hl:=zqz hz
 have hlen:l.length=zs.length:=by rw [hl]; simp
 have hpos:0<l.length:=by cases l with | nil=>simp at hne | cons=>simp
 refine ⟨_,rfl,fun j o hj=>?_,by simp [V.ids,V.idsL],?_⟩
 ·rw [zp] at hj
  by_cases h:id=j
  ·subst h
   rw [if_pos rfl] at hj
   cases hj
   exact ⟨(hcan id _ ho).1,by simp [Ob.ids]⟩
  ·rw [if_neg h] at hj
   exact hcan j o hj
 obtain ⟨v,rfl⟩:∃ v,vs=[v]:=List.length_eq_one_iff.1 (by simpa using hv.1)
 have hv0:=hv.2 0 v _ rfl rfl
 cases hv0 with | slo _ _ _ cap base l' hl' hkl hcap hn hat=>?_
 rw [ho] at hl'; cases hl'
 rcases hat rfl with ⟨_,_,hc0⟩ | ⟨b,rfl,hb,hf,hend⟩
 ·omega
 obtain ⟨cs,el,hh,hcs,h2,h3,h4,h5⟩:=hi.ob id _ ho b hb
 rw [hf] at h2 h4 h5
 have hget:∀ (j:Nat) z,zs[j]?=some z→cs[j]?=some (.int .i64 z):=fun j z hj=>by
  have hlj:l[j]?=some (.int .i64 z):=by rw [hl,List.getElem?_map,hj]; rfl
  obtain ⟨v,hv,hvc⟩:=h5 j 0 _ (.int .i64 z) hlj rfl
  cases hvc
  simpa using hv
 have hH:Holds (Value.int .i64) w b 0 zs.toArray:=fun j hj=>by
  have hj':j<zs.length:=by simpa using hj
  refine ⟨?_,?_⟩
  ·rw [cell_of_heap hh,Nat.zero_add,hget j zs[j] (List.getElem?_eq_getElem hj')]
   rw [getElem!_pos zs.toArray j hj]
   simp
  ·simp [World.frozen?,hh]
 rw [hP,show ([Value.slice (some ⟨b,0,none⟩) l.length cap]).toArray = #[.slice (some ⟨b,0,none⟩) zs.length cap] by rw [hlen]]
 refine (Tryz.slices_Sort_int b 0 cap zs w hH (lt_of_heap hh) (by omega)).mono ?_
 rintro e w' ⟨rfl,n,os,hw'⟩
 rw [zto] at hw'
 have hsl:(vd zs).length=zs.length:=(zir zs).length_eq
 have hlt:=lt_of_heap hh
 have hother:∀ b',b' ≠ b→b'<w.heap.size→w'.heap[b']?=w.heap[b']?:=fun b' hb' hlt'=>by
  rw [hw',heap_grow_old _ _ (by simpa [putRow,mapBlock,Sort.ahead] using hlt')]
  simp [putRow,mapBlock,Sort.ahead,Array.getElem?_modify,Ne.symm hb']
 have hnew:w'.heap[b]?=some (.cells (putCells (Value.int .i64) 0 (vd zs).toArray cs) el (0,0)):=by
  rw [hw',heap_grow_old _ _ (by simpa [putRow,mapBlock,Sort.ahead] using hlt)]
  simp [putRow,mapBlock,Sort.ahead,Array.getElem?_modify,hh,onCells]
 have hsize:w.heap.size≤w'.heap.size:=by rw [hw']; simp [grow,putRow,mapBlock,Sort.ahead]
 have hup:Upd cx w σ μ w' (qg σ id (.row ((vd zs).map (.int .i64)))) μ [id]:={
  os:=by rw [hw']; rfl,output:=by rw [hw']; rfl,size:=hsize,
  blk:=fun b' hb' hno=>hother b' (fun e=>hno id (by simp) _ ho 0 (by rw [e]; exact hb)) hb',
  cell:=fun b' i x hno hc=>by
   have hne:b' ≠ b:=fun e=>hno id (by simp) _ ho (by rw [e]; exact hb)
   have:=hother b' hne (lt_of_cell hc)
   unfold World.cell? at hc ⊢
   simp only at hc ⊢
   rw [this]; exact hc,
  fr:=rfl,same:=fun j hj=>⟨by rw [zp,if_neg (Ne.symm (by simpa using hj))],rfl⟩,
  own:=fun j hj q hq b' i hown _=>by
   simp at hj; subst hj
   rw [zp,if_pos rfl] at hq; cases hq
   exact ⟨_,ho,hown⟩,
  still:=fun j hj q hq=>by
   simp at hj; subst hj
   rw [ho] at hq; cases hq
   rw [zp,if_pos rfl]
   exact ⟨by simp [hsl,hlen],fun _=>rfl⟩,
  apart:=fun j hj j' hj' _ _ _ _ _ _ _ _ _=>by simp at hj hj'; rw [hj,hj'] }
 refine ⟨μ,_,rfl,hup.after hi fun j hj o' ho'=>?_,.tup #[] [] rfl (by simp)⟩
 simp at hj; subst hj
 rw [zp,if_pos rfl] at ho'; cases ho'
 refine qb.of hb hnew (by simp [putCells,hcs]) (by rw [hf]; simp [putCells,hsl]; omega) (fun x hx=>?_) (fun y hy=>?_) fun k c hk=>?_
 ·simp only [putCells,Array.toList_mapIdx,List.mem_mapIdx] at hx
  obtain ⟨i,hi',hx⟩:=hx
  rw [←hx]
  split
  ·rfl
  ·exact h3 _ (List.getElem_mem _)
 ·rw [hf]
  obtain ⟨z,_,rfl⟩:=List.mem_map.1 hy
  rfl
 ·have hfl:yn ((vd zs).map (.int .i64))=(vd zs).map (.int .i64):=by
   unfold yn
   generalize vd zs=q
   induction q with
   | nil=>rfl
   | cons a q ih=>simp only [List.map_cons,List.flatMap_cons,ih]; rfl
  rw [hfl,List.getElem?_map,Option.map_eq_some_iff] at hk
  obtain ⟨z,hz',rfl⟩:=hk
  have hklt:=(List.getElem?_eq_some_iff.1 hz').1
  refine ⟨.int .i64 z,?_,.int _ _⟩
  have hkc:k<cs.size:=by omega
  simp only [putCells,Array.getElem?_mapIdx,Array.getElem?_eq_getElem hkc,Option.map_some]
  rw [if_pos ⟨Nat.zero_le _,by simpa using hklt⟩]
  rw [getElem!_pos _ _ (by simpa using hklt)]
  have:(vd zs)[k]=z:=(List.getElem?_eq_some_iff.1 hz').2
  simp [this]
theorem znh{n:Nat}{l:List (List UInt8)}{v:Value}(hi:Inv cx w σ μ)(h:w'.ownsRow w.heap.size 9 1 v n (l.map fun s=>Value.string (xl s)))(hn:l.length=n)(haf:After cx w σ μ w' σ μ):RD w' (zr σ μ) v (.sl 1 (l.map .str)):=by
 obtain ⟨hlen,h⟩:=h
 rcases h with ⟨rfl,h0⟩ | ⟨g,cap,cur,rfl,hg,hh,hcap,_,hsize,htake⟩
 ·have:l=[]:=List.eq_nil_of_length_eq_zero (by omega)
  subst this
  exact .sl0 _ _ _
 ·have hfree:∀ i,¬ zr σ μ g i:=fun i ho=>by
   rcases ho with hf | ⟨id,o,ho,hown⟩
   ·exact absurd (hi.frLt _ _ hf) (by omega)
   ·exact absurd (zes hi ho hown) (by omega)
  refine RD.ofRow (cs:=cur) hh (by simp [hn]) hcap (fun y hy=>by obtain ⟨s,_,rfl⟩:=List.mem_map.1 hy; rfl) (fun k c hk=>?_) fun k _=>by rw [Nat.zero_add]; exact hfree k
  have hfl:yn (l.map .str)=l.map .str:=by
   unfold yn
   clear hlen htake hn hk
   induction l with
   | nil=>rfl
   | cons a q ih=>simp only [List.map_cons,List.flatMap_cons,ih]; rfl
  rw [hfl,List.getElem?_map,Option.map_eq_some_iff] at hk
  obtain ⟨s,hs,rfl⟩:=hk
  have hklt:=(List.getElem?_eq_some_iff.1 hs).1
  have:(cur.toList.take (n * 1))[k]?=some (.string (xl s)):=by rw [htake,List.getElem?_map,hs]; rfl
  rw [List.getElem?_take,if_pos (by omega)] at this
  exact ⟨_,by simpa using this,.str s,rfl⟩
theorem zt2(hP:cx.P=Tryz.prog){args:List V}{out:Out}{σ':St}(h:znp args σ=some (out,σ')){vs:List Value}(hi:Inv cx w σ μ)(hcan:Canon σ)(hv:RVs w σ μ vs args) :
  ∃ u,out=.ret u∧(∀ k o,zi σ' k=some o→k<σ.length∧∀ i∈o.ids,i<σ.length)∧(∀ i∈u.ids,i<σ.length) ∧
  Calls cx.P 99 vs.toArray w fun e w'=>∃ μ' x,e=.returned x∧After cx w σ μ w' σ' μ'∧RV w' σ' μ' x u:=by
 unfold znp at h
 split at h
 case h_2=>cases h
 rename_i xs
 obtain ⟨hc,h1⟩:=ze h
 clear h
 obtain ⟨l,hl,h⟩:=zd h1
 clear h1
 cases h
 have hc:=of_decide_eq_true hc
 have hxs:=zkn xs l hl
 subst hxs
 rw [List.length_map] at hc
 refine ⟨_,rfl,hcan,by simp [V.ids],?_⟩
 obtain ⟨v,rfl⟩:∃ v,vs=[v]:=List.length_eq_one_iff.1 (by simpa using hv.1)
 have hv0:=hv.2 0 v _ rfl rfl
 cases hv0 with | d _ _ hd=>?_
 rw [hP]
 have e0:∀ zs:List (List UInt8),(zs.map xl).map (Value.string)=zs.map fun s=>Value.string (xl s):=fun zs=>by rw [List.map_map]; rfl
 by_cases hne:l=[]
 ·subst hne
  obtain ⟨base,cap,rfl⟩:=hd.slice_inv
  cases base with
  | none=>
   refine (Tryz.slices_Clone_string_nil 0 cap w).mono ?_
   rintro e w' ⟨rfl,rfl⟩
   exact ⟨μ,_,rfl,After.refl hi,.d _ _ (.sl0 _ _ _)⟩
  | some a=>
   refine (Tryz.slices_Clone_string_zero a cap w).mono ?_
   rintro e w' ⟨v',rfl,ho,_,hb⟩
   have haf:=zhm hi hb
   exact ⟨μ,_,rfl,haf,.d _ _ (znh (l:=[]) hi ho rfl haf)⟩
 ·generalize hnl:(l.map D.str)=q at hd
  cases hd with
  | sl0=>exact absurd (by simpa using hnl) hne
  | sl b o n cap _ _ ys hn hcap hsz hcell hels=>
   subst hnl
   have hn:n=l.length:=by simpa using hn
   subst hn
   have hj:=Tryz.slices_Clone_string b o l.length cap (l.map xl) w (by simp) (by omega) (fun j hj=>by
    have hj':j<l.length:=by simpa using hj
    have g1:=(hcell j (by omega)).1
    have hlx:(l.map D.str)[j]?=some (.str l[j]):=by rw [List.getElem?_map,List.getElem?_eq_getElem hj']; rfl
    have g2:=hels j 0 (.str l[j]) (.str l[j]) hlx rfl
    simp only [Nat.mul_one,Nat.add_zero] at g2
    generalize ys j=z at g1 g2
    cases g2
    rw [g1]
    simp [List.getD_eq_getElem?_getD,hj'])
   refine hj.mono ?_
   rintro e w' ⟨v',rfl,ho,_,hb⟩
   have haf:=zhm hi hb
   rw [List.take_of_length_le (by simp),e0] at ho
   exact ⟨μ,_,rfl,haf,.d _ _ (znh hi ho rfl haf)⟩
theorem z4w(hP : cx.P = Tryz.prog)(hg : ∀ g e, cx.grow g = some e → g = 165 ∧ e = 9) : z39 cx := by
  intro g e h n w h0 h1
  obtain ⟨rfl, rfl⟩ := hg g e h
  refine ⟨⟨_, by rw [hP]; exact Tryz.func165, by kernel_rfl⟩, ?_⟩
  obtain ⟨m, rfl⟩ : ∃ m : Nat, n = (m : Int) := ⟨n.toNat, by omega⟩
  rw [hP]
  by_cases hm : m = 0
  · subst hm
    refine (Any8.slices_Grow_room Tryz.growS none 0 0 0 w (by omega) (by omega) (by omega) (by omega)).mono ?_
    rintro x w' ⟨rfl, rfl⟩
    exact ⟨none, 0, rfl, .inl ⟨rfl, rfl, rfl⟩⟩
  · have hi9 : Tryz.prog.info? 9 = Tryz.prog.info? 9 := rfl
    obtain ⟨i, hi⟩ : ∃ i, Tryz.prog.info? 9 = some i := by
      cases hq : Tryz.prog.info? 9 with
      | some i => exact ⟨i, rfl⟩
      | none => have : (Tryz.prog.info? 9).isSome = true := by kernel_rfl
                rw [hq] at this; cases this
    have hs : (Tryz.prog.info? 9).map (fun i => (i.zero.isSome, i.size, i.bytes)) = some (true, 1, 16) := by kernel_rfl
    rw [hi] at hs
    simp only [Option.map_some, Option.some.injEq, Prod.mk.injEq] at hs
    obtain ⟨hz, hsz, hby⟩ := hs
    obtain ⟨z, hz⟩ := Option.isSome_iff_exists.1 hz
    have hzc : z.cells.size = 1 := by
      have : (Tryz.prog.info? 9).bind (fun i => i.zero.map fun z => z.cells.size) = some 1 := by kernel_rfl
      rw [hi] at this
      simp only [Option.bind_some, hz, Option.map_some, Option.some.injEq] at this
      exact this
    refine (Any8.slices_Grow_grow Tryz.growS i z hi hz (by omega) none 0 0 m [] w (by omega) (by omega) (by rw [hby]; omega) (by omega) (by simp) (fun _ => rfl) (fun a h => by cases h)).mono ?_
    rintro x w' ⟨rfl, rfl⟩
    refine ⟨_, _, rfl, .inr ⟨_, _, rfl, rfl, ?_⟩⟩
    have hc1 : Tryz.prog.cellsOf 9 = 1 := by kernel_rfl
    have hge := grownCap_ge w (0 + m) 0 9
    simp only [Array.size_append, vg, hzc, hc1]
    show ([] : List Value).toArray.size + (0 + m - 0) * 1 + (_ - (0 + m)) * 1 = _ * 1
    simp only [List.size_toArray, List.length_nil]
    have hge : 0 + m ≤ grownCap w (0 + m) 0 (Tryz.growS_ren.t 25) := hge
    omega
theorem zmt{f g : Nat}{out : Out}{σ' : St}{vs : List Value}(hfg : f = g)(hfn : ∃ fn, cx.P.funcs[g]? = some fn ∧ fn.body.isNone = false) : (∃ u, out = .ret u ∧ (∀ k o, zi σ' k = some o → k < σ.length ∧ ∀ i ∈ o.ids, i < σ.length) ∧ (∀ i ∈ u.ids, i < σ.length) ∧
      Calls cx.P g vs.toArray w fun e w' => ∃ μ' x, e = .returned x ∧ After cx w σ μ w' σ' μ' ∧ RV w' σ' μ' x u) →
    (∃ fn, cx.P.funcs[f]? = some fn ∧ fn.body.isNone = false) ∧ (∀ k o, zi σ' k = some o → k < σ.length ∧ ∀ i ∈ o.ids, i < σ.length) ∧ (∀ i ∈ (match out with | .ret v => v.ids | .pan v => v.ids), i < σ.length) ∧
    Calls cx.P f vs.toArray w fun e w' => ∃ μ', After cx w σ μ w' σ' μ' ∧
      match out, e with
      | .ret v, .returned x => RV w' σ' μ' x v
      | .pan v, .panicked chain => ∃ x, chain = [{ v := x, recovered := false }] ∧ RV w' σ' μ' x v
      | _, _ => False := by
  intro h
  subst hfg
  obtain ⟨u, rfl, h1, h2, h3⟩ := h
  refine ⟨hfn, h1, h2, h3.mono ?_⟩
  rintro e w' ⟨μ', x, rfl, ha, hr⟩
  exact ⟨μ', ha, hr⟩
theorem nat_ok(hP:cx.P=Tryz.prog)(hg:∀ g e,cx.grow g=some e→g=165∧e=9):zad cx nat:=by
 refine ⟨z4w hP hg,?_⟩
 intro f args σ out σ' h w μ vs hi hcan hids hall hv
 unfold nat at h
 cases h1:Nat.beq f 164 <;> rw [h1] at h
 ·rw [cond_false] at h
  cases h2:Nat.beq f 192 <;> rw [h2] at h
  ·rw [cond_false] at h
   cases h3:Nat.beq f 49 <;> rw [h3] at h
   ·rw [cond_false] at h
    cases h4:Nat.beq f 99 <;> rw [h4] at h
    ·cases h
    ·exact zmt (Nat.eq_of_beq_eq_true h4) ⟨_,by rw [hP]; exact Tryz.func99,by kernel_rfl⟩ (zt2 hP h hi hcan hv)
   ·exact zmt (Nat.eq_of_beq_eq_true h3) ⟨_,by rw [hP]; exact Tryz.func49,by kernel_rfl⟩ (zv2 hP h hi hcan hv)
  ·exact zmt (Nat.eq_of_beq_eq_true h2) ⟨_,by rw [hP]; exact Tryz.func192,by kernel_rfl⟩ (zv3 hP h hi hcan hv)
 ·exact zmt (Nat.eq_of_beq_eq_true h1) ⟨_,by rw [hP]; exact Tryz.func164,by kernel_rfl⟩ (zze hP h hi hcan hv)
end
end Go.Vai
end

section
namespace Go.Vai
theorem zm3:∀ {l l':List Int},l.Pairwise (· < ·)→l'.Pairwise (· < ·)→(∀ x,x∈l↔x∈l')→l=l'
 | [],[],_,_,_=>rfl
 | [],y::r,_,_,h=>by have:=(h y).2 (List.mem_cons_self ..); cases this
 | x::r,[],_,_,h=>by have:=(h x).1 (List.mem_cons_self ..); cases this
 | x::r,y::q,h1,h2,h=>by
  rw [List.pairwise_cons] at h1 h2
  have hxy:x=y:=by
   have a:=(h x).1 (List.mem_cons_self ..)
   have b:=(h y).2 (List.mem_cons_self ..)
   rw [List.mem_cons] at a b
   rcases a with a | a
   ·exact a
   ·rcases b with b | b
    ·exact b.symm
    ·have:=h2.1 x a; have:=h1.1 y b; omega
  subst hxy
  rw [zm3 h1.2 h2.2 fun z=>?_]
  constructor
  ·intro hz
   have:=(h z).1 (List.mem_cons_of_mem _ hz)
   rw [List.mem_cons] at this
   rcases this with rfl | this
   ·have:=h1.1 z hz; omega
   ·exact this
  ·intro hz
   have:=(h z).2 (List.mem_cons_of_mem _ hz)
   rw [List.mem_cons] at this
   rcases this with rfl | this
   ·have:=h2.1 z hz; omega
   ·exact this
theorem znq{x y:Int}:∀ {l:List Int},y∈zhf x l↔y=x∨y∈l
 | []=>by simp [zhf]
 | z::l=>by
  unfold zhf
  cases decide (x≤z)
  ·simp only [cond_false,List.mem_cons,znq (l:=l)]
   constructor
   ·rintro (h | h | h)
    ·exact .inr (.inl h)
    ·exact .inl h
    ·exact .inr (.inr h)
   ·rintro (h | h | h)
    ·exact .inr (.inl h)
    ·exact .inl h
    ·exact .inr (.inr h)
  ·simp only [cond_true,List.mem_cons]
theorem zl3{x:Int}:∀ {l:List Int},l.Pairwise (· < ·)→x ∉ l→(zhf x l).Pairwise (· < ·)
 | [],_,_=>by simp [zhf]
 | z::l,h,hx=>by
  unfold zhf
  rw [List.pairwise_cons] at h
  simp only [List.mem_cons,not_or] at hx
  by_cases hz:x≤z
  ·rw [decide_eq_true hz]
   simp only [cond_true,List.pairwise_cons,List.mem_cons]
   refine ⟨fun y hy=>?_,h⟩
   rcases hy with rfl | hy
   ·omega
   ·have:=h.1 y hy; omega
  ·rw [decide_eq_false hz]
   simp only [cond_false,List.pairwise_cons]
   refine ⟨fun y hy=>?_,zl3 h.2 hx.2⟩
   rw [znq] at hy
   rcases hy with rfl | hy
   ·omega
   ·exact h.1 y hy
theorem zk2{y:Int}:∀ {l:List Int},y∈vd l↔y∈l
 | []=>by simp [vd]
 | z::l=>by simp [vd,znq,zk2 (l:=l)]
theorem zjj:∀ {l:List Int},l.Nodup→(vd l).Pairwise (· < ·)
 | [],_=>by simp [vd]
 | z::l,h=>by
  rw [List.nodup_cons] at h
  exact zl3 (zjj h.2) fun hm=>h.1 (zk2.1 hm)
def qi(p:Nat→Bool)(n:Nat):List Nat:=(List.range n).filter p
theorem zvz(p:Nat→Bool)(n:Nat):((qi p n).map fun k:Nat=>(k:Int)).Pairwise (· < ·):=by
 rw [List.pairwise_map]
 have:(List.range n).Pairwise (· < ·):=List.pairwise_lt_range
 refine (this.sublist List.filter_sublist).imp ?_
 intro a b h; omega
theorem zx3{p:Nat→Bool}{n k:Nat}:k∈qi p n↔k<n∧p k=true:=by simp [qi]
theorem zjz{l:List Nat}{k:Nat}:((k:Int)∈l.map fun k:Nat=>(k:Int))↔k∈l:=by
 rw [List.mem_map]
 constructor
 ·rintro ⟨a,ha,he⟩
  have:a=k:=by omega
  exact this ▸ ha
 ·intro h; exact ⟨k,h,rfl⟩
theorem z1d{l:List Nat}{n:Nat}{p:Nat→Bool}(hn:l.Nodup)(h:∀ k,k∈l↔k<n∧p k=true):vd (l.map fun k:Nat=>(k:Int))=(qi p n).map fun k:Nat=>(k:Int):=by
 have hnd:(l.map fun k:Nat=>(k:Int)).Nodup:=by
  unfold List.Nodup
  rw [List.pairwise_map]
  exact hn.imp fun hab e=>hab (by omega)
 refine zm3 (zjj hnd) (zvz p n) fun x=>?_
 rw [zk2]
 constructor
 ·intro hx
  obtain ⟨k,hk,rfl⟩:=List.mem_map.1 hx
  exact zjz.2 (zx3.2 ((h k).1 hk))
 ·intro hx
  obtain ⟨k,hk,rfl⟩:=List.mem_map.1 hx
  exact zjz.2 ((h k).2 (zx3.1 hk))
def Sp.row(U:List (List Nat))(k:Nat):List Nat:=U.getD k []
inductive Reach (U:List (List Nat)) (s:Nat):Nat→Prop
 | here:Reach U s s
 | step {j k:Nat} (h:Reach U s j) (hk:k∈Sp.row U j):Reach U s k
def zxk(U:List (List Nat)):Prop:=∀ u∈U,∀ k∈u,k<U.length
theorem zxk.row{U:List (List Nat)}(h:zxk U){j k:Nat}(hk:k∈Sp.row U j):k<U.length:=by
 unfold Sp.row at hk
 rw [List.getD_eq_getElem?_getD] at hk
 cases hj:U[j]? with
 | none=>rw [hj] at hk; cases hk
 | some u=>rw [hj] at hk; exact h u (List.mem_of_getElem? hj) k hk
theorem Reach.lt{U:List (List Nat)}{s k:Nat}(hU:zxk U)(hs:s<U.length)(h:Reach U s k):k<U.length:=by
 cases h with
 | here=>exact hs
 | step _ hk=>exact hU.row hk
end Go.Vai
end

section
namespace Go.Vai
open Go.Proofs
def zfm:List V→Option (D×List UInt8) | [.d x,.d (.str s)]=>some (x,s) | _=>none
end Go.Vai
end

section
namespace Go.Vai
open Go.Proofs
theorem yb5(n:Nat)(l:List (List UInt8))(s:List UInt8):zk cx (CK.plain zm) n 132 [.d (.sl 1 (l.map .str)),.d (.str s)] []=LP cx (CK.plain zm) n 132 0 2 n [(0,V.d (D.sl 1 (List.map D.str l))),(1,V.d (D.str s)),(7,V.d (D.int .i64 (↑(List.map D.str l).length:Int))),(8,V.d (D.int .i64 (0:Int)))] [] (AK cx (CK.plain zm) n 132 0 2 (EK cx 132 0)):=by kernel_rfl
theorem z6l(n k:Nat)(l:List (List UInt8))(s:List UInt8)(i:Int):LP cx (CK.plain zm) n 132 0 2 (k+1) [(0,.d (.sl 1 (l.map .str))),(1,.d (.str s)),(7,.d (.int .i64 (l.length:Int))),(8,.d (.int .i64 i))] [] (AK cx (CK.plain zm) n 132 0 2 (EK cx 132 0))=bif decide (i<(↑l.length:Int)) then zb (decide (0≤i)&&decide (i<(↑(List.map D.str l).length:Int))) (za (List.map D.str l) i.toNat fun y=>za y.cells 0 fun c=>match c with
 | D.str s_1=>bif decide (s=s_1) then some (Out.ret (V.d (D.int .i64 i)),[]) else LP cx (CK.plain zm) n 132 0 2 k [(0,V.d (D.sl 1 (List.map D.str l))),(1,V.d (D.str s)),(7,V.d (D.int .i64 (↑l.length:Int))),(8,V.d (D.int .i64 (IntKind.i64.wrap (i+(1:Int)))))] [] (AK cx (CK.plain zm) n 132 0 2 (EK cx 132 0))
 | x=>none) else some (Out.ret (V.d (D.int .i64 (Int.negSucc 0))),[]):=by kernel_rfl
theorem ydu(n:Nat)(l:List (List UInt8))(s:List UInt8):zk cx (CK.plain zm) n 93 [.d (.sl 1 (l.map .str)),.d (.str s)] []=LP cx (CK.plain zm) n 93 0 2 n [(0,V.d (D.sl 1 (List.map D.str l))),(1,V.d (D.str s)),(5,V.d (D.int .i64 (0:Int)))] [] (AK cx (CK.plain zm) n 93 0 2 (EK cx 93 0)):=by kernel_rfl
theorem ybr(n k:Nat)(l:List (List UInt8))(s:List UInt8)(i:Int):LP cx (CK.plain zm) n 93 0 2 (k+1) [(0,.d (.sl 1 (l.map .str))),(1,.d (.str s)),(5,.d (.int .i64 i))] [] (AK cx (CK.plain zm) n 93 0 2 (EK cx 93 0))=bif decide (i<(↑(List.map D.str l).length:Int)) then zb (decide (0≤i)&&decide (i<(↑(List.map D.str l).length:Int))) (za (List.map D.str l) i.toNat fun y=>za y.cells 0 fun c=>match c with
 | D.str s_1=>bif decide (s_1=s) then some (Out.ret (V.d (D.bool true)),[]) else LP cx (CK.plain zm) n 93 0 2 k [(0,V.d (D.sl 1 (List.map D.str l))),(1,V.d (D.str s)),(5,V.d (D.int .i64 (IntKind.i64.wrap (i+(1:Int)))))] [] (AK cx (CK.plain zm) n 93 0 2 (EK cx 93 0))
 | x=>none) else some (Out.ret (V.d (D.bool false)),[]):=by kernel_rfl
theorem yb6(n:Nat)(a b:List (List UInt8)):zk cx (CK.plain zm) n 131 [.d (.sl 1 [.sl 1 (a.map .str),.sl 1 (b.map .str)])] []=LP cx (CK.plain zm) n 131 0 3 n [(0,V.d (D.sl 1 [D.sl 1 (List.map D.str a),D.sl 1 (List.map D.str b)])),(3,V.d (D.int .i64 (0:Int))),(9,V.d (D.sl 1 [D.sl 1 (List.map D.str a),D.sl 1 (List.map D.str b)])),(10,V.d (D.int .i64 (↑[D.sl 1 (List.map D.str a),D.sl 1 (List.map D.str b)].length:Int))),(11,V.d (D.int .i64 (0:Int)))] [] (AK cx (CK.plain zm) n 131 0 3 (EK cx 131 0)):=by kernel_rfl
theorem z8q(n k:Nat)(a b:List (List UInt8))(c:Int):LP cx (CK.plain zm) n 131 0 3 (k+1) [(0,.d (.sl 1 [.sl 1 (a.map .str),.sl 1 (b.map .str)])),(3,.d (.int .i64 c)),(9,.d (.sl 1 [.sl 1 (a.map .str),.sl 1 (b.map .str)])),(10,.d (.int .i64 2)),(11,.d (.int .i64 0))] [] (AK cx (CK.plain zm) n 131 0 3 (EK cx 131 0))=bif decide (IntKind.i64.wrap (c+(↑(List.map D.str a).length:Int))<(0:Int)) then some (Out.pan (V.d (D.iface 9 (D.str [108,101,110,32,111,117,116,32,111,102,32,114,97,110,103,101]))),[]) else LP cx (CK.plain zm) n 131 0 3 k [(0,V.d (D.sl 1 [D.sl 1 (List.map D.str a),D.sl 1 (List.map D.str b)])),(3,V.d (D.int .i64 (IntKind.i64.wrap (c+(↑(List.map D.str a).length:Int))))),(9,V.d (D.sl 1 [D.sl 1 (List.map D.str a),D.sl 1 (List.map D.str b)])),(10,V.d (D.int .i64 (2:Int))),(11,V.d (D.int .i64 (1:Int)))] [] (AK cx (CK.plain zm) n 131 0 3 (EK cx 131 0)):=by kernel_rfl
theorem z8p(n k:Nat)(a b:List (List UInt8))(c:Int):LP cx (CK.plain zm) n 131 0 3 (k+1) [(0,.d (.sl 1 [.sl 1 (a.map .str),.sl 1 (b.map .str)])),(3,.d (.int .i64 c)),(9,.d (.sl 1 [.sl 1 (a.map .str),.sl 1 (b.map .str)])),(10,.d (.int .i64 2)),(11,.d (.int .i64 1))] [] (AK cx (CK.plain zm) n 131 0 3 (EK cx 131 0))=bif decide (IntKind.i64.wrap (c+(↑(List.map D.str b).length:Int))<(0:Int)) then some (Out.pan (V.d (D.iface 9 (D.str [108,101,110,32,111,117,116,32,111,102,32,114,97,110,103,101]))),[]) else LP cx (CK.plain zm) n 131 0 3 k [(0,V.d (D.sl 1 [D.sl 1 (List.map D.str a),D.sl 1 (List.map D.str b)])),(3,V.d (D.int .i64 (IntKind.i64.wrap (c+(↑(List.map D.str b).length:Int))))),(9,V.d (D.sl 1 [D.sl 1 (List.map D.str a),D.sl 1 (List.map D.str b)])),(10,V.d (D.int .i64 (2:Int))),(11,V.d (D.int .i64 (2:Int)))] [] (AK cx (CK.plain zm) n 131 0 3 (EK cx 131 0)):=by kernel_rfl
theorem z8o(n k:Nat)(a b:List (List UInt8))(c:Int):LP cx (CK.plain zm) n 131 0 3 (k+1) [(0,.d (.sl 1 [.sl 1 (a.map .str),.sl 1 (b.map .str)])),(3,.d (.int .i64 c)),(9,.d (.sl 1 [.sl 1 (a.map .str),.sl 1 (b.map .str)])),(10,.d (.int .i64 2)),(11,.d (.int .i64 2))] [] (AK cx (CK.plain zm) n 131 0 3 (EK cx 131 0))=zb (decide (0≤c)&&decide (c≤4294967296)&&true&&true&&true) (LP cx (CK.plain zm) n 131 0 11 n [(6,V.sl 1 [] 24),(25,V.d (D.sl 1 [D.sl 1 (List.map D.str a),D.sl 1 (List.map D.str b)])),(26,V.d (D.int .i64 (↑[D.sl 1 (List.map D.str a),D.sl 1 (List.map D.str b)].length:Int))),(27,V.d (D.int .i64 (0:Int)))] [(24,Ob.tok 0)] (AK cx (CK.plain zm) n 131 0 11 (EK cx 131 0))):=by kernel_rfl
theorem z8n(n k:Nat)(a b:List (List UInt8))(l:List D):LP cx (CK.plain zm) n 131 0 11 (k+1) [(6,V.sl 1 l 24),(25,V.d (D.sl 1 [D.sl 1 (List.map D.str a),D.sl 1 (List.map D.str b)])),(26,V.d (D.int .i64 2)),(27,V.d (D.int .i64 (0:Int)))] [(24,Ob.tok l.length)] (AK cx (CK.plain zm) n 131 0 11 (EK cx 131 0))=zb (decide (l.length=l.length)&&decide (l.length+(List.map D.str a).length≤4294967296)) (LP cx (CK.plain zm) n 131 0 11 k [(6,V.sl 1 (l++List.map D.str a) 24),(25,V.d (D.sl 1 [D.sl 1 (List.map D.str a),D.sl 1 (List.map D.str b)])),(26,V.d (D.int .i64 (2:Int))),(27,V.d (D.int .i64 (1:Int)))] [(24,Ob.tok (l.length+(List.map D.str a).length))] (AK cx (CK.plain zm) n 131 0 11 (EK cx 131 0))):=by kernel_rfl
theorem z8m(n k:Nat)(a b:List (List UInt8))(l:List D):LP cx (CK.plain zm) n 131 0 11 (k+1) [(6,V.sl 1 l 24),(25,V.d (D.sl 1 [D.sl 1 (List.map D.str a),D.sl 1 (List.map D.str b)])),(26,V.d (D.int .i64 2)),(27,V.d (D.int .i64 (1:Int)))] [(24,Ob.tok l.length)] (AK cx (CK.plain zm) n 131 0 11 (EK cx 131 0))=zb (decide (l.length=l.length)&&decide (l.length+(List.map D.str b).length≤4294967296)) (LP cx (CK.plain zm) n 131 0 11 k [(6,V.sl 1 (l++List.map D.str b) 24),(25,V.d (D.sl 1 [D.sl 1 (List.map D.str a),D.sl 1 (List.map D.str b)])),(26,V.d (D.int .i64 (2:Int))),(27,V.d (D.int .i64 (2:Int)))] [(24,Ob.tok (l.length+(List.map D.str b).length))] (AK cx (CK.plain zm) n 131 0 11 (EK cx 131 0))):=by kernel_rfl
theorem z8l(n k:Nat)(a b:List (List UInt8))(l:List D):LP cx (CK.plain zm) n 131 0 11 (k+1) [(6,V.sl 1 l 24),(25,V.d (D.sl 1 [D.sl 1 (List.map D.str a),D.sl 1 (List.map D.str b)])),(26,V.d (D.int .i64 2)),(27,V.d (D.int .i64 (2:Int)))] [(24,Ob.tok l.length)] (AK cx (CK.plain zm) n 131 0 11 (EK cx 131 0))=some (Out.ret (V.d (D.sl 1 l)),[]):=by kernel_rfl
def Sp.mem(s:List UInt8)(l:List (List UInt8)):Bool:=l.any fun x=>decide (x=s)
theorem mem_iff{s:List UInt8}{l:List (List UInt8)}:Sp.mem s l=true↔s∈l:=by
 unfold Sp.mem
 rw [List.any_eq_true]
 constructor
 ·rintro ⟨x,hx,h⟩; have:=of_decide_eq_true h; exact this ▸ hx
 ·intro h; exact ⟨s,h,decide_eq_true rfl⟩
abbrev nI(l:List Nat):List D:=l.map fun k:Nat=>D.int .i64 k
theorem zsa{R:Type}{l:List Nat}{i:Nat}{K:D→Option R}:za (nI l) i K=zc l[i]? fun t=>K (.int .i64 t):=by
 unfold za
 rw [List.getElem?_map]
 cases l[i]? <;> rfl
theorem yc6(l:List (List UInt8))(s:List UInt8)(hl:yi l=true):zh cx 132 [.d (.sl 1 (l.map .str)),.d (.str s)] []=some (.ret (mkI (wx (fun x=>decide (s=x)) l)),[]):=by
 refine zl zo (N:=l.length+1) ?_
 rw [yb5,List.length_map]
 have h:=zaa (fun k i=>LP cx (CK.plain zm) (l.length+1) 132 0 2 k [(0,.d (.sl 1 (l.map .str))),(1,.d (.str s)),(7,.d (.int .i64 (l.length:Int))),(8,.d (.int .i64 i))] [] (AK cx (CK.plain zm) (l.length+1) 132 0 2 (EK cx 132 0)))
  l (fun x=>decide (s=x)) (fun j=>some (Out.ret (V.d (D.int .i64 j)),[])) (some (Out.ret (V.d (D.int .i64 (Int.negSucc 0))),[])) (yj hl)
  (fun k j x hj hx=>by
   rw [z6l,List.length_map,ye hj,xd,xi,Int.toNat_natCast,hx]
   rfl) (fun k=>by rw [z6l,yy,cond_false]) (Nat.lt_succ_self _)
 refine h.trans ?_
 unfold wx
 cases y0 (fun x=>decide (s=x)) l 0 <;> rfl
theorem m93(l:List (List UInt8))(s:List UInt8)(hl:yi l=true):zh cx 93 [.d (.sl 1 (l.map .str)),.d (.str s)] []=some (.ret (mkB (Sp.mem s l)),[]):=by
 refine zl zo (N:=l.length+1) ?_
 rw [ydu]
 have h:=zaa (fun k i=>LP cx (CK.plain zm) (l.length+1) 93 0 2 k [(0,.d (.sl 1 (l.map .str))),(1,.d (.str s)),(5,.d (.int .i64 i))] [] (AK cx (CK.plain zm) (l.length+1) 93 0 2 (EK cx 93 0)))
  l (fun x=>decide (x=s)) (fun _=>some (Out.ret (V.d (D.bool true)),[])) (some (Out.ret (V.d (D.bool false)),[])) (yj hl)
  (fun k j x hj hx=>by
   rw [ybr,List.length_map,ye hj,xd,xi,Int.toNat_natCast,hx]
   rfl) (fun k=>by rw [ybr,List.length_map,yy,cond_false]) (Nat.lt_succ_self _)
 refine h.trans ?_
 unfold Sp.mem
 rw [←zbv l 0]
 cases y0 (fun x=>decide (x=s)) l 0 <;> rfl
theorem yc7(a b:List (List UInt8))(ha:a.length+b.length≤4294967296):zh cx 131 [.d (.sl 1 [.sl 1 (a.map .str),.sl 1 (b.map .str)])] []=some (.ret (.d (.sl 1 ((a++b).map .str))),[]):=by
 refine zl zo (N:=3) ?_
 have w1:IntKind.i64.wrap ((0:Int)+(a.length:Int))=((a.length:Nat):Int):=by rw [IntWalk.i64_in _ (by omega)]; omega
 have w2:IntKind.i64.wrap (((a.length:Nat):Int)+(b.length:Int))=((a.length+b.length:Nat):Int):=by rw [IntWalk.i64_in _ (by omega)]; omega
 have e2:((([D.sl 1 (List.map D.str a),D.sl 1 (List.map D.str b)]:List D).length:Nat):Int)=2:=rfl
 rw [yb6,e2,z8q,List.length_map,w1,decide_eq_false (p:=((a.length:Nat):Int)<0) (by omega),cond_false,z8p,List.length_map,w2,decide_eq_false (p:=((a.length+b.length:Nat):Int)<0) (by omega),cond_false,z8o,
  decide_eq_true (p:=(0:Int)≤((a.length+b.length:Nat):Int)) (by omega),decide_eq_true (p:=((a.length+b.length:Nat):Int)≤4294967296) (by omega)]
 simp only [Bool.and_self,zb,cond_true]
 have hd:=z8n 3 2 a b []
 rw [List.length_nil] at hd
 rw [e2]
 refine hd.trans ?_
 rw [decide_eq_true rfl,decide_eq_true (p:=0+(List.map D.str a).length≤4294967296) (by simp; omega)]
 simp only [Bool.and_self,zb,cond_true,List.nil_append,Nat.zero_add]
 refine (z8m 3 1 a b (List.map D.str a)).trans ?_
 rw [decide_eq_true rfl,decide_eq_true (p:=(List.map D.str a).length+(List.map D.str b).length≤4294967296) (by simp; omega)]
 simp only [Bool.and_self,zb,cond_true]
 rw [←List.length_append,←List.map_append]
 exact z8l 3 0 a b _
theorem zgg{a:List V}{q}(h:zfm a=some q):a=[.d q.1,.d (.str q.2)]:=by
 unfold zfm at h
 split at h
 ·cases h; rfl
 ·cases h
def Sp.put(l:List (List UInt8))(s:List UInt8):List (List UInt8):=bif Sp.mem s l then l else l++[s]
end Go.Vai
end

section
namespace Go.Vai
open Go.Proofs
def zkk:List (List UInt8):=[[85],[83,49],[98,97,115,101],[110,111,114,116,104],[115,111,117,116,104],[108,111,111,112],[102,115,116],[115,110,100],[83,117,115,112],[117,110,103,108,117,101],[109,101,114,105,100],[103,108,117,101],[71,108,117,101],[80,97,116,104],[116,114,97,110,115,112],[104,99,111,109,112],[83,49,101,108,105,109],[83,117,115,112,101,108,105,109]]
def zmw:List Nat:=[0,0,0,0,0,0,1,1,1,1,1,2,2,3,3,3,4,5]
def wK:List D:=zkk.map .str
def w9(ks:List D)(s:List UInt8):Bool:=ks.any fun k=>match k with | .str t=>decide (s=t) | _=>false
def znz:D→Bool | .str _=>true | _=>false
def zya:D→Bool | .int k _=>decide (k=.i64) | _=>false
def okM(ks vs:List D):Bool:=ks.all znz&&vs.all zya&&decide (ks.length≤vs.length)
def zww:List V→Option ((List D×List D)×List UInt8) | [.d (.agg [.map ks vs,_,_,_]),.d (.str s)]=>some ((ks,vs),s) | _=>none
def z1b(q:(List D×List D)×List UInt8):Option Bool:=zb (okM q.1.1 q.1.2) (some (w9 q.1.1 q.2))
def zsw:List V→Option ((List D×List D)×D) | [.d x,.mfunc 79 [.agg [.map ks vs,_,_,_]]]=>some ((ks,vs),x) | _=>none
def strsOf:List D→Option (List (List UInt8))
 | []=>some []
 | .str s::r=>zc (strsOf r) fun l=>some (s::l)
 | _=>none
def zbb:D→Option (List (List UInt8))
 | .sl sz l=>zb (Nat.beq sz 1&&decide (l.length<4294967296)) (strsOf l)
 | _=>none
def zvx(q:(List D×List D)×D):Option Int:=zb (okM q.1.1 q.1.2) (zc (zbb q.2) fun l=>some (wx (w9 q.1.1) l))
def z9c(q:(List D×List D)×D):Option Bool:=zb (okM q.1.1 q.1.2) (zc (zbb q.2) fun l=>some (l.any (w9 q.1.1)))
noncomputable def zpy:CK R1:=zt 79 zww z1b mkB (CK.plain zm)
noncomputable def z6m:CK R1:=zt 106 zsw zvx mkI (CK.plain zm)
def xT:D:=.agg [.int .i64 1,.str [120],.sl 5 [],.sl 1 [],.int .i64 0]
def ycx(b:Bool):D:=D.agg [D.int .i64 (bif b then 0 else 1),D.int .i64 0,D.str [],D.sl 2 [],D.sl 6 [],D.sl 2 []]
open Classical in
noncomputable def isD(x:D)(y:D):Bool:=decide (x=y)
noncomputable def evK(n:Nat):CK R1:=CK.plain (w8 cx n)
theorem zrc(n:Nat):knows cx (evK n).S (zh cx):=fun _ _ _ _ _ h=>zhd h
noncomputable def K42:CK R1:=zt 78 zsw z9c mkB (evK 60)
def z25:List V→Option ((D×D)×(D×D)) | [.d t,.d a,.d b,.d c]=>some ((t,a),(b,c)) | _=>none
def z0x:D→Option (List UInt8) | .sl 1 [.str s]=>some s | _=>none
noncomputable def z6q(q:(D×D)×(D×D)):Option Bool:=zc (z0x q.1.2) fun s=>zb (isD q.1.1 xT&&isD q.2.1 (.sl 1 [.str [120]])&&isD q.2.2 (.sl 1 [])) (some (w9 wK s))
def z4l(b:Bool):V:=.tup [.d (ycx b),.d (.int .i64 0),.d (.int .i64 (bif b then 61 else 0))]
noncomputable def ycj:CK R1:=zt 42 z25 z6q z4l (CK.plain zm)
theorem yd2(s:List UInt8):zk cx K42 5 42 [.d xT,.d (.sl 1 [.str s]),.d (.sl 1 [.str [120]]),.d (.sl 1 [])] []=bif [s].any (w9 wK) then some (.ret (z4l true),[]) else some (.ret (z4l false),[]):=by kernel_rfl
theorem yb7(s:List UInt8):zk cx ycj 5 130 [.d (.str s)] []=zc (z6q ((xT,.sl 1 [.str s]),(.sl 1 [.str [120]],.sl 1 []))) fun b=>some (.ret (.d (.bool (!decide ((bif b then (61:Int) else 0)=0)))),[]):=by kernel_rfl
end Go.Vai
end

section
namespace Go.Vai
open Go.Proofs
theorem ydv(n:Nat)(ks vs:List D)(a b c:D)(s:List UInt8):zk cx (CK.plain zm) n 79 [.d (.agg [.map ks vs,a,b,c]),.d (.str s)] []=zc (qr (D.str s) ks 0) fun o=>zis o (fun i=>za vs i fun y=>match y with
 | D.int k' n=>bif decide (k'=IntKind.i64) then some (Out.ret (V.d (D.bool true)),[]) else none
 | x=>none) (some (Out.ret (V.d (D.bool false)),[])):=by kernel_rfl
theorem z80(n:Nat)(ks vs:List D)(a b c:D)(l:List (List UInt8)):zk cx zpy n 106 [.d (.sl 1 (l.map .str)),.mfunc 79 [.agg [.map ks vs,a,b,c]]] []=LP cx zpy n 106 0 2 n [(0,V.d (D.sl 1 (List.map D.str l))),(1,V.mfunc 79 [D.agg [D.map ks vs,a,b,c]]),(7,V.d (D.int .i64 (↑(List.map D.str l).length:Int))),(8,V.d (D.int .i64 (0:Int)))] [] (AK cx zpy n 106 0 2 (EK cx 106 0)):=by kernel_rfl
theorem z3v(n k:Nat)(ks vs:List D)(a b c:D)(l:List (List UInt8))(i:Int):LP cx zpy n 106 0 2 (k+1) [(0,.d (.sl 1 (l.map .str))),(1,.mfunc 79 [.agg [.map ks vs,a,b,c]]),(7,.d (.int .i64 (l.length:Int))),(8,.d (.int .i64 i))] [] (AK cx zpy n 106 0 2 (EK cx 106 0))=bif decide (i<(↑l.length:Int)) then zb (decide (0≤i)&&decide (i<(↑(List.map D.str l).length:Int))) (za (List.map D.str l) i.toNat fun y=>za y.cells 0 fun c_1=>match c_1 with
 | D.str s=>zc (zb (((ks,vs),s).fst.fst.all znz&&((ks,vs),s).fst.snd.all zya&&decide (((ks,vs),s).fst.fst.length≤((ks,vs),s).fst.snd.length)) (some (w9 ((ks,vs),s).fst.fst ((ks,vs),s).snd))) fun b_1=>bif b_1 then some (Out.ret (V.d (D.int .i64 i)),[]) else LP cx zpy n 106 0 2 k [(0,V.d (D.sl 1 (List.map D.str l))),(1,V.mfunc 79 [D.agg [D.map ks vs,a,b,c]]),(7,V.d (D.int .i64 (↑l.length:Int))),(8,V.d (D.int .i64 (IntKind.i64.wrap (i+(1:Int)))))] [] (AK cx zpy n 106 0 2 (EK cx 106 0))
 | x=>none) else some (Out.ret (V.d (D.int .i64 (Int.negSucc 0))),[]):=by kernel_rfl
theorem yb3(n:Nat)(ks vs:List D)(a b c:D)(l:List (List UInt8)):zk cx z6m n 78 [.d (.sl 1 (l.map .str)),.mfunc 79 [.agg [.map ks vs,a,b,c]]] []=zc (zb (((ks,vs),D.sl 1 (List.map D.str l)).fst.fst.all znz&&((ks,vs),D.sl 1 (List.map D.str l)).fst.snd.all zya&&decide (((ks,vs),D.sl 1 (List.map D.str l)).fst.fst.length≤((ks,vs),D.sl 1 (List.map D.str l)).fst.snd.length)) (zc (zbb ((ks,vs),D.sl 1 (List.map D.str l)).snd) fun l_1=>some (wx (w9 ((ks,vs),D.sl 1 (List.map D.str l)).fst.fst) l_1))) fun b=>some (Out.ret (V.d (D.bool (decide ((0:Int)≤b)))),[]):=by kernel_rfl
theorem zu4{a:List V}{q}(h:zww a=some q):∃ x y z,a=[.d (.agg [.map q.1.1 q.1.2,x,y,z]),.d (.str q.2)]:=by
 unfold zww at h; split at h <;> cases h; exact ⟨_,_,_,rfl⟩
theorem zmb{a:List V}{q}(h:zsw a=some q):∃ x y z,a=[.d q.2,.mfunc 79 [.agg [.map q.1.1 q.1.2,x,y,z]]]:=by
 unfold zsw at h; split at h <;> cases h; exact ⟨_,_,_,rfl⟩
theorem zwz{a:List V}{q}(h:z25 a=some q):a=[.d q.1.1,.d q.1.2,.d q.2.1,.d q.2.2]:=by
 unfold z25 at h; split at h <;> cases h; rfl
theorem zvo{x:D}{s}(h:z0x x=some s):x=.sl 1 [.str s]:=by
 unfold z0x at h; split at h <;> cases h; rfl
open Classical in
theorem zn1{x y:D}(h:isD x y=true):x=y:=by unfold isD at h; exact of_decide_eq_true h
open Classical in
theorem zn2{x:D}:isD x x=true:=by unfold isD; exact decide_eq_true rfl
theorem zep:∀ {l:List D} {r:List (List UInt8)},strsOf l=some r→l=r.map .str
 | [],r,h=>by cases h; rfl
 | .str s::l,r,h=>by
  obtain ⟨q,hq,h⟩:=zd h
  cases h
  rw [zep hq]; rfl
theorem zfs:∀ (l:List (List UInt8)),strsOf (l.map .str)=some l
 | []=>rfl
 | s::l=>by show zc (strsOf (l.map .str)) _=_; rw [zfs l]; rfl
theorem zau{x:D}{l}(h:zbb x=some l):x=.sl 1 (l.map .str)∧yi l=true:=by
 unfold zbb at h
 split at h
 ·obtain ⟨h1,h2⟩:=ze h
  rw [Bool.and_eq_true] at h1
  obtain rfl:=Nat.eq_of_beq_eq_true h1.1
  obtain rfl:=zep h2
  refine ⟨rfl,?_⟩
  have:=of_decide_eq_true h1.2
  rw [List.length_map] at this
  exact decide_eq_true (p:=l.length<4294967296) (by omega)
 ·cases h
theorem zcn{l:List (List UInt8)}(h:yi l=true):zbb (.sl 1 (l.map .str))=some l:=by
 show zb (Nat.beq 1 1&&decide ((l.map D.str).length<4294967296)) (strsOf (l.map .str))=_
 have:=of_decide_eq_true h
 rw [List.length_map,decide_eq_true this,zfs]
 rfl
theorem zk4(s:List UInt8):∀ (ks:List D) (i:Nat),ks.all znz=true→∃ o,qr (.str s) ks i=some o∧o.isSome=w9 ks s∧∀ j,o=some j→i≤j∧j<i+ks.length
 | [],i,_=>⟨none,rfl,rfl,fun _ h=>by cases h⟩
 | .str t::ks,i,h=>by
  have h2:ks.all znz=true:=by simpa [znz] using h
  obtain ⟨o,ho,hi,hb⟩:=zk4 s ks (i+1) h2
  show ∃ o,(bif decide (s=t) then some (some i) else qr (.str s) ks (i+1))=some o∧o.isSome=(decide (s=t)||w9 ks s)∧_
  cases decide (s=t)
  ·refine ⟨o,ho,hi,fun j hj=>?_⟩
   have:=hb j hj
   simp only [List.length_cons]; omega
  ·exact ⟨some i,rfl,rfl,fun j hj=>by cases hj; simp only [List.length_cons]; omega⟩
 | .bool _::_,_,h | .int _ _::_,_,h=>by cases h
theorem m79(ks vs:List D)(a b c:D)(s:List UInt8)(h:okM ks vs=true):zh cx 79 [.d (.agg [.map ks vs,a,b,c]),.d (.str s)] []=some (.ret (mkB (w9 ks s)),[]):=by
 refine zl zo (N:=0) ?_
 rw [ydv]
 unfold okM at h
 rw [Bool.and_eq_true,Bool.and_eq_true] at h
 obtain ⟨⟨h1,h2⟩,h3⟩:=h
 have h3:=of_decide_eq_true h3
 obtain ⟨o,ho,hi,hb⟩:=zk4 s ks 0 h1
 rw [ho,←hi]
 cases o with
 | none=>rfl
 | some i=>
  have hi:=hb i rfl
  obtain ⟨y,hy⟩:∃ y,vs[i]?=some y:=⟨vs[i]'(by omega),List.getElem?_eq_getElem (by omega)⟩
  have:=(List.all_eq_true.1 h2) y (List.mem_of_getElem? hy)
  show (za vs i fun y=>_)=_
  unfold za
  rw [hy]
  cases y <;> simp only [zya] at this <;> try cases this
  rename_i k n
  have:=of_decide_eq_true this
  subst this
  rfl
theorem zxc:knows cx zpy.S (zh cx):=zj zo fun a q b hd h hb=>by
 obtain ⟨x,y,z,rfl⟩:=zu4 h
 obtain ⟨h1,hb⟩:=ze hb
 cases hb
 exact m79 _ _ _ _ _ _ h1
theorem z9i(ks vs:List D)(a b c:D)(l:List (List UInt8))(hl:yi l=true)(h:okM ks vs=true):zh cx 106 [.d (.sl 1 (l.map .str)),.mfunc 79 [.agg [.map ks vs,a,b,c]]] []=some (.ret (mkI (wx (w9 ks) l)),[]):=by
 refine zl zxc (N:=l.length+1) ?_
 rw [z80,List.length_map]
 have h:=zaa (fun k i=>LP cx zpy (l.length+1) 106 0 2 k [(0,.d (.sl 1 (l.map .str))),(1,.mfunc 79 [.agg [.map ks vs,a,b,c]]),(7,.d (.int .i64 (l.length:Int))),(8,.d (.int .i64 i))] [] (AK cx zpy (l.length+1) 106 0 2 (EK cx 106 0)))
  l (w9 ks) (fun j=>some (Out.ret (V.d (D.int .i64 j)),[])) (some (Out.ret (V.d (D.int .i64 (Int.negSucc 0))),[])) (yj hl)
  (fun k j x hj hx=>by
   rw [z3v,List.length_map,ye hj,xd,xi,Int.toNat_natCast,hx]
   show zc (z1b ((ks,vs),x)) _=_
   unfold z1b
   simp only [h]
   rfl) (fun k=>by rw [z3v,yy,cond_false]) (Nat.lt_succ_self _)
 refine h.trans ?_
 unfold wx
 cases y0 (w9 ks) l 0 <;> rfl
theorem yc5(ks vs:List D)(a b c:D)(l:List (List UInt8))(hl:yi l=true)(h:okM ks vs=true):zh cx 78 [.d (.sl 1 (l.map .str)),.mfunc 79 [.agg [.map ks vs,a,b,c]]] []=some (.ret (mkB (l.any (w9 ks))),[]):=by
 have hk:knows cx z6m.S (zh cx):=zj zo fun a q b hd h hb=>by
  obtain ⟨x,y,z,rfl⟩:=zmb h
  obtain ⟨h1,hb⟩:=ze hb
  obtain ⟨l,hl,hb⟩:=zd hb
  cases hb
  obtain ⟨h2,h3⟩:=zau hl
  rw [h2]
  exact z9i _ _ _ _ _ _ h3 h1
 refine zl hk (N:=0) ?_
 rw [yb3]
 show zc (zvx ((ks,vs),.sl 1 (l.map .str))) _=_
 unfold zvx
 simp only [h]
 rw [zcn hl]
 show some (Out.ret (mkB (decide ((0:Int)≤wx (w9 ks) l))),[])=_
 rw [zj6]
theorem z0s:knows cx K42.S (zh cx):=zj (zrc 60) fun a q b hd h hb=>by
 obtain ⟨x,y,z,rfl⟩:=zmb h
 obtain ⟨h1,hb⟩:=ze hb
 obtain ⟨l,hl,hb⟩:=zd hb
 cases hb
 obtain ⟨h2,h3⟩:=zau hl
 rw [h2]
 exact yc5 _ _ _ _ _ _ h3 h1
theorem m42(s:List UInt8):zh cx 42 [.d xT,.d (.sl 1 [.str s]),.d (.sl 1 [.str [120]]),.d (.sl 1 [])] []=some (.ret (z4l (w9 wK s)),[]):=by
 refine zl z0s (N:=5) ?_
 rw [yd2]
 have:[s].any (w9 wK)=w9 wK s:=by simp
 rw [this]
 cases w9 wK s <;> rfl
def Sp.word(s:List UInt8):Bool:=w9 wK s
theorem yc8(s:List UInt8):zh cx 130 [.d (.str s)] []=some (.ret (mkB (Sp.word s)),[]):=by
 have hk:knows cx ycj.S (zh cx):=zj zo fun a q b hd h hb=>by
  obtain rfl:=zwz h
  obtain ⟨s,hs,hb⟩:=zd hb
  obtain ⟨h1,hb⟩:=ze hb
  cases hb
  rw [Bool.and_eq_true,Bool.and_eq_true] at h1
  rw [zn1 h1.1.1,zn1 h1.1.2,zn1 h1.2,zvo hs]
  exact m42 s
 refine zl hk (N:=5) ?_
 rw [yb7]
 unfold z6q
 rw [zn2,zn2,zn2]
 show some (Out.ret (mkB _),[])=_
 unfold Sp.word
 cases w9 wK s <;> rfl
end Go.Vai
end

section
namespace Go.Vai
open Go.Proofs
def psN(L:List D):St:=[(0,.val 1 (.sl 1 L 1)),(1,.tok L.length)]
def pdN:St→Option (List D×Nat) | [(0,.val 1 (.sl 1 L 1)),(1,.tok n)]=>some (L,n) | _=>none
def zom(a:List V)(σ:St):Option ((D×D)×(List D×Nat)):=match a with | [.d t,.d b,.func 89 [.ptr 0 0]]=>zc (pdN σ) fun q=>some ((t,b),q) | _=>none
def zwx(a:List V)(σ:St):Option (List UInt8×(List D×Nat)):=match a with | [.d (.str s),.ptr 0 0]=>zc (pdN σ) fun q=>some (s,q) | _=>none
def stK{α:Type}(f:Nat)(dec:List V→St→Option (α×(List D×Nat)))(sp:α→List D→Option (List D))(S:CK R1):CK R1:=
 more f dec (fun K q=>zc (sp q.1 q.2.1) fun L'=>zb (Nat.beq q.2.2 q.2.1.length) (K (.ret (.tup [])) (psN L')))
  (fun K q=>by
   simp only
   rw [za1]
   congr 1
   funext s
   simp only [zb,vh]
   rfl) S
theorem ztx{σ:St}{L:List D}{n:Nat}(h:pdN σ=some (L,n))(hn:Nat.beq n L.length=true):σ=psN L:=by
 unfold pdN at h
 split at h
 ·cases h
  obtain rfl:=Nat.eq_of_beq_eq_true hn
  rfl
 ·cases h
theorem zp5{α:Type}{f:Nat}{dec:List V→St→Option (α×(List D×Nat))}{sp:α→List D→Option (List D)}{S:CK R1}(hS:knows cx S.S (zh cx))
  (hf:∀ a σ q L n L',dec a σ=some (q,(L,n))→Nat.beq n L.length=true→sp q L=some L'→zh cx f a σ=some (.ret (.tup []),psN L')):knows cx (stK f dec sp S).S (zh cx):=
 v6 hS fun a σ q r hd h=>by
  obtain ⟨q,L,n⟩:=q
  obtain ⟨s,hs,h⟩:=zd h
  obtain ⟨h1,h⟩:=ze h
  cases h
  exact hf a σ q L n s hd h1 hs
def zw0:List V→Option (D×D) | [.d (.sl 1 [x,y])]=>some (x,y) | _=>none
noncomputable def qm(sp:D→D→List D→Option (List D))(p:D→List UInt8→Option Bool)(w:List UInt8→Bool)(c:D→D→Option (List D))(a:List UInt8→List D→Option (List D)):CK R1:=
 stK 88 zom (fun q=>sp q.1 q.2) (stK 89 zwx a (zt 90 zfm (fun q=>p q.1 q.2) mkB (zt 130 zay (fun s=>some (w s)) mkB (zt 131 zw0 (fun q=>c q.1 q.2) (fun x=>.d (.sl 1 x)) (CK.plain zm)))))
noncomputable def ycb(p:D→List UInt8→Option Bool):CK R1:=zt 90 zfm (fun q=>p q.1 q.2) mkB (CK.plain zm)
noncomputable def zpz(sp:D→D→List D→Option (List D)):CK R1:=stK 88 zom (fun q=>sp q.1 q.2) (CK.plain zm)
end Go.Vai
end

section
namespace Go.Vai
open Go.Proofs
theorem z8z(sp:D→D→List D→Option (List D))(p:D→List UInt8→Option Bool)(w:List UInt8→Bool)(c:D→D→Option (List D))(a:List UInt8→List D→Option (List D))(n:Nat)(b L:List D)(nm:List UInt8)(nms:List (List UInt8))(pl:Int):zk cx (qm sp p w c a) n 88 [.d (.agg [.int .i64 1,.str nm,.sl 5 (T.ds []),.sl 1 (nms.map .str),.int .i64 pl]),.d (.sl 1 b),.func 89 [.ptr 0 0]] (psN L)=zc (p (D.sl 1 b,nm).fst (D.sl 1 b,nm).snd) fun b=>bif !b then zb (decide (nm.length≤big)) (bif !w nm then zc (a (nm,L,L.length).fst (nm,L,L.length).snd.fst) fun L'=>zb ((nm,L,L.length).snd.snd.beq (nm,L,L.length).snd.fst.length) (some (Out.ret (V.tup []),[(0,Ob.val 1 (V.sl 1 L' 1)),(1,Ob.tok L'.length)])) else some (Out.ret (V.tup []),[(0,Ob.val 1 (V.sl 1 L 1)),(1,Ob.tok L.length)])) else some (Out.ret (V.tup []),[(0,Ob.val 1 (V.sl 1 L 1)),(1,Ob.tok L.length)]):=by kernel_rfl
theorem z8y(sp:D→D→List D→Option (List D))(p:D→List UInt8→Option Bool)(w:List UInt8→Bool)(c:D→D→Option (List D))(a:List UInt8→List D→Option (List D))(n:Nat)(b L:List D)(nm:List UInt8)(nms:List (List UInt8))(pl:Int)(k1:Int)(m1:List UInt8)(l1:List T)(n1:List (List UInt8))(p1:Int):zk cx (qm sp p w c a) n 88 [.d (.agg [.int .i64 2,.str nm,.sl 5 (T.ds [(T.mk k1 m1 l1 n1 p1)]),.sl 1 (nms.map .str),.int .i64 pl]),.d (.sl 1 b),.func 89 [.ptr 0 0]] (psN L)=zc (c (D.sl 1 b,D.sl 1 (List.map D.str nms)).fst (D.sl 1 b,D.sl 1 (List.map D.str nms)).snd) fun b=>zc (sp ((D.agg [D.int .i64 k1,D.str m1,D.sl 5 (T.ds l1),D.sl 1 (List.map D.str n1),D.int .i64 p1],D.sl 1 b),L,L.length).fst.fst ((D.agg [D.int .i64 k1,D.str m1,D.sl 5 (T.ds l1),D.sl 1 (List.map D.str n1),D.int .i64 p1],D.sl 1 b),L,L.length).fst.snd ((D.agg [D.int .i64 k1,D.str m1,D.sl 5 (T.ds l1),D.sl 1 (List.map D.str n1),D.int .i64 p1],D.sl 1 b),L,L.length).snd.fst) fun L'=>zb (((D.agg [D.int .i64 k1,D.str m1,D.sl 5 (T.ds l1),D.sl 1 (List.map D.str n1),D.int .i64 p1],D.sl 1 b),L,L.length).snd.snd.beq ((D.agg [D.int .i64 k1,D.str m1,D.sl 5 (T.ds l1),D.sl 1 (List.map D.str n1),D.int .i64 p1],D.sl 1 b),L,L.length).snd.fst.length) (some (Out.ret (V.tup []),[(0,Ob.val 1 (V.sl 1 L' 1)),(1,Ob.tok L'.length)])):=by kernel_rfl
theorem z8w(sp:D→D→List D→Option (List D))(p:D→List UInt8→Option Bool)(w:List UInt8→Bool)(c:D→D→Option (List D))(a:List UInt8→List D→Option (List D))(n:Nat)(b L:List D)(nm:List UInt8)(nms:List (List UInt8))(pl:Int)(k1:Int)(m1:List UInt8)(l1:List T)(n1:List (List UInt8))(p1:Int)(k2:Int)(m2:List UInt8)(l2:List T)(n2:List (List UInt8))(p2:Int):zk cx (qm sp p w c a) n 88 [.d (.agg [.int .i64 4,.str nm,.sl 5 (T.ds [(T.mk k1 m1 l1 n1 p1),(T.mk k2 m2 l2 n2 p2)]),.sl 1 (nms.map .str),.int .i64 pl]),.d (.sl 1 b),.func 89 [.ptr 0 0]] (psN L)=zc (sp ((D.agg [D.int .i64 k1,D.str m1,D.sl 5 (T.ds l1),D.sl 1 (List.map D.str n1),D.int .i64 p1],D.sl 1 b),L,L.length).fst.fst ((D.agg [D.int .i64 k1,D.str m1,D.sl 5 (T.ds l1),D.sl 1 (List.map D.str n1),D.int .i64 p1],D.sl 1 b),L,L.length).fst.snd ((D.agg [D.int .i64 k1,D.str m1,D.sl 5 (T.ds l1),D.sl 1 (List.map D.str n1),D.int .i64 p1],D.sl 1 b),L,L.length).snd.fst) fun L'=>zb (((D.agg [D.int .i64 k1,D.str m1,D.sl 5 (T.ds l1),D.sl 1 (List.map D.str n1),D.int .i64 p1],D.sl 1 b),L,L.length).snd.snd.beq ((D.agg [D.int .i64 k1,D.str m1,D.sl 5 (T.ds l1),D.sl 1 (List.map D.str n1),D.int .i64 p1],D.sl 1 b),L,L.length).snd.fst.length) (zc (c (D.sl 1 b,D.sl 1 (List.map D.str nms)).fst (D.sl 1 b,D.sl 1 (List.map D.str nms)).snd) fun b=>zc (sp ((D.agg [D.int .i64 k2,D.str m2,D.sl 5 (T.ds l2),D.sl 1 (List.map D.str n2),D.int .i64 p2],D.sl 1 b),L',L'.length).fst.fst ((D.agg [D.int .i64 k2,D.str m2,D.sl 5 (T.ds l2),D.sl 1 (List.map D.str n2),D.int .i64 p2],D.sl 1 b),L',L'.length).fst.snd ((D.agg [D.int .i64 k2,D.str m2,D.sl 5 (T.ds l2),D.sl 1 (List.map D.str n2),D.int .i64 p2],D.sl 1 b),L',L'.length).snd.fst) fun L'_1=>zb (((D.agg [D.int .i64 k2,D.str m2,D.sl 5 (T.ds l2),D.sl 1 (List.map D.str n2),D.int .i64 p2],D.sl 1 b),L',L'.length).snd.snd.beq ((D.agg [D.int .i64 k2,D.str m2,D.sl 5 (T.ds l2),D.sl 1 (List.map D.str n2),D.int .i64 p2],D.sl 1 b),L',L'.length).snd.fst.length) (some (Out.ret (V.tup []),[(0,Ob.val 1 (V.sl 1 L'_1 1)),(1,Ob.tok L'_1.length)]))):=by kernel_rfl
theorem z8v(sp:D→D→List D→Option (List D))(p:D→List UInt8→Option Bool)(w:List UInt8→Bool)(c:D→D→Option (List D))(a:List UInt8→List D→Option (List D))(n:Nat)(b L:List D)(nm:List UInt8)(nms:List (List UInt8))(pl:Int)(k1:Int)(m1:List UInt8)(l1:List T)(n1:List (List UInt8))(p1:Int)(k2:Int)(m2:List UInt8)(l2:List T)(n2:List (List UInt8))(p2:Int):zk cx (qm sp p w c a) n 88 [.d (.agg [.int .i64 5,.str nm,.sl 5 (T.ds [(T.mk k1 m1 l1 n1 p1),(T.mk k2 m2 l2 n2 p2)]),.sl 1 (nms.map .str),.int .i64 pl]),.d (.sl 1 b),.func 89 [.ptr 0 0]] (psN L)=zc (sp ((D.agg [D.int .i64 k1,D.str m1,D.sl 5 (T.ds l1),D.sl 1 (List.map D.str n1),D.int .i64 p1],D.sl 1 b),L,L.length).fst.fst ((D.agg [D.int .i64 k1,D.str m1,D.sl 5 (T.ds l1),D.sl 1 (List.map D.str n1),D.int .i64 p1],D.sl 1 b),L,L.length).fst.snd ((D.agg [D.int .i64 k1,D.str m1,D.sl 5 (T.ds l1),D.sl 1 (List.map D.str n1),D.int .i64 p1],D.sl 1 b),L,L.length).snd.fst) fun L'=>zb (((D.agg [D.int .i64 k1,D.str m1,D.sl 5 (T.ds l1),D.sl 1 (List.map D.str n1),D.int .i64 p1],D.sl 1 b),L,L.length).snd.snd.beq ((D.agg [D.int .i64 k1,D.str m1,D.sl 5 (T.ds l1),D.sl 1 (List.map D.str n1),D.int .i64 p1],D.sl 1 b),L,L.length).snd.fst.length) (zc (c (D.sl 1 b,D.sl 1 (List.map D.str nms)).fst (D.sl 1 b,D.sl 1 (List.map D.str nms)).snd) fun b=>zc (sp ((D.agg [D.int .i64 k2,D.str m2,D.sl 5 (T.ds l2),D.sl 1 (List.map D.str n2),D.int .i64 p2],D.sl 1 b),L',L'.length).fst.fst ((D.agg [D.int .i64 k2,D.str m2,D.sl 5 (T.ds l2),D.sl 1 (List.map D.str n2),D.int .i64 p2],D.sl 1 b),L',L'.length).fst.snd ((D.agg [D.int .i64 k2,D.str m2,D.sl 5 (T.ds l2),D.sl 1 (List.map D.str n2),D.int .i64 p2],D.sl 1 b),L',L'.length).snd.fst) fun L'_1=>zb (((D.agg [D.int .i64 k2,D.str m2,D.sl 5 (T.ds l2),D.sl 1 (List.map D.str n2),D.int .i64 p2],D.sl 1 b),L',L'.length).snd.snd.beq ((D.agg [D.int .i64 k2,D.str m2,D.sl 5 (T.ds l2),D.sl 1 (List.map D.str n2),D.int .i64 p2],D.sl 1 b),L',L'.length).snd.fst.length) (some (Out.ret (V.tup []),[(0,Ob.val 1 (V.sl 1 L'_1 1)),(1,Ob.tok L'_1.length)]))):=by kernel_rfl
theorem z8t(sp:D→D→List D→Option (List D))(p:D→List UInt8→Option Bool)(w:List UInt8→Bool)(c:D→D→Option (List D))(a:List UInt8→List D→Option (List D))(n:Nat)(b L:List D)(nm:List UInt8)(nms:List (List UInt8))(pl:Int)(k1:Int)(m1:List UInt8)(l1:List T)(n1:List (List UInt8))(p1:Int)(k2:Int)(m2:List UInt8)(l2:List T)(n2:List (List UInt8))(p2:Int):zk cx (qm sp p w c a) n 88 [.d (.agg [.int .i64 7,.str nm,.sl 5 (T.ds [(T.mk k1 m1 l1 n1 p1),(T.mk k2 m2 l2 n2 p2)]),.sl 1 (nms.map .str),.int .i64 pl]),.d (.sl 1 b),.func 89 [.ptr 0 0]] (psN L)=zc (sp ((D.agg [D.int .i64 k1,D.str m1,D.sl 5 (T.ds l1),D.sl 1 (List.map D.str n1),D.int .i64 p1],D.sl 1 b),L,L.length).fst.fst ((D.agg [D.int .i64 k1,D.str m1,D.sl 5 (T.ds l1),D.sl 1 (List.map D.str n1),D.int .i64 p1],D.sl 1 b),L,L.length).fst.snd ((D.agg [D.int .i64 k1,D.str m1,D.sl 5 (T.ds l1),D.sl 1 (List.map D.str n1),D.int .i64 p1],D.sl 1 b),L,L.length).snd.fst) fun L'=>zb (((D.agg [D.int .i64 k1,D.str m1,D.sl 5 (T.ds l1),D.sl 1 (List.map D.str n1),D.int .i64 p1],D.sl 1 b),L,L.length).snd.snd.beq ((D.agg [D.int .i64 k1,D.str m1,D.sl 5 (T.ds l1),D.sl 1 (List.map D.str n1),D.int .i64 p1],D.sl 1 b),L,L.length).snd.fst.length) (some (Out.ret (V.tup []),[(0,Ob.val 1 (V.sl 1 L' 1)),(1,Ob.tok L'.length)])):=by kernel_rfl
theorem z5h(sp:D→D→List D→Option (List D))(p:D→List UInt8→Option Bool)(w:List UInt8→Bool)(c:D→D→Option (List D))(a:List UInt8→List D→Option (List D))(n:Nat)(b L:List D)(nm:List UInt8)(nms:List (List UInt8))(pl:Int)(x:T)(kids:List T):zk cx (qm sp p w c a) n 88 [.d (.agg [.int .i64 11,.str nm,.sl 5 (T.ds (x::kids)),.sl 1 (nms.map .str),.int .i64 pl]),.d (.sl 1 b),.func 89 [.ptr 0 0]] (psN L)=zb (decide ((1:Int)≤(↑(x.d::T.ds kids).length:Int))) (LP cx (qm sp p w c a) n 88 2 20 n [(1,V.d (D.sl 1 b)),(2,V.func 89 [V.ptr 0 0]),(88,V.d (D.sl 5 (List.drop (1:Int).toNat (List.take (x.d::T.ds kids).length (x.d::T.ds kids))))),(89,V.d (D.int .i64 (↑(List.drop (1:Int).toNat (List.take (x.d::T.ds kids).length (x.d::T.ds kids))).length:Int))),(90,V.d (D.int .i64 (0:Int)))] [(0,Ob.val 1 (V.sl 1 L 1)),(1,Ob.tok L.length)] (AK cx (qm sp p w c a) n 88 2 20 (EK cx 88 2))):=by kernel_rfl
theorem z8x(sp:D→D→List D→Option (List D))(p:D→List UInt8→Option Bool)(w:List UInt8→Bool)(c:D→D→Option (List D))(a:List UInt8→List D→Option (List D))(n:Nat)(b L:List D)(nm:List UInt8)(nms:List (List UInt8))(pl:Int)(kids:List T):zk cx (qm sp p w c a) n 88 [.d (.agg [.int .i64 3,.str nm,.sl 5 (T.ds kids),.sl 1 (nms.map .str),.int .i64 pl]),.d (.sl 1 b),.func 89 [.ptr 0 0]] (psN L)=LP cx (qm sp p w c a) n 88 2 3 n [(1,V.d (D.sl 1 b)),(2,V.func 89 [V.ptr 0 0]),(13,V.d (D.sl 5 (T.ds kids))),(14,V.d (D.int .i64 (↑(T.ds kids).length:Int))),(15,V.d (D.int .i64 (0:Int)))] [(0,Ob.val 1 (V.sl 1 L 1)),(1,Ob.tok L.length)] (AK cx (qm sp p w c a) n 88 2 3 (EK cx 88 2)):=by kernel_rfl
theorem z8u(sp:D→D→List D→Option (List D))(p:D→List UInt8→Option Bool)(w:List UInt8→Bool)(c:D→D→Option (List D))(a:List UInt8→List D→Option (List D))(n:Nat)(b L:List D)(nm:List UInt8)(nms:List (List UInt8))(pl:Int)(kids:List T):zk cx (qm sp p w c a) n 88 [.d (.agg [.int .i64 6,.str nm,.sl 5 (T.ds kids),.sl 1 (nms.map .str),.int .i64 pl]),.d (.sl 1 b),.func 89 [.ptr 0 0]] (psN L)=LP cx (qm sp p w c a) n 88 2 3 n [(1,V.d (D.sl 1 b)),(2,V.func 89 [V.ptr 0 0]),(13,V.d (D.sl 5 (T.ds kids))),(14,V.d (D.int .i64 (↑(T.ds kids).length:Int))),(15,V.d (D.int .i64 (0:Int)))] [(0,Ob.val 1 (V.sl 1 L 1)),(1,Ob.tok L.length)] (AK cx (qm sp p w c a) n 88 2 3 (EK cx 88 2)):=by kernel_rfl
theorem z8s(sp:D→D→List D→Option (List D))(p:D→List UInt8→Option Bool)(w:List UInt8→Bool)(c:D→D→Option (List D))(a:List UInt8→List D→Option (List D))(n:Nat)(b L:List D)(nm:List UInt8)(nms:List (List UInt8))(pl:Int)(kids:List T):zk cx (qm sp p w c a) n 88 [.d (.agg [.int .i64 8,.str nm,.sl 5 (T.ds kids),.sl 1 (nms.map .str),.int .i64 pl]),.d (.sl 1 b),.func 89 [.ptr 0 0]] (psN L)=LP cx (qm sp p w c a) n 88 2 3 n [(1,V.d (D.sl 1 b)),(2,V.func 89 [V.ptr 0 0]),(13,V.d (D.sl 5 (T.ds kids))),(14,V.d (D.int .i64 (↑(T.ds kids).length:Int))),(15,V.d (D.int .i64 (0:Int)))] [(0,Ob.val 1 (V.sl 1 L 1)),(1,Ob.tok L.length)] (AK cx (qm sp p w c a) n 88 2 3 (EK cx 88 2)):=by kernel_rfl
theorem z8r(sp:D→D→List D→Option (List D))(p:D→List UInt8→Option Bool)(w:List UInt8→Bool)(c:D→D→Option (List D))(a:List UInt8→List D→Option (List D))(n:Nat)(b L:List D)(nm:List UInt8)(nms:List (List UInt8))(pl:Int)(kids:List T):zk cx (qm sp p w c a) n 88 [.d (.agg [.int .i64 9,.str nm,.sl 5 (T.ds kids),.sl 1 (nms.map .str),.int .i64 pl]),.d (.sl 1 b),.func 89 [.ptr 0 0]] (psN L)=LP cx (qm sp p w c a) n 88 2 3 n [(1,V.d (D.sl 1 b)),(2,V.func 89 [V.ptr 0 0]),(13,V.d (D.sl 5 (T.ds kids))),(14,V.d (D.int .i64 (↑(T.ds kids).length:Int))),(15,V.d (D.int .i64 (0:Int)))] [(0,Ob.val 1 (V.sl 1 L 1)),(1,Ob.tok L.length)] (AK cx (qm sp p w c a) n 88 2 3 (EK cx 88 2)):=by kernel_rfl
theorem z5i(sp:D→D→List D→Option (List D))(p:D→List UInt8→Option Bool)(w:List UInt8→Bool)(c:D→D→Option (List D))(a:List UInt8→List D→Option (List D))(n:Nat)(b L:List D)(nm:List UInt8)(nms:List (List UInt8))(pl:Int)(kids:List T):zk cx (qm sp p w c a) n 88 [.d (.agg [.int .i64 10,.str nm,.sl 5 (T.ds kids),.sl 1 (nms.map .str),.int .i64 pl]),.d (.sl 1 b),.func 89 [.ptr 0 0]] (psN L)=LP cx (qm sp p w c a) n 88 2 3 n [(1,V.d (D.sl 1 b)),(2,V.func 89 [V.ptr 0 0]),(13,V.d (D.sl 5 (T.ds kids))),(14,V.d (D.int .i64 (↑(T.ds kids).length:Int))),(15,V.d (D.int .i64 (0:Int)))] [(0,Ob.val 1 (V.sl 1 L 1)),(1,Ob.tok L.length)] (AK cx (qm sp p w c a) n 88 2 3 (EK cx 88 2)):=by kernel_rfl
theorem yds(sp:D→D→List D→Option (List D))(p:D→List UInt8→Option Bool)(w:List UInt8→Bool)(c:D→D→Option (List D))(a:List UInt8→List D→Option (List D))(n k:Nat)(b L:List D)(kids:List T)(i:Int):LP cx (qm sp p w c a) n 88 2 3 (k+1) [(1,V.d (D.sl 1 b)),(2,V.func 89 [V.ptr 0 0]),(13,V.d (D.sl 5 (T.ds kids))),(14,V.d (D.int .i64 (kids.length:Int))),(15,V.d (D.int .i64 i))] [(0,Ob.val 1 (V.sl 1 L 1)),(1,Ob.tok L.length)] (AK cx (qm sp p w c a) n 88 2 3 (EK cx 88 2))=bif decide (i<(↑kids.length:Int)) then zb (decide (0≤i)&&decide (i<(↑(T.ds kids).length:Int))) (za (T.ds kids) i.toNat fun y=>za y.cells 0 fun c_1=>za y.cells 1 fun c_2=>za y.cells 2 fun c_3=>za y.cells 3 fun c_4=>za y.cells 4 fun c_5=>zc (sp ((D.agg [c_1,c_2,c_3,c_4,c_5],D.sl 1 b),L,L.length).fst.fst ((D.agg [c_1,c_2,c_3,c_4,c_5],D.sl 1 b),L,L.length).fst.snd ((D.agg [c_1,c_2,c_3,c_4,c_5],D.sl 1 b),L,L.length).snd.fst) fun L'=>zb (((D.agg [c_1,c_2,c_3,c_4,c_5],D.sl 1 b),L,L.length).snd.snd.beq ((D.agg [c_1,c_2,c_3,c_4,c_5],D.sl 1 b),L,L.length).snd.fst.length) (LP cx (qm sp p w c a) n 88 2 3 k [(1,V.d (D.sl 1 b)),(2,V.func 89 [V.ptr 0 0]),(13,V.d (D.sl 5 (T.ds kids))),(14,V.d (D.int .i64 (↑kids.length:Int))),(15,V.d (D.int .i64 (IntKind.i64.wrap (i+(1:Int)))))] [(0,Ob.val 1 (V.sl 1 L' 1)),(1,Ob.tok L'.length)] (AK cx (qm sp p w c a) n 88 2 3 (EK cx 88 2)))) else some (Out.ret (V.tup []),[(0,Ob.val 1 (V.sl 1 L 1)),(1,Ob.tok L.length)]):=by kernel_rfl
theorem ybs(sp:D→D→List D→Option (List D))(p:D→List UInt8→Option Bool)(w:List UInt8→Bool)(c:D→D→Option (List D))(a:List UInt8→List D→Option (List D))(n k:Nat)(b L:List D)(kids:List T)(i:Int):LP cx (qm sp p w c a) n 88 2 20 (k+1) [(1,V.d (D.sl 1 b)),(2,V.func 89 [V.ptr 0 0]),(88,V.d (D.sl 5 (T.ds kids))),(89,V.d (D.int .i64 (kids.length:Int))),(90,V.d (D.int .i64 i))] [(0,Ob.val 1 (V.sl 1 L 1)),(1,Ob.tok L.length)] (AK cx (qm sp p w c a) n 88 2 20 (EK cx 88 2))=bif decide (i<(↑kids.length:Int)) then zb (decide (0≤i)&&decide (i<(↑(T.ds kids).length:Int))) (za (T.ds kids) i.toNat fun y=>za y.cells 0 fun c_1=>za y.cells 1 fun c_2=>za y.cells 2 fun c_3=>za y.cells 3 fun c_4=>za y.cells 4 fun c_5=>zc (sp ((D.agg [c_1,c_2,c_3,c_4,c_5],D.sl 1 b),L,L.length).fst.fst ((D.agg [c_1,c_2,c_3,c_4,c_5],D.sl 1 b),L,L.length).fst.snd ((D.agg [c_1,c_2,c_3,c_4,c_5],D.sl 1 b),L,L.length).snd.fst) fun L'=>zb (((D.agg [c_1,c_2,c_3,c_4,c_5],D.sl 1 b),L,L.length).snd.snd.beq ((D.agg [c_1,c_2,c_3,c_4,c_5],D.sl 1 b),L,L.length).snd.fst.length) (LP cx (qm sp p w c a) n 88 2 20 k [(1,V.d (D.sl 1 b)),(2,V.func 89 [V.ptr 0 0]),(88,V.d (D.sl 5 (T.ds kids))),(89,V.d (D.int .i64 (↑kids.length:Int))),(90,V.d (D.int .i64 (IntKind.i64.wrap (i+(1:Int)))))] [(0,Ob.val 1 (V.sl 1 L' 1)),(1,Ob.tok L'.length)] (AK cx (qm sp p w c a) n 88 2 20 (EK cx 88 2)))) else some (Out.ret (V.tup []),[(0,Ob.val 1 (V.sl 1 L 1)),(1,Ob.tok L.length)]):=by kernel_rfl
theorem yb2(p:D→List UInt8→Option Bool)(n:Nat)(L:List D)(s:List UInt8):zk cx (ycb p) n 89 [.d (.str s),.ptr 0 0] (psN L)=zc (p (D.sl 1 L,s).fst (D.sl 1 L,s).snd) fun b=>bif !b then zb (decide (L.length=L.length)&&decide (L.length+[D.str s].length≤4294967296)) (some (Out.ret (V.tup []),[(0,Ob.val 1 (V.sl 1 (L++[D.str s]) 1)),(1,Ob.tok (L.length+[D.str s].length))])) else some (Out.ret (V.tup []),[(0,Ob.val 1 (V.sl 1 L 1)),(1,Ob.tok L.length)]):=by kernel_rfl
theorem ydz(sp:D→D→List D→Option (List D))(n:Nat)(l:List T):zk cx (zpz sp) n 52 [.d (.sl 5 (T.ds l))] []=LP cx (zpz sp) n 52 0 3 n [(3,V.ptr 3 0),(6,V.d (D.sl 5 (T.ds l))),(7,V.d (D.int .i64 (↑(T.ds l).length:Int))),(8,V.d (D.int .i64 (0:Int)))] [(3,Ob.val 1 (V.sl 1 [] 20)),(20,Ob.tok 0)] (AK cx (zpz sp) n 52 0 3 (EK cx 52 0)):=by kernel_rfl
theorem ybt(sp:D→D→List D→Option (List D))(n k:Nat)(l:List T)(L:List D)(i:Int):LP cx (zpz sp) n 52 0 3 (k+1) [(3,V.ptr 3 0),(6,V.d (D.sl 5 (T.ds l))),(7,V.d (D.int .i64 (l.length:Int))),(8,V.d (D.int .i64 i))] [(3,Ob.val 1 (V.sl 1 L 20)),(20,Ob.tok L.length)] (AK cx (zpz sp) n 52 0 3 (EK cx 52 0))=bif decide (i<(↑l.length:Int)) then zb (decide (0≤i)&&decide (i<(↑(T.ds l).length:Int))) (za (T.ds l) i.toNat fun y=>za y.cells 0 fun c=>za y.cells 1 fun c_1=>za y.cells 2 fun c_2=>za y.cells 3 fun c_3=>za y.cells 4 fun c_4=>zc (sp ((D.agg [c,c_1,c_2,c_3,c_4],D.sl 1 []),L,L.length).fst.fst ((D.agg [c,c_1,c_2,c_3,c_4],D.sl 1 []),L,L.length).fst.snd ((D.agg [c,c_1,c_2,c_3,c_4],D.sl 1 []),L,L.length).snd.fst) fun L'=>zb (((D.agg [c,c_1,c_2,c_3,c_4],D.sl 1 []),L,L.length).snd.snd.beq ((D.agg [c,c_1,c_2,c_3,c_4],D.sl 1 []),L,L.length).snd.fst.length) (LP cx (zpz sp) n 52 0 3 k [(3,V.ptr 3 0),(6,V.d (D.sl 5 (T.ds l))),(7,V.d (D.int .i64 (↑l.length:Int))),(8,V.d (D.int .i64 (IntKind.i64.wrap (i+(1:Int)))))] [(3,Ob.val 1 (V.sl 1 L' 20)),(20,Ob.tok L'.length)] (AK cx (zpz sp) n 52 0 3 (EK cx 52 0)))) else some (Out.ret (V.d (D.sl 1 L)),[]):=by kernel_rfl
theorem yb1(p:D→List UInt8→Option Int)(n:Nat)(l:List D)(s:List UInt8):zk cx (zt 132 zfm (fun q=>p q.1 q.2) mkI (CK.plain zm)) n 90 [.d (.sl 1 l),.d (.str s)] []=zc (p (.sl 1 l) s) fun b=>some (.ret (.d (.bool (decide ((0:Int)≤b)))),[]):=by kernel_rfl
theorem yc4(l:List (List UInt8))(s:List UInt8)(hl:yi l=true):zh cx 90 [.d (.sl 1 (l.map .str)),.d (.str s)] []=some (.ret (mkB (Sp.mem s l)),[]):=by
 have hk:knows cx (zt 132 zfm (fun q=>(fun (x:D) s=>zc (zbb x) fun l=>some (wx (fun x=>decide (s=x)) l)) q.1 q.2) mkI (CK.plain zm)).S (zh cx):=zj zo fun a q b hd h hb=>by
  obtain rfl:=zgg h
  obtain ⟨l,hl,hb⟩:=zd hb
  cases hb
  obtain ⟨h1,h2⟩:=zau hl
  rw [h1]
  exact yc6 l q.2 h2
 refine zl hk (N:=0) ?_
 refine (yb1 (fun (x:D) s=>zc (zbb x) fun l=>some (wx (fun x=>decide (s=x)) l)) 0 _ s).trans ?_
 rw [zcn hl]
 show some (Out.ret (mkB (decide ((0:Int)≤wx (fun x=>decide (s=x)) l))),[])=_
 rw [zj6]
 have:(l.any fun x=>decide (s=x))=Sp.mem s l:=by
  unfold Sp.mem
  congr 1
  funext x
  by_cases h:s=x
  ·subst h; rfl
  ·rw [decide_eq_false h,decide_eq_false (fun e=>h e.symm)]
 rw [this]
def p90(x:D)(s:List UInt8):Option Bool:=zc (zbb x) fun l=>some (Sp.mem s l)
theorem zqe{f:List V}{q:D×List UInt8}{b:Bool}(h:zfm f=some q)(hb:p90 q.1 q.2=some b):zh cx 90 f []=some (.ret (mkB b),[]):=by
 obtain rfl:=zgg h
 obtain ⟨l,hl,hb⟩:=zd hb
 cases hb
 obtain ⟨h1,h2⟩:=zau hl
 rw [h1]
 exact yc4 l q.2 h2
theorem m89(l:List (List UInt8))(s:List UInt8)(hl:l.length+1<4294967296):zh cx 89 [.d (.str s),.ptr 0 0] (psN (l.map .str))=some (.ret (.tup []),psN ((Sp.put l s).map .str)):=by
 have hk:knows cx (ycb p90).S (zh cx):=zj zo fun a q b hd h hb=>zqe h hb
 refine zl hk (N:=0) ?_
 rw [yb2]
 show zc (p90 (.sl 1 (l.map .str)) s) _=_
 unfold p90
 rw [zcn (decide_eq_true (by omega))]
 unfold Sp.put
 show (bif !Sp.mem s l then _ else _)=_
 cases Sp.mem s l
 ·simp only [Bool.not_false,cond_true,cond_false]
  rw [decide_eq_true (p:=(l.map D.str).length+[D.str s].length≤4294967296) (by simp only [List.length_map,List.length_cons,List.length_nil]; omega)]
  simp only [zb,decide_true,Bool.and_self,cond_true,psN,List.map_append,List.map_cons,List.map_nil,List.length_append]
 ·rfl
mutual
def y5:T→List (List UInt8)→List (List UInt8)→List (List UInt8)
 | .mk k nm kids nms _,b,acc=>bif decide (k=1) then (bif Sp.mem nm b||Sp.word nm then acc else Sp.put acc nm) else vc kids k nms b 0 acc
def vc:List T→Int→List (List UInt8)→List (List UInt8)→Nat→List (List UInt8)→List (List UInt8)
 | [],_,_,_,_,acc=>acc
 | t::r,k,nms,b,i,acc=>vc r k nms b (i+1)
   (bif (decide (k=7)&&decide (i=1))||(decide (k=11)&&decide (i=0)) then acc
    else y5 t (bif decide (k=2)||(decide (i=1)&&(decide (k=4)||decide (k=5))) then b++nms else b) acc)
end
mutual
def Sp.cnt:T→Nat
 | .mk _ _ kids nms _=>1+nms.length+xa kids
def xa:List T→Nat
 | []=>0
 | t::l=>Sp.cnt t+xa l
end
theorem z4g(l:List (List UInt8))(s:List UInt8):(Sp.put l s).length≤l.length+1:=by
 unfold Sp.put
 cases Sp.mem s l <;> simp
mutual
theorem zdp:∀ (t:T) (b acc:List (List UInt8)),(y5 t b acc).length≤acc.length+Sp.cnt t
 | .mk k nm kids nms _,b,acc=>by
  unfold y5
  have h1:=zuk kids k nms b 0 acc
  have h2:=z4g acc nm
  unfold Sp.cnt
  cases decide (k=1)
  ·simp only [cond_false]; omega
  ·simp only [cond_true]
   cases Sp.mem nm b||Sp.word nm
   ·simp only [cond_false]; omega
   ·simp only [cond_true]; omega
theorem zuk:∀ (l:List T) (k:Int) (nms b:List (List UInt8)) (i:Nat) (acc:List (List UInt8)),(vc l k nms b i acc).length≤acc.length+xa l
 | [],k,nms,b,i,acc=>by simp [vc]
 | t::r,k,nms,b,i,acc=>by
  unfold vc xa
  refine Nat.le_trans (zuk r k nms b (i+1) _) ?_
  cases (decide (k=7)&&decide (i=1))||(decide (k=11)&&decide (i=0))
  ·simp only [cond_false]
   have:=zdp t (bif decide (k=2)||(decide (i=1)&&(decide (k=4)||decide (k=5))) then b++nms else b) acc
   omega
  ·simp only [cond_true]; omega
end
def xr(b acc:List (List UInt8))(l:List T):List (List UInt8):=l.foldl (fun a t=>y5 t b a) acc
theorem z2i{k:Int}{nms b:List (List UInt8)}(h2:k ≠ 2)(h4:k ≠ 4)(h5:k ≠ 5)(h7:k ≠ 7)(h11:k ≠ 11):∀ (l:List T) (i:Nat) (acc:List (List UInt8)),vc l k nms b i acc=xr b acc l
 | [],i,acc=>by simp [vc,xr]
 | t::r,i,acc=>by
  unfold vc
  rw [decide_eq_false h2,decide_eq_false h4,decide_eq_false h5,decide_eq_false h7,decide_eq_false h11]
  simp only [Bool.false_and,Bool.or_false,Bool.and_false,cond_false]
  exact z2i h2 h4 h5 h7 h11 r (i+1) _
theorem z2h{nms b:List (List UInt8)}:∀ (l:List T) (i:Nat) (acc:List (List UInt8)),0<i→vc l 11 nms b i acc=xr b acc l
 | [],i,acc,_=>by simp [vc,xr]
 | t::r,i,acc,hi=>by
  unfold vc
  rw [decide_eq_false (p:=i=0) (by omega),show decide ((11:Int)=7)=false from rfl,show decide ((11:Int)=2)=false from rfl,show decide ((11:Int)=4)=false from rfl,show decide ((11:Int)=5)=false from rfl]
  simp only [Bool.false_and,Bool.or_false,Bool.and_false,cond_false]
  exact z2h r (i+1) _ (Nat.succ_pos _)
theorem zh3{R α S:Type}(L:Nat→Int→S→Option R)(xs:List α)(step:S→α→S)(I:Nat→S→Prop)(E:S→Option R)(hs:xs.length<4294967296)
  (H:∀ (k j:Nat) x s,j<xs.length→xs[j]?=some x→I j s→L (k+1) j s=L k (IntKind.i64.wrap ((j:Int)+1)) (step s x)∧I (j+1) (step s x)) (HE:∀ k s,L (k+1) xs.length s=E s) {s:S} (h0:I 0 s) {k:Nat} (hk:xs.length<k) :
  L k 0 s=E (xs.foldl step s):=by
 have key:∀ (d j:Nat) (k:Nat) (s:S),j+d=xs.length→d<k→I j s→L k j s=E ((xs.drop j).foldl step s):=by
  intro d
  induction d with
  | zero=>
   intro j k s hj hk hi
   obtain ⟨k,rfl⟩:∃ k',k=k'+1:=⟨k - 1,by omega⟩
   obtain rfl:j=xs.length:=by omega
   rw [HE,List.drop_length]; rfl
  | succ d ih=>
   intro j k s hj hk hi
   obtain ⟨k,rfl⟩:∃ k',k=k'+1:=⟨k - 1,by omega⟩
   have hlt:j<xs.length:=by omega
   obtain ⟨h1,h2⟩:=H k j xs[j] s hlt (List.getElem?_eq_getElem hlt) hi
   rw [h1,IntWalk.i64_in _ (by omega)]
   have e:((j:Int)+1)=((j+1:Nat):Int):=by omega
   rw [e,ih (j+1) k _ (by omega) (by omega) h2,List.drop_eq_getElem_cons hlt]
   rfl
 have:=key xs.length 0 k s (by omega) hk h0
 rw [List.drop_zero] at this
 exact this
def okG(t:T)(b l:List (List UInt8)):Bool:=(Sp.right t||Sp.elem t)&&decide (b.length+Sp.cnt t<2147483648)&&decide (l.length+Sp.cnt t<2147483648)
def zan(m:Nat)(x y:D)(L:List D):Option (List D):=zc (zg m x) fun t=>zc (zbb y) fun b=>zc (strsOf L) fun l=>zb (okG t b l) (some ((y5 t b l).map .str))
def zc8(x y:D):Option (List D):=zc (zbb x) fun a=>zc (zbb y) fun b=>zb (decide (a.length+b.length<4294967296)) (some ((a++b).map .str))
def a89(s:List UInt8)(L:List D):Option (List D):=zc (strsOf L) fun l=>zb (decide (l.length+1<4294967296)) (some ((Sp.put l s).map .str))
theorem zu6{a:List V}{σ:St}{q L n}(h:zom a σ=some (q,(L,n))):a=[.d q.1,.d q.2,.func 89 [.ptr 0 0]]∧pdN σ=some (L,n):=by
 unfold zom at h
 split at h
 ·obtain ⟨p,hp,h⟩:=zd h
  cases h
  exact ⟨rfl,hp⟩
 ·cases h
theorem zu5{a:List V}{σ:St}{q L n}(h:zwx a σ=some (q,(L,n))):a=[.d (.str q),.ptr 0 0]∧pdN σ=some (L,n):=by
 unfold zwx at h
 split at h
 ·obtain ⟨p,hp,h⟩:=zd h
  cases h
  exact ⟨rfl,hp⟩
 ·cases h
theorem zu8{a:List V}{q}(h:zw0 a=some q):a=[.d (.sl 1 [q.1,q.2])]:=by
 unfold zw0 at h; split at h <;> cases h; rfl
def zsk(m:Nat):Prop:=∀ (t:T) (b l:List (List UInt8)),t.depth≤m→t.ok=true→okG t b l=true→zh cx 88 [.d t.d,.d (.sl 1 (b.map .str)),.func 89 [.ptr 0 0]] (psN (l.map .str))=some (.ret (.tup []),psN ((y5 t b l).map .str))
theorem zm4{m:Nat}(hm:zsk m){S:CK R1}(hS:knows cx S.S (zh cx)):knows cx (stK 88 zom (fun q=>zan m q.1 q.2) S).S (zh cx):=zp5 hS fun a σ q L n L' hd hn h=>by
 obtain ⟨rfl,hp⟩:=zu6 hd
 obtain ⟨t,ht,h⟩:=zd h
 obtain ⟨b,hb,h⟩:=zd h
 obtain ⟨l,hl,h⟩:=zd h
 obtain ⟨ho,h⟩:=ze h
 cases h
 obtain ⟨h1,h2,h3⟩:=yx ht
 rw [h1,(zau hb).1,ztx hp hn,zep hl]
 exact hm t b l h2 h3 ho
theorem z0l{m:Nat}(hm:zsk m):knows cx (qm (zan m) p90 Sp.word zc8 a89).S (zh cx):=
 zm4 hm <| zp5 (zj (zj (zj zo fun a q b hd h hb=>by
   obtain rfl:=zu8 h
   obtain ⟨x,hx,hb⟩:=zd hb
   obtain ⟨y,hy,hb⟩:=zd hb
   obtain ⟨h1,hb⟩:=ze hb
   cases hb
   have:=of_decide_eq_true h1
   rw [(zau hx).1,(zau hy).1]
   exact yc7 x y (by omega)) fun a q b hd h hb=>by
   cases hb
   obtain rfl:=vf h
   exact yc8 q) fun a q b hd h hb=>zqe h hb) fun a σ q L n L' hd hn h=>by
  obtain ⟨rfl,hp⟩:=zu5 hd
  obtain ⟨l,hl,h⟩:=zd h
  obtain ⟨ho,h⟩:=ze h
  cases h
  rw [ztx hp hn,zep hl]
  exact m89 l q (of_decide_eq_true ho)
theorem zhv{m:Nat}{t:T}{b l:List (List UInt8)}(hd:t.depth≤m)(ho:t.ok=true)(h:okG t b l=true):zan m t.d (.sl 1 (b.map .str)) (l.map .str)=some ((y5 t b l).map .str):=by
 have hb:yi b=true:=by
  unfold okG at h
  rw [Bool.and_eq_true,Bool.and_eq_true] at h
  have:=of_decide_eq_true h.1.2
  exact decide_eq_true (by omega)
 unfold zan
 rw [zde hd ho,zcn hb,zfs]
 show zb (okG t b l) _=_
 rw [h]
 rfl
end Go.Vai
end

section
namespace Go.Vai
open Go.Proofs
theorem za2{t:T}{b l:List (List UInt8)}:okG t b l=true↔(Sp.right t||Sp.elem t)=true∧b.length+Sp.cnt t<2147483648∧l.length+Sp.cnt t<2147483648:=by
 unfold okG
 rw [Bool.and_eq_true,Bool.and_eq_true,decide_eq_true_eq,decide_eq_true_eq,and_assoc]
theorem z1x{m:Nat}(n:Nat)(b acc:List (List UInt8))(kids:List T)(hk:kids.length<n)(hs:yi kids=true)(hd:∀ t∈kids,t.depth≤m∧t.ok=true∧(Sp.right t||Sp.elem t)=true)
  (hb:b.length+xa kids<2147483648) (ha:acc.length+xa kids<2147483648) (blk:Nat) (v1 v2 v3:Nat)
  (HL:∀ (k:Nat) (L:List D) (i:Int),(fun (k:Nat) (i:Int) (L:List D)=>LP cx (qm (zan m) p90 Sp.word zc8 a89) n 88 2 blk k [(1,V.d (D.sl 1 (b.map .str))),(2,V.func 89 [V.ptr 0 0]),(v1,V.d (D.sl 5 (T.ds kids))),(v2,V.d (D.int .i64 (kids.length:Int))),(v3,V.d (D.int .i64 i))] [(0,Ob.val 1 (V.sl 1 L 1)),(1,Ob.tok L.length)] (AK cx (qm (zan m) p90 Sp.word zc8 a89) n 88 2 blk (EK cx 88 2))) (k+1) i L =
   bif decide (i<(kids.length:Int)) then zb (decide (0≤i)&&decide (i<((T.ds kids).length:Int))) (za (T.ds kids) i.toNat fun y=>
    za y.cells 0 fun c_1=>za y.cells 1 fun c_2=>za y.cells 2 fun c_3=>za y.cells 3 fun c_4=>za y.cells 4 fun c_5=>
     zc (zan m (D.agg [c_1,c_2,c_3,c_4,c_5]) (D.sl 1 (b.map .str)) L) fun L'=>zb (L.length.beq L.length)
      ((fun (k:Nat) (i:Int) (L:List D)=>LP cx (qm (zan m) p90 Sp.word zc8 a89) n 88 2 blk k [(1,V.d (D.sl 1 (b.map .str))),(2,V.func 89 [V.ptr 0 0]),(v1,V.d (D.sl 5 (T.ds kids))),(v2,V.d (D.int .i64 (kids.length:Int))),(v3,V.d (D.int .i64 i))] [(0,Ob.val 1 (V.sl 1 L 1)),(1,Ob.tok L.length)] (AK cx (qm (zan m) p90 Sp.word zc8 a89) n 88 2 blk (EK cx 88 2))) k (IntKind.i64.wrap (i+1)) L'))
   else some (Out.ret (V.tup []),[(0,Ob.val 1 (V.sl 1 L 1)),(1,Ob.tok L.length)])) :
  LP cx (qm (zan m) p90 Sp.word zc8 a89) n 88 2 blk n [(1,V.d (D.sl 1 (b.map .str))),(2,V.func 89 [V.ptr 0 0]),(v1,V.d (D.sl 5 (T.ds kids))),(v2,V.d (D.int .i64 (kids.length:Int))),(v3,V.d (D.int .i64 0))] (psN (acc.map .str)) (AK cx (qm (zan m) p90 Sp.word zc8 a89) n 88 2 blk (EK cx 88 2)) =
   some (.ret (.tup []),psN ((xr b acc kids).map .str)):=by
 have h:=zh3 (fun k i (l:List (List UInt8))=>LP cx (qm (zan m) p90 Sp.word zc8 a89) n 88 2 blk k [(1,V.d (D.sl 1 (b.map .str))),(2,V.func 89 [V.ptr 0 0]),(v1,V.d (D.sl 5 (T.ds kids))),(v2,V.d (D.int .i64 (kids.length:Int))),(v3,V.d (D.int .i64 i))] [(0,Ob.val 1 (V.sl 1 (l.map .str) 1)),(1,Ob.tok (l.map D.str).length)] (AK cx (qm (zan m) p90 Sp.word zc8 a89) n 88 2 blk (EK cx 88 2)))
  kids (fun a t=>y5 t b a) (fun j l=>l.length+xa (kids.drop j)<2147483648) (fun l=>some (.ret (.tup []),psN (l.map .str))) (yj hs)
  (fun k j x l hj hx hi=>by
   have hmem:=List.mem_of_getElem? hx
   obtain ⟨h1,h2,h3⟩:=hd x hmem
   have hdr:kids.drop j=x::kids.drop (j+1):=by
    have:=List.drop_eq_getElem_cons hj
    rw [List.getElem?_eq_getElem hj] at hx
    cases hx
    exact this
   have hc:∀ {l:List T},x∈l→Sp.cnt x≤xa l:=by
    intro l
    induction l with
    | nil=>intro h; cases h
    | cons y r ih=>
     intro h
     simp only [xa]
     cases h with
     | head=>omega
     | tail _ h=>have:=ih h; omega
   have hc:=hc hmem
   rw [hdr] at hi
   simp only [xa] at hi
   have hg:=zdp x b l
   refine ⟨?_,by omega⟩
   refine (HL k (l.map .str) j).trans ?_
   rw [ye hj,zq,ye hj,xd,z6,Int.toNat_natCast,hx]
   show za x.d.cells 0 _=_
   rw [yc]
   simp only [x5,w7,w0,wz,wy,wd]
   rw [zhv h1 h2 (za2.2 ⟨h3,by omega,by omega⟩)]
   show zb _ _=_
   rw [Nat.beq_refl]
   rfl)
  (fun k l=>by
   refine (HL k (l.map .str) kids.length).trans ?_
   rw [yy,cond_false]
   rfl) (s:=acc) (by rw [List.drop_zero]; exact ha) hk
 exact h
inductive Shp (k:Int) (kids:List T):Prop
 | nam (h:k=1) (e:kids=[])
 | lam (h:k=2) {a:T} (e:kids=[a]) (ha:Sp.right a=true)
 | all (h:k=3∨k=6∨k=8∨k=9∨k=10) (ha:∀ t∈kids,(Sp.right t||Sp.elem t)=true)
 | pi (h:k=4∨k=5) {a b:T} (e:kids=[a,b]) (ha:Sp.right a=true) (hb:Sp.right b=true)
 | at (h:k=7) {a b:T} (e:kids=[a,b]) (ha:Sp.right a=true)
 | elem (h:k=11) {f:T} {r:List T} (e:kids=f::r) (ha:∀ t∈r,(Sp.right t||Sp.elem t)=true)
theorem z1f{k:Int}{nm:List UInt8}{kids:List T}{nms:List (List UInt8)}{pl:Int}(h:(Sp.right (.mk k nm kids nms pl)||Sp.elem (.mk k nm kids nms pl))=true):Shp k kids:=by
 rw [Bool.or_eq_true] at h
 rcases h with h | h
 ·rcases kids with _ | ⟨a,_ | ⟨b,_ | ⟨c,l⟩⟩⟩
  ·simp only [Sp.right,Bool.and_eq_true,Bool.or_eq_true,decide_eq_true_eq] at h
   rcases h.2 with h | h
   ·exact .nam h.1 rfl
   ·exact .all (by omega) fun t ht=>by cases ht
  ·simp only [Sp.right,Bool.and_eq_true,Bool.or_eq_true,decide_eq_true_eq] at h
   rcases h.2 with ⟨⟨⟨h1 | h1,_⟩,_⟩,h2⟩ | ⟨⟨h1,_⟩,h2⟩
   ·exact .lam h1 rfl h2
   ·exact .all (by omega) fun t ht=>by
     rw [List.mem_singleton] at ht; subst ht; rw [h2]; rfl
   ·exact .all (by omega) fun t ht=>by
     rw [List.mem_singleton] at ht; subst ht; rw [h2,Bool.or_true]
  ·simp only [Sp.right,Bool.and_eq_true,Bool.or_eq_true,decide_eq_true_eq] at h
   rcases h.2 with ((h1 | h1) | h1) | h1
   ·exact .pi h1.1.1.1.1 rfl h1.1.2 h1.2
   ·exact .all (by omega) fun t ht=>by
     simp only [List.mem_cons,List.not_mem_nil,or_false] at ht
     rcases ht with rfl | rfl
     ·rw [h1.1.2]; rfl
     ·rw [h1.2]; rfl
   ·exact .at h1.1.1.1 rfl h1.1.2
   ·exact .all (by omega) fun t ht=>by
     simp only [List.mem_cons,List.not_mem_nil,or_false] at ht
     rcases ht with rfl | rfl
     ·rw [h1.1.2,Bool.or_true]
     ·rw [h1.2,Bool.or_true]
  ·simp only [Sp.right,Bool.and_eq_true,decide_eq_true_eq,zfj] at h
   obtain ⟨⟨⟨_,h0⟩,_⟩,⟨⟨h1,h2⟩,h3⟩,h4⟩:=h
   exact .all (by omega) fun t ht=>by
    simp only [List.mem_cons] at ht
    rcases ht with rfl | rfl | rfl | ht
    ·rw [h1,Bool.or_true]
    ·rw [h2,Bool.or_true]
    ·rw [h3,Bool.or_true]
    ·rw [List.all_eq_true.1 h4 t ht,Bool.or_true]
 ·rcases kids with _ | ⟨a,_ | ⟨b,_ | ⟨c,l⟩⟩⟩
  ·simp [Sp.elem] at h
  ·simp only [Sp.elem,Bool.and_eq_true,decide_eq_true_eq] at h
   exact .elem h.1.1.1 rfl fun t ht=>by cases ht
  ·simp only [Sp.elem,Bool.and_eq_true,decide_eq_true_eq] at h
   exact .elem h.1.1.1.1 rfl fun t ht=>by
    rw [List.mem_singleton] at ht; subst ht; rw [h.2]; rfl
  ·simp [Sp.elem] at h
theorem zix{R:Type}(x:Option R):zb true x=x:=rfl
theorem zyl{a b:List (List UInt8)}(h:a.length+b.length<4294967296):zc8 (.sl 1 (a.map .str)) (.sl 1 (b.map .str))=some ((a++b).map .str):=by
 unfold zc8
 rw [zcn (decide_eq_true (by omega)),zcn (decide_eq_true (by omega))]
 show zb (decide (a.length+b.length<4294967296)) _=_
 rw [decide_eq_true h]
 rfl
theorem z6w{b:List (List UInt8)}{s:List UInt8}(h:yi b=true):p90 (.sl 1 (b.map .str)) s=some (Sp.mem s b):=by
 unfold p90
 rw [zcn h]; rfl
theorem z81{l:List (List UInt8)}{s:List UInt8}(h:l.length+1<4294967296):a89 s (l.map .str)=some ((Sp.put l s).map .str):=by
 unfold a89
 rw [zfs]
 show zb (decide (l.length+1<4294967296)) _=_
 rw [decide_eq_true h]
 rfl
theorem zeb{t:T}:∀ {l:List T},t∈l→t.depth≤T.depths l
 | u::l,h=>by
  simp only [T.depths]
  cases h with
  | head=>omega
  | tail _ h=>have:=zeb h; omega
theorem m88:∀ m,zsk m
 | 0=>fun t b l hd _ _=>by cases t; simp only [T.depth] at hd; omega
 | m+1=>fun t b l hd ho hg=>by
  obtain ⟨k,nm,kids,nms,pl⟩:=t
  obtain ⟨hr,hb,hl⟩:=za2.1 hg
  have hsh:=z1f hr
  have ho2:=ho
  simp only [T.ok,Bool.and_eq_true] at ho2
  obtain ⟨⟨⟨⟨o1,o2⟩,o3⟩,o4⟩,o5⟩:=ho2
  simp only [T.depth] at hd
  simp only [Sp.cnt] at hb hl
  have hbs:yi b=true:=decide_eq_true (by omega)
  refine zl (z0l (m88 m)) (N:=kids.length+1) ?_
  have kid:∀ t∈kids,t.depth≤m∧t.ok=true:=fun t ht=>⟨by have:=zeb ht; omega,wn o5 ht⟩
  cases hsh with
  | nam h e=>
   subst h; subst e
   refine (z8z (zan m) p90 Sp.word zc8 a89 _ _ _ _ _ _).trans ?_
   show zc (p90 (.sl 1 (b.map .str)) nm) _=_
   rw [z6w hbs]
   show (bif !Sp.mem nm b then zb (decide (nm.length≤big)) (bif !Sp.word nm then zc (a89 nm (l.map .str)) _ else _) else _)=_
   rw [qe o1,z81 (by omega)]
   show _=some (Out.ret (V.tup []),psN ((bif Sp.mem nm b||Sp.word nm then l else Sp.put l nm).map .str))
   cases Sp.mem nm b
   ·cases Sp.word nm
    ·show zb (Nat.beq _ _) _=_
     rw [Nat.beq_refl]
     rfl
    ·rfl
   ·rfl
  | lam h e ha=>
   subst h; subst e
   rename_i a
   obtain ⟨k1,m1,l1,n1,p1⟩:=a
   obtain ⟨d1,d2⟩:=kid _ (List.mem_singleton.2 rfl)
   simp only [xa] at hb hl
   refine (z8y (zan m) p90 Sp.word zc8 a89 _ _ _ _ _ _ _ _ _ _ _).trans ?_
   show zc (zc8 (.sl 1 (b.map .str)) (.sl 1 (nms.map .str))) _=_
   rw [zyl (by omega)]
   show zc (zan m (T.mk k1 m1 l1 n1 p1).d (.sl 1 ((b++nms).map .str)) (l.map .str)) _=_
   rw [zhv d1 d2 (za2.2 ⟨by rw [ha]; rfl,by rw [List.length_append]; omega,by omega⟩)]
   show zb (Nat.beq _ _) _=_
   rw [Nat.beq_refl]
   rfl
  | all h ha=>
   have e:y5 (.mk k nm kids nms pl) b l=xr b l kids:=by
    unfold y5
    rw [decide_eq_false (p:=k=1) (by omega),cond_false]
    exact z2i (by omega) (by omega) (by omega) (by omega) (by omega) kids 0 l
   rw [e]
   have hloop:=z1x (m:=m) (kids.length+1) b l kids (Nat.lt_succ_self _) o2 (fun t ht=>⟨(kid t ht).1,(kid t ht).2,ha t ht⟩) (by omega) (by omega) 3 13 14 15 (fun k L i=>yds (zan m) p90 Sp.word zc8 a89 _ k _ L kids i)
   have lds:=zq kids
   rcases h with rfl | rfl | rfl | rfl | rfl
   ·have g:=z8x (zan m) p90 Sp.word zc8 a89 (kids.length+1) (b.map .str) (l.map .str) nm nms pl kids
    rw [lds] at g
    exact g.trans hloop
   ·have g:=z8u (zan m) p90 Sp.word zc8 a89 (kids.length+1) (b.map .str) (l.map .str) nm nms pl kids
    rw [lds] at g
    exact g.trans hloop
   ·have g:=z8s (zan m) p90 Sp.word zc8 a89 (kids.length+1) (b.map .str) (l.map .str) nm nms pl kids
    rw [lds] at g
    exact g.trans hloop
   ·have g:=z8r (zan m) p90 Sp.word zc8 a89 (kids.length+1) (b.map .str) (l.map .str) nm nms pl kids
    rw [lds] at g
    exact g.trans hloop
   ·have g:=z5i (zan m) p90 Sp.word zc8 a89 (kids.length+1) (b.map .str) (l.map .str) nm nms pl kids
    rw [lds] at g
    exact g.trans hloop
  | pi h e ha hb2=>
   subst e
   rename_i a c
   obtain ⟨k1,m1,l1,n1,p1⟩:=a
   obtain ⟨k2,m2,l2,n2,p2⟩:=c
   obtain ⟨d1,d2⟩:=kid (T.mk k1 m1 l1 n1 p1) (by simp)
   obtain ⟨d3,d4⟩:=kid (T.mk k2 m2 l2 n2 p2) (by simp)
   simp only [xa] at hb hl
   have hgl:=zdp (T.mk k1 m1 l1 n1 p1) b l
   have fin:zc (zan m (T.mk k1 m1 l1 n1 p1).d (.sl 1 (b.map .str)) (l.map .str)) (fun L'=>zb (Nat.beq (l.map D.str).length (l.map D.str).length) (zc (zc8 (.sl 1 (b.map .str)) (.sl 1 (nms.map .str))) fun b=>zc (zan m (T.mk k2 m2 l2 n2 p2).d (.sl 1 b) L') fun L''=>zb (Nat.beq L'.length L'.length) (some (Out.ret (V.tup []),psN L'')))) =
     some (Out.ret (V.tup []),psN ((y5 (T.mk k2 m2 l2 n2 p2) (b++nms) (y5 (T.mk k1 m1 l1 n1 p1) b l)).map .str)):=by
    rw [zhv d1 d2 (za2.2 ⟨by rw [ha]; rfl,by omega,by omega⟩)]
    show zb (Nat.beq _ _) _=_
    rw [Nat.beq_refl,zyl (by omega)]
    show zc (zan m (T.mk k2 m2 l2 n2 p2).d (.sl 1 ((b++nms).map .str)) ((y5 (T.mk k1 m1 l1 n1 p1) b l).map .str)) _=_
    rw [zhv d3 d4 (za2.2 ⟨by rw [hb2]; rfl,by rw [List.length_append]; omega,by omega⟩)]
    show zb (Nat.beq _ _) _=_
    rw [Nat.beq_refl]
    rfl
   rcases h with rfl | rfl
   ·exact (z8w (zan m) p90 Sp.word zc8 a89 _ _ _ _ _ _ _ _ _ _ _ _ _ _ _ _).trans fin
   ·exact (z8v (zan m) p90 Sp.word zc8 a89 _ _ _ _ _ _ _ _ _ _ _ _ _ _ _ _).trans fin
  | «at» h e ha=>
   subst h; subst e
   rename_i a c
   obtain ⟨k1,m1,l1,n1,p1⟩:=a
   obtain ⟨k2,m2,l2,n2,p2⟩:=c
   obtain ⟨d1,d2⟩:=kid (T.mk k1 m1 l1 n1 p1) (by simp)
   simp only [xa] at hb hl
   refine (z8t (zan m) p90 Sp.word zc8 a89 _ _ _ _ _ _ _ _ _ _ _ _ _ _ _ _).trans ?_
   show zc (zan m (T.mk k1 m1 l1 n1 p1).d (.sl 1 (b.map .str)) (l.map .str)) _=_
   rw [zhv d1 d2 (za2.2 ⟨by rw [ha]; rfl,by omega,by omega⟩)]
   show zb (Nat.beq _ _) _=_
   rw [Nat.beq_refl]
   rfl
  | elem h e ha=>
   subst h; subst e
   rename_i f r
   simp only [xa] at hb hl
   have e:y5 (.mk 11 nm (f::r) nms pl) b l=xr b l r:=by
    unfold y5
    rw [show decide ((11:Int)=1)=false from rfl,cond_false]
    unfold vc
    exact z2h r 1 l (Nat.succ_pos _)
   rw [e]
   have hloop:=z1x (m:=m) ((f::r).length+1) b l r (by simp only [List.length_cons]; omega) (decide_eq_true (by have:=yj o2; simp only [List.length_cons] at this; omega)) (fun t ht=>⟨(kid t (List.mem_cons_of_mem _ ht)).1,(kid t (List.mem_cons_of_mem _ ht)).2,ha t ht⟩) (by omega) (by omega) 20 88 89 90 (fun k L i=>ybs (zan m) p90 Sp.word zc8 a89 _ k _ L r i)
   refine (z5h (zan m) p90 Sp.word zc8 a89 _ _ _ _ _ _ _ _).trans ?_
   have e2:List.drop (1:Int).toNat (List.take (f.d::T.ds r).length (f.d::T.ds r))=T.ds r:=by
    rw [List.take_length]; rfl
   rw [e2,zq,decide_eq_true (p:=(1:Int)≤((f.d::T.ds r).length:Int)) (by simp only [List.length_cons]; omega)]
   exact (zix _).trans hloop
end Go.Vai
end

section
namespace Go.Vai
open Go.Proofs
def ziq:List (List UInt8)→List Nat→List UInt8→Int
 | w::ws,n::ns,s=>bif decide (w=s) then n else ziq ws ns s
 | _,_,_=>-1
def zry:List (List UInt8)→List Nat→List UInt8→Option R1
 | w::ws,n::ns,s=>bif decide (w=s) then some (.ret (.d (.int .i64 n)),[]) else zry ws ns s
 | _,_,_=>some (.ret (.d (.int .i64 (-1))),[])
theorem yea(s:List UInt8):zk cx (CK.plain zm) 20 13 [.d (.str s)] []=zry zkk zmw s:=by kernel_rfl
theorem zp2(s:List UInt8):∀ (w:List (List UInt8)) (n:List Nat),zry w n s=some (.ret (mkI (ziq w n s)),[])
 | [],_=>rfl
 | _::_,[]=>rfl
 | w::ws,n::ns=>by
  unfold zry ziq
  rw [zp2 s ws ns]
  cases decide (w=s) <;> rfl
theorem zm2:∀ (w:List (List UInt8)) (n:List Nat) (s:List UInt8),w.length=n.length→decide (0≤ziq w n s)=w9 (w.map .str) s
 | [],[],s,_=>rfl
 | w::ws,n::ns,s,h=>by
  have ih:=zm2 ws ns s (by simpa using h)
  unfold ziq
  show _=(decide (s=w)||w9 (ws.map .str) s)
  by_cases hw:w=s
  ·subst hw
   simp
  ·have e1:decide (w=s)=false:=decide_eq_false hw
   have e2:decide (s=w)=false:=decide_eq_false fun e=>hw e.symm
   rw [e1,e2,cond_false,ih,Bool.false_or]
theorem m13(s:List UInt8):zh cx 13 [.d (.str s)] []=some (.ret (mkI (ziq zkk zmw s)),[]):=by
 refine zl zo (N:=20) ?_
 rw [yea]
 exact zp2 s zkk zmw
def zri:List V→Option (D×(D×D)) | [.d h,.d t,.d b]=>some (h,(t,b)) | _=>none
noncomputable def K60(sp:D→D→D→Option (List D))(p:D→List UInt8→Option Bool)(q:List UInt8→Int)(u:D→List UInt8→Option (List D)):CK R1:=
 zt 60 zri (fun x=>sp x.1 x.2.1 x.2.2) (fun x=>.d (.sl 1 x)) (zt 93 zfm (fun x=>p x.1 x.2) mkB (zt 13 zay (fun s=>some (q s)) mkI (zt 98 zfm (fun x=>u x.1 x.2) (fun x=>.d (.sl 1 x)) (CK.plain zm))))
end Go.Vai
end

section
namespace Go.Vai
open Go.Proofs
theorem yb0(p:D→List UInt8→Option Bool)(n:Nat)(l:List D)(s:List UInt8):zk cx (zt 93 zfm (fun q=>p q.1 q.2) mkB (CK.plain zm)) n 98 [.d (.sl 1 l),.d (.str s)] []=zc (p (D.sl 1 l,s).fst (D.sl 1 l,s).snd) fun b=>bif b then some (Out.ret (V.d (D.sl 1 l)),[]) else zb (decide (([]:List D).length+l.length≤4294967296)) (zb (decide (([]:List D).length+l.length=l.length)&&decide (l.length+[D.str s].length≤4294967296)) (some (Out.ret (V.d (D.sl 1 (l++[D.str s]))),[]))):=by kernel_rfl
theorem ydw(sp:D→D→D→Option (List D))(p:D→List UInt8→Option Bool)(q:List UInt8→Int)(u:D→List UInt8→Option (List D))(n:Nat)(h b:List D)(k:Int)(nm:List UInt8)(kids:List T)(nms:List (List UInt8))(pl:Int):zk cx (K60 sp p q u) n 60 [.d (.sl 1 h),.d (.agg [.int .i64 k,.str nm,.sl 5 (T.ds kids),.sl 1 (nms.map .str),.int .i64 pl]),.d (.sl 1 b)] []=bif decide (k=(1:Int)) then zc (p (D.sl 1 b,nm).fst (D.sl 1 b,nm).snd) fun b=>bif b then some (Out.ret (V.d (D.sl 1 h)),[]) else zb (decide (nm.length≤big)) (bif decide ((0:Int)≤q nm) then some (Out.ret (V.d (D.sl 1 h)),[]) else zc (u (D.sl 1 h,nm).fst (D.sl 1 h,nm).snd) fun b=>some (Out.ret (V.d (D.sl 1 b)),[])) else LP cx (K60 sp p q u) n 60 0 6 n [(0,V.d (D.sl 1 h)),(2,V.d (D.sl 1 b)),(4,V.ptr 4 0),(7,V.d (D.int .i64 (0:Int)))] [(4,Ob.val 5 (V.d (D.agg [D.int .i64 k,D.str nm,D.sl 5 (T.ds kids),D.sl 1 (List.map D.str nms),D.int .i64 pl])))] (AK cx (K60 sp p q u) n 60 0 6 (EK cx 60 0)):=by kernel_rfl
theorem z3t(sp:D→D→D→Option (List D))(p:D→List UInt8→Option Bool)(q:List UInt8→Int)(u:D→List UInt8→Option (List D))(n m:Nat)(h b:List D)(nm:List UInt8)(kids:List T)(nms:List (List UInt8))(pl i:Int):LP cx (K60 sp p q u) n 60 0 6 (m+1) [(0,V.d (D.sl 1 h)),(2,V.d (D.sl 1 b)),(4,V.ptr 4 0),(7,V.d (D.int .i64 i))] [(4,Ob.val 5 (V.d (D.agg [D.int .i64 2,D.str nm,D.sl 5 (T.ds kids),D.sl 1 (List.map D.str nms),D.int .i64 pl])))] (AK cx (K60 sp p q u) n 60 0 6 (EK cx 60 0))=bif decide (i<(↑(T.ds kids).length:Int)) then zb (decide (([]:List D).length+b.length≤4294967296)) (zb (decide (([]:List D).length+b.length=b.length)&&decide (b.length+(List.map D.str nms).length≤4294967296)) (zb (decide (0≤i)&&decide (i<(↑(T.ds kids).length:Int))) (za (T.ds kids) i.toNat fun y=>za y.cells 0 fun c=>za y.cells 1 fun c_1=>za y.cells 2 fun c_2=>za y.cells 3 fun c_3=>za y.cells 4 fun c_4=>zc (sp (D.sl 1 h,D.agg [c,c_1,c_2,c_3,c_4],D.sl 1 (b++List.map D.str nms)).fst (D.sl 1 h,D.agg [c,c_1,c_2,c_3,c_4],D.sl 1 (b++List.map D.str nms)).snd.fst (D.sl 1 h,D.agg [c,c_1,c_2,c_3,c_4],D.sl 1 (b++List.map D.str nms)).snd.snd) fun b_1=>LP cx (K60 sp p q u) n 60 0 6 m [(0,V.d (D.sl 1 b_1)),(2,V.d (D.sl 1 b)),(4,V.ptr 4 0),(7,V.d (D.int .i64 (IntKind.i64.wrap (i+(1:Int)))))] [(4,Ob.val 5 (V.d (D.agg [D.int .i64 (2:Int),D.str nm,D.sl 5 (T.ds kids),D.sl 1 (List.map D.str nms),D.int .i64 pl])))] (AK cx (K60 sp p q u) n 60 0 6 (EK cx 60 0))))) else some (Out.ret (V.d (D.sl 1 h)),[]):=by kernel_rfl
theorem z3s(sp:D→D→D→Option (List D))(p:D→List UInt8→Option Bool)(q:List UInt8→Int)(u:D→List UInt8→Option (List D))(n m:Nat)(h b:List D)(nm:List UInt8)(kids:List T)(nms:List (List UInt8))(pl i:Int):LP cx (K60 sp p q u) n 60 0 6 (m+1) [(0,V.d (D.sl 1 h)),(2,V.d (D.sl 1 b)),(4,V.ptr 4 0),(7,V.d (D.int .i64 i))] [(4,Ob.val 5 (V.d (D.agg [D.int .i64 3,D.str nm,D.sl 5 (T.ds kids),D.sl 1 (List.map D.str nms),D.int .i64 pl])))] (AK cx (K60 sp p q u) n 60 0 6 (EK cx 60 0))=bif decide (i<(↑(T.ds kids).length:Int)) then bif decide (i=(1:Int)) then zb (decide (0≤i)&&decide (i<(↑(T.ds kids).length:Int))) (za (T.ds kids) i.toNat fun y=>za y.cells 0 fun c=>za y.cells 1 fun c_1=>za y.cells 2 fun c_2=>za y.cells 3 fun c_3=>za y.cells 4 fun c_4=>zc (sp (D.sl 1 h,D.agg [c,c_1,c_2,c_3,c_4],D.sl 1 b).fst (D.sl 1 h,D.agg [c,c_1,c_2,c_3,c_4],D.sl 1 b).snd.fst (D.sl 1 h,D.agg [c,c_1,c_2,c_3,c_4],D.sl 1 b).snd.snd) fun b_1=>LP cx (K60 sp p q u) n 60 0 6 m [(0,V.d (D.sl 1 b_1)),(2,V.d (D.sl 1 b)),(4,V.ptr 4 0),(7,V.d (D.int .i64 (IntKind.i64.wrap (i+(1:Int)))))] [(4,Ob.val 5 (V.d (D.agg [D.int .i64 (3:Int),D.str nm,D.sl 5 (T.ds kids),D.sl 1 (List.map D.str nms),D.int .i64 pl])))] (AK cx (K60 sp p q u) n 60 0 6 (EK cx 60 0))) else zb (decide (0≤i)&&decide (i<(↑(T.ds kids).length:Int))) (za (T.ds kids) i.toNat fun y=>za y.cells 0 fun c=>za y.cells 1 fun c_1=>za y.cells 2 fun c_2=>za y.cells 3 fun c_3=>za y.cells 4 fun c_4=>zc (sp (D.sl 1 h,D.agg [c,c_1,c_2,c_3,c_4],D.sl 1 b).fst (D.sl 1 h,D.agg [c,c_1,c_2,c_3,c_4],D.sl 1 b).snd.fst (D.sl 1 h,D.agg [c,c_1,c_2,c_3,c_4],D.sl 1 b).snd.snd) fun b_1=>LP cx (K60 sp p q u) n 60 0 6 m [(0,V.d (D.sl 1 b_1)),(2,V.d (D.sl 1 b)),(4,V.ptr 4 0),(7,V.d (D.int .i64 (IntKind.i64.wrap (i+(1:Int)))))] [(4,Ob.val 5 (V.d (D.agg [D.int .i64 (3:Int),D.str nm,D.sl 5 (T.ds kids),D.sl 1 (List.map D.str nms),D.int .i64 pl])))] (AK cx (K60 sp p q u) n 60 0 6 (EK cx 60 0))) else some (Out.ret (V.d (D.sl 1 h)),[]):=by kernel_rfl
theorem z3r(sp:D→D→D→Option (List D))(p:D→List UInt8→Option Bool)(q:List UInt8→Int)(u:D→List UInt8→Option (List D))(n m:Nat)(h b:List D)(nm:List UInt8)(kids:List T)(nms:List (List UInt8))(pl i:Int):LP cx (K60 sp p q u) n 60 0 6 (m+1) [(0,V.d (D.sl 1 h)),(2,V.d (D.sl 1 b)),(4,V.ptr 4 0),(7,V.d (D.int .i64 i))] [(4,Ob.val 5 (V.d (D.agg [D.int .i64 4,D.str nm,D.sl 5 (T.ds kids),D.sl 1 (List.map D.str nms),D.int .i64 pl])))] (AK cx (K60 sp p q u) n 60 0 6 (EK cx 60 0))=bif decide (i<(↑(T.ds kids).length:Int)) then bif decide (i=(1:Int)) then zb (decide (([]:List D).length+b.length≤4294967296)) (zb (decide (([]:List D).length+b.length=b.length)&&decide (b.length+(List.map D.str nms).length≤4294967296)) (zb (decide (0≤i)&&decide (i<(↑(T.ds kids).length:Int))) (za (T.ds kids) i.toNat fun y=>za y.cells 0 fun c=>za y.cells 1 fun c_1=>za y.cells 2 fun c_2=>za y.cells 3 fun c_3=>za y.cells 4 fun c_4=>zc (sp (D.sl 1 h,D.agg [c,c_1,c_2,c_3,c_4],D.sl 1 (b++List.map D.str nms)).fst (D.sl 1 h,D.agg [c,c_1,c_2,c_3,c_4],D.sl 1 (b++List.map D.str nms)).snd.fst (D.sl 1 h,D.agg [c,c_1,c_2,c_3,c_4],D.sl 1 (b++List.map D.str nms)).snd.snd) fun b_1=>LP cx (K60 sp p q u) n 60 0 6 m [(0,V.d (D.sl 1 b_1)),(2,V.d (D.sl 1 b)),(4,V.ptr 4 0),(7,V.d (D.int .i64 (IntKind.i64.wrap (i+(1:Int)))))] [(4,Ob.val 5 (V.d (D.agg [D.int .i64 (4:Int),D.str nm,D.sl 5 (T.ds kids),D.sl 1 (List.map D.str nms),D.int .i64 pl])))] (AK cx (K60 sp p q u) n 60 0 6 (EK cx 60 0))))) else zb (decide (0≤i)&&decide (i<(↑(T.ds kids).length:Int))) (za (T.ds kids) i.toNat fun y=>za y.cells 0 fun c=>za y.cells 1 fun c_1=>za y.cells 2 fun c_2=>za y.cells 3 fun c_3=>za y.cells 4 fun c_4=>zc (sp (D.sl 1 h,D.agg [c,c_1,c_2,c_3,c_4],D.sl 1 b).fst (D.sl 1 h,D.agg [c,c_1,c_2,c_3,c_4],D.sl 1 b).snd.fst (D.sl 1 h,D.agg [c,c_1,c_2,c_3,c_4],D.sl 1 b).snd.snd) fun b_1=>LP cx (K60 sp p q u) n 60 0 6 m [(0,V.d (D.sl 1 b_1)),(2,V.d (D.sl 1 b)),(4,V.ptr 4 0),(7,V.d (D.int .i64 (IntKind.i64.wrap (i+(1:Int)))))] [(4,Ob.val 5 (V.d (D.agg [D.int .i64 (4:Int),D.str nm,D.sl 5 (T.ds kids),D.sl 1 (List.map D.str nms),D.int .i64 pl])))] (AK cx (K60 sp p q u) n 60 0 6 (EK cx 60 0))) else some (Out.ret (V.d (D.sl 1 h)),[]):=by kernel_rfl
theorem z3q(sp:D→D→D→Option (List D))(p:D→List UInt8→Option Bool)(q:List UInt8→Int)(u:D→List UInt8→Option (List D))(n m:Nat)(h b:List D)(nm:List UInt8)(kids:List T)(nms:List (List UInt8))(pl i:Int):LP cx (K60 sp p q u) n 60 0 6 (m+1) [(0,V.d (D.sl 1 h)),(2,V.d (D.sl 1 b)),(4,V.ptr 4 0),(7,V.d (D.int .i64 i))] [(4,Ob.val 5 (V.d (D.agg [D.int .i64 5,D.str nm,D.sl 5 (T.ds kids),D.sl 1 (List.map D.str nms),D.int .i64 pl])))] (AK cx (K60 sp p q u) n 60 0 6 (EK cx 60 0))=bif decide (i<(↑(T.ds kids).length:Int)) then bif decide (i=(1:Int)) then zb (decide (([]:List D).length+b.length≤4294967296)) (zb (decide (([]:List D).length+b.length=b.length)&&decide (b.length+(List.map D.str nms).length≤4294967296)) (zb (decide (0≤i)&&decide (i<(↑(T.ds kids).length:Int))) (za (T.ds kids) i.toNat fun y=>za y.cells 0 fun c=>za y.cells 1 fun c_1=>za y.cells 2 fun c_2=>za y.cells 3 fun c_3=>za y.cells 4 fun c_4=>zc (sp (D.sl 1 h,D.agg [c,c_1,c_2,c_3,c_4],D.sl 1 (b++List.map D.str nms)).fst (D.sl 1 h,D.agg [c,c_1,c_2,c_3,c_4],D.sl 1 (b++List.map D.str nms)).snd.fst (D.sl 1 h,D.agg [c,c_1,c_2,c_3,c_4],D.sl 1 (b++List.map D.str nms)).snd.snd) fun b_1=>LP cx (K60 sp p q u) n 60 0 6 m [(0,V.d (D.sl 1 b_1)),(2,V.d (D.sl 1 b)),(4,V.ptr 4 0),(7,V.d (D.int .i64 (IntKind.i64.wrap (i+(1:Int)))))] [(4,Ob.val 5 (V.d (D.agg [D.int .i64 (5:Int),D.str nm,D.sl 5 (T.ds kids),D.sl 1 (List.map D.str nms),D.int .i64 pl])))] (AK cx (K60 sp p q u) n 60 0 6 (EK cx 60 0))))) else zb (decide (0≤i)&&decide (i<(↑(T.ds kids).length:Int))) (za (T.ds kids) i.toNat fun y=>za y.cells 0 fun c=>za y.cells 1 fun c_1=>za y.cells 2 fun c_2=>za y.cells 3 fun c_3=>za y.cells 4 fun c_4=>zc (sp (D.sl 1 h,D.agg [c,c_1,c_2,c_3,c_4],D.sl 1 b).fst (D.sl 1 h,D.agg [c,c_1,c_2,c_3,c_4],D.sl 1 b).snd.fst (D.sl 1 h,D.agg [c,c_1,c_2,c_3,c_4],D.sl 1 b).snd.snd) fun b_1=>LP cx (K60 sp p q u) n 60 0 6 m [(0,V.d (D.sl 1 b_1)),(2,V.d (D.sl 1 b)),(4,V.ptr 4 0),(7,V.d (D.int .i64 (IntKind.i64.wrap (i+(1:Int)))))] [(4,Ob.val 5 (V.d (D.agg [D.int .i64 (5:Int),D.str nm,D.sl 5 (T.ds kids),D.sl 1 (List.map D.str nms),D.int .i64 pl])))] (AK cx (K60 sp p q u) n 60 0 6 (EK cx 60 0))) else some (Out.ret (V.d (D.sl 1 h)),[]):=by kernel_rfl
theorem z3p(sp:D→D→D→Option (List D))(p:D→List UInt8→Option Bool)(q:List UInt8→Int)(u:D→List UInt8→Option (List D))(n m:Nat)(h b:List D)(nm:List UInt8)(kids:List T)(nms:List (List UInt8))(pl i:Int):LP cx (K60 sp p q u) n 60 0 6 (m+1) [(0,V.d (D.sl 1 h)),(2,V.d (D.sl 1 b)),(4,V.ptr 4 0),(7,V.d (D.int .i64 i))] [(4,Ob.val 5 (V.d (D.agg [D.int .i64 6,D.str nm,D.sl 5 (T.ds kids),D.sl 1 (List.map D.str nms),D.int .i64 pl])))] (AK cx (K60 sp p q u) n 60 0 6 (EK cx 60 0))=bif decide (i<(↑(T.ds kids).length:Int)) then bif decide (i=(1:Int)) then zb (decide (0≤i)&&decide (i<(↑(T.ds kids).length:Int))) (za (T.ds kids) i.toNat fun y=>za y.cells 0 fun c=>za y.cells 1 fun c_1=>za y.cells 2 fun c_2=>za y.cells 3 fun c_3=>za y.cells 4 fun c_4=>zc (sp (D.sl 1 h,D.agg [c,c_1,c_2,c_3,c_4],D.sl 1 b).fst (D.sl 1 h,D.agg [c,c_1,c_2,c_3,c_4],D.sl 1 b).snd.fst (D.sl 1 h,D.agg [c,c_1,c_2,c_3,c_4],D.sl 1 b).snd.snd) fun b_1=>LP cx (K60 sp p q u) n 60 0 6 m [(0,V.d (D.sl 1 b_1)),(2,V.d (D.sl 1 b)),(4,V.ptr 4 0),(7,V.d (D.int .i64 (IntKind.i64.wrap (i+(1:Int)))))] [(4,Ob.val 5 (V.d (D.agg [D.int .i64 (6:Int),D.str nm,D.sl 5 (T.ds kids),D.sl 1 (List.map D.str nms),D.int .i64 pl])))] (AK cx (K60 sp p q u) n 60 0 6 (EK cx 60 0))) else zb (decide (0≤i)&&decide (i<(↑(T.ds kids).length:Int))) (za (T.ds kids) i.toNat fun y=>za y.cells 0 fun c=>za y.cells 1 fun c_1=>za y.cells 2 fun c_2=>za y.cells 3 fun c_3=>za y.cells 4 fun c_4=>zc (sp (D.sl 1 h,D.agg [c,c_1,c_2,c_3,c_4],D.sl 1 b).fst (D.sl 1 h,D.agg [c,c_1,c_2,c_3,c_4],D.sl 1 b).snd.fst (D.sl 1 h,D.agg [c,c_1,c_2,c_3,c_4],D.sl 1 b).snd.snd) fun b_1=>LP cx (K60 sp p q u) n 60 0 6 m [(0,V.d (D.sl 1 b_1)),(2,V.d (D.sl 1 b)),(4,V.ptr 4 0),(7,V.d (D.int .i64 (IntKind.i64.wrap (i+(1:Int)))))] [(4,Ob.val 5 (V.d (D.agg [D.int .i64 (6:Int),D.str nm,D.sl 5 (T.ds kids),D.sl 1 (List.map D.str nms),D.int .i64 pl])))] (AK cx (K60 sp p q u) n 60 0 6 (EK cx 60 0))) else some (Out.ret (V.d (D.sl 1 h)),[]):=by kernel_rfl
theorem z3o(sp:D→D→D→Option (List D))(p:D→List UInt8→Option Bool)(q:List UInt8→Int)(u:D→List UInt8→Option (List D))(n m:Nat)(h b:List D)(nm:List UInt8)(kids:List T)(nms:List (List UInt8))(pl i:Int):LP cx (K60 sp p q u) n 60 0 6 (m+1) [(0,V.d (D.sl 1 h)),(2,V.d (D.sl 1 b)),(4,V.ptr 4 0),(7,V.d (D.int .i64 i))] [(4,Ob.val 5 (V.d (D.agg [D.int .i64 7,D.str nm,D.sl 5 (T.ds kids),D.sl 1 (List.map D.str nms),D.int .i64 pl])))] (AK cx (K60 sp p q u) n 60 0 6 (EK cx 60 0))=bif decide (i<(↑(T.ds kids).length:Int)) then bif decide (i=(1:Int)) then bif decide (i=(1:Int)) then LP cx (K60 sp p q u) n 60 0 6 m [(0,V.d (D.sl 1 h)),(2,V.d (D.sl 1 b)),(4,V.ptr 4 0),(7,V.d (D.int .i64 (IntKind.i64.wrap (i+(1:Int)))))] [(4,Ob.val 5 (V.d (D.agg [D.int .i64 (7:Int),D.str nm,D.sl 5 (T.ds kids),D.sl 1 (List.map D.str nms),D.int .i64 pl])))] (AK cx (K60 sp p q u) n 60 0 6 (EK cx 60 0)) else zb (decide (0≤i)&&decide (i<(↑(T.ds kids).length:Int))) (za (T.ds kids) i.toNat fun y=>za y.cells 0 fun c=>za y.cells 1 fun c_1=>za y.cells 2 fun c_2=>za y.cells 3 fun c_3=>za y.cells 4 fun c_4=>zc (sp (D.sl 1 h,D.agg [c,c_1,c_2,c_3,c_4],D.sl 1 b).fst (D.sl 1 h,D.agg [c,c_1,c_2,c_3,c_4],D.sl 1 b).snd.fst (D.sl 1 h,D.agg [c,c_1,c_2,c_3,c_4],D.sl 1 b).snd.snd) fun b_1=>LP cx (K60 sp p q u) n 60 0 6 m [(0,V.d (D.sl 1 b_1)),(2,V.d (D.sl 1 b)),(4,V.ptr 4 0),(7,V.d (D.int .i64 (IntKind.i64.wrap (i+(1:Int)))))] [(4,Ob.val 5 (V.d (D.agg [D.int .i64 (7:Int),D.str nm,D.sl 5 (T.ds kids),D.sl 1 (List.map D.str nms),D.int .i64 pl])))] (AK cx (K60 sp p q u) n 60 0 6 (EK cx 60 0))) else bif decide (i=(1:Int)) then LP cx (K60 sp p q u) n 60 0 6 m [(0,V.d (D.sl 1 h)),(2,V.d (D.sl 1 b)),(4,V.ptr 4 0),(7,V.d (D.int .i64 (IntKind.i64.wrap (i+(1:Int)))))] [(4,Ob.val 5 (V.d (D.agg [D.int .i64 (7:Int),D.str nm,D.sl 5 (T.ds kids),D.sl 1 (List.map D.str nms),D.int .i64 pl])))] (AK cx (K60 sp p q u) n 60 0 6 (EK cx 60 0)) else zb (decide (0≤i)&&decide (i<(↑(T.ds kids).length:Int))) (za (T.ds kids) i.toNat fun y=>za y.cells 0 fun c=>za y.cells 1 fun c_1=>za y.cells 2 fun c_2=>za y.cells 3 fun c_3=>za y.cells 4 fun c_4=>zc (sp (D.sl 1 h,D.agg [c,c_1,c_2,c_3,c_4],D.sl 1 b).fst (D.sl 1 h,D.agg [c,c_1,c_2,c_3,c_4],D.sl 1 b).snd.fst (D.sl 1 h,D.agg [c,c_1,c_2,c_3,c_4],D.sl 1 b).snd.snd) fun b_1=>LP cx (K60 sp p q u) n 60 0 6 m [(0,V.d (D.sl 1 b_1)),(2,V.d (D.sl 1 b)),(4,V.ptr 4 0),(7,V.d (D.int .i64 (IntKind.i64.wrap (i+(1:Int)))))] [(4,Ob.val 5 (V.d (D.agg [D.int .i64 (7:Int),D.str nm,D.sl 5 (T.ds kids),D.sl 1 (List.map D.str nms),D.int .i64 pl])))] (AK cx (K60 sp p q u) n 60 0 6 (EK cx 60 0))) else some (Out.ret (V.d (D.sl 1 h)),[]):=by kernel_rfl
theorem z3n(sp:D→D→D→Option (List D))(p:D→List UInt8→Option Bool)(q:List UInt8→Int)(u:D→List UInt8→Option (List D))(n m:Nat)(h b:List D)(nm:List UInt8)(kids:List T)(nms:List (List UInt8))(pl i:Int):LP cx (K60 sp p q u) n 60 0 6 (m+1) [(0,V.d (D.sl 1 h)),(2,V.d (D.sl 1 b)),(4,V.ptr 4 0),(7,V.d (D.int .i64 i))] [(4,Ob.val 5 (V.d (D.agg [D.int .i64 8,D.str nm,D.sl 5 (T.ds kids),D.sl 1 (List.map D.str nms),D.int .i64 pl])))] (AK cx (K60 sp p q u) n 60 0 6 (EK cx 60 0))=bif decide (i<(↑(T.ds kids).length:Int)) then bif decide (i=(1:Int)) then zb (decide (0≤i)&&decide (i<(↑(T.ds kids).length:Int))) (za (T.ds kids) i.toNat fun y=>za y.cells 0 fun c=>za y.cells 1 fun c_1=>za y.cells 2 fun c_2=>za y.cells 3 fun c_3=>za y.cells 4 fun c_4=>zc (sp (D.sl 1 h,D.agg [c,c_1,c_2,c_3,c_4],D.sl 1 b).fst (D.sl 1 h,D.agg [c,c_1,c_2,c_3,c_4],D.sl 1 b).snd.fst (D.sl 1 h,D.agg [c,c_1,c_2,c_3,c_4],D.sl 1 b).snd.snd) fun b_1=>LP cx (K60 sp p q u) n 60 0 6 m [(0,V.d (D.sl 1 b_1)),(2,V.d (D.sl 1 b)),(4,V.ptr 4 0),(7,V.d (D.int .i64 (IntKind.i64.wrap (i+(1:Int)))))] [(4,Ob.val 5 (V.d (D.agg [D.int .i64 (8:Int),D.str nm,D.sl 5 (T.ds kids),D.sl 1 (List.map D.str nms),D.int .i64 pl])))] (AK cx (K60 sp p q u) n 60 0 6 (EK cx 60 0))) else zb (decide (0≤i)&&decide (i<(↑(T.ds kids).length:Int))) (za (T.ds kids) i.toNat fun y=>za y.cells 0 fun c=>za y.cells 1 fun c_1=>za y.cells 2 fun c_2=>za y.cells 3 fun c_3=>za y.cells 4 fun c_4=>zc (sp (D.sl 1 h,D.agg [c,c_1,c_2,c_3,c_4],D.sl 1 b).fst (D.sl 1 h,D.agg [c,c_1,c_2,c_3,c_4],D.sl 1 b).snd.fst (D.sl 1 h,D.agg [c,c_1,c_2,c_3,c_4],D.sl 1 b).snd.snd) fun b_1=>LP cx (K60 sp p q u) n 60 0 6 m [(0,V.d (D.sl 1 b_1)),(2,V.d (D.sl 1 b)),(4,V.ptr 4 0),(7,V.d (D.int .i64 (IntKind.i64.wrap (i+(1:Int)))))] [(4,Ob.val 5 (V.d (D.agg [D.int .i64 (8:Int),D.str nm,D.sl 5 (T.ds kids),D.sl 1 (List.map D.str nms),D.int .i64 pl])))] (AK cx (K60 sp p q u) n 60 0 6 (EK cx 60 0))) else some (Out.ret (V.d (D.sl 1 h)),[]):=by kernel_rfl
theorem z3m(sp:D→D→D→Option (List D))(p:D→List UInt8→Option Bool)(q:List UInt8→Int)(u:D→List UInt8→Option (List D))(n m:Nat)(h b:List D)(nm:List UInt8)(kids:List T)(nms:List (List UInt8))(pl i:Int):LP cx (K60 sp p q u) n 60 0 6 (m+1) [(0,V.d (D.sl 1 h)),(2,V.d (D.sl 1 b)),(4,V.ptr 4 0),(7,V.d (D.int .i64 i))] [(4,Ob.val 5 (V.d (D.agg [D.int .i64 9,D.str nm,D.sl 5 (T.ds kids),D.sl 1 (List.map D.str nms),D.int .i64 pl])))] (AK cx (K60 sp p q u) n 60 0 6 (EK cx 60 0))=bif decide (i<(↑(T.ds kids).length:Int)) then bif decide (i=(1:Int)) then zb (decide (0≤i)&&decide (i<(↑(T.ds kids).length:Int))) (za (T.ds kids) i.toNat fun y=>za y.cells 0 fun c=>za y.cells 1 fun c_1=>za y.cells 2 fun c_2=>za y.cells 3 fun c_3=>za y.cells 4 fun c_4=>zc (sp (D.sl 1 h,D.agg [c,c_1,c_2,c_3,c_4],D.sl 1 b).fst (D.sl 1 h,D.agg [c,c_1,c_2,c_3,c_4],D.sl 1 b).snd.fst (D.sl 1 h,D.agg [c,c_1,c_2,c_3,c_4],D.sl 1 b).snd.snd) fun b_1=>LP cx (K60 sp p q u) n 60 0 6 m [(0,V.d (D.sl 1 b_1)),(2,V.d (D.sl 1 b)),(4,V.ptr 4 0),(7,V.d (D.int .i64 (IntKind.i64.wrap (i+(1:Int)))))] [(4,Ob.val 5 (V.d (D.agg [D.int .i64 (9:Int),D.str nm,D.sl 5 (T.ds kids),D.sl 1 (List.map D.str nms),D.int .i64 pl])))] (AK cx (K60 sp p q u) n 60 0 6 (EK cx 60 0))) else zb (decide (0≤i)&&decide (i<(↑(T.ds kids).length:Int))) (za (T.ds kids) i.toNat fun y=>za y.cells 0 fun c=>za y.cells 1 fun c_1=>za y.cells 2 fun c_2=>za y.cells 3 fun c_3=>za y.cells 4 fun c_4=>zc (sp (D.sl 1 h,D.agg [c,c_1,c_2,c_3,c_4],D.sl 1 b).fst (D.sl 1 h,D.agg [c,c_1,c_2,c_3,c_4],D.sl 1 b).snd.fst (D.sl 1 h,D.agg [c,c_1,c_2,c_3,c_4],D.sl 1 b).snd.snd) fun b_1=>LP cx (K60 sp p q u) n 60 0 6 m [(0,V.d (D.sl 1 b_1)),(2,V.d (D.sl 1 b)),(4,V.ptr 4 0),(7,V.d (D.int .i64 (IntKind.i64.wrap (i+(1:Int)))))] [(4,Ob.val 5 (V.d (D.agg [D.int .i64 (9:Int),D.str nm,D.sl 5 (T.ds kids),D.sl 1 (List.map D.str nms),D.int .i64 pl])))] (AK cx (K60 sp p q u) n 60 0 6 (EK cx 60 0))) else some (Out.ret (V.d (D.sl 1 h)),[]):=by kernel_rfl
theorem zyo(sp:D→D→D→Option (List D))(p:D→List UInt8→Option Bool)(q:List UInt8→Int)(u:D→List UInt8→Option (List D))(n m:Nat)(h b:List D)(nm:List UInt8)(kids:List T)(nms:List (List UInt8))(pl i:Int):LP cx (K60 sp p q u) n 60 0 6 (m+1) [(0,V.d (D.sl 1 h)),(2,V.d (D.sl 1 b)),(4,V.ptr 4 0),(7,V.d (D.int .i64 i))] [(4,Ob.val 5 (V.d (D.agg [D.int .i64 10,D.str nm,D.sl 5 (T.ds kids),D.sl 1 (List.map D.str nms),D.int .i64 pl])))] (AK cx (K60 sp p q u) n 60 0 6 (EK cx 60 0))=bif decide (i<(↑(T.ds kids).length:Int)) then bif decide (i=(1:Int)) then zb (decide (0≤i)&&decide (i<(↑(T.ds kids).length:Int))) (za (T.ds kids) i.toNat fun y=>za y.cells 0 fun c=>za y.cells 1 fun c_1=>za y.cells 2 fun c_2=>za y.cells 3 fun c_3=>za y.cells 4 fun c_4=>zc (sp (D.sl 1 h,D.agg [c,c_1,c_2,c_3,c_4],D.sl 1 b).fst (D.sl 1 h,D.agg [c,c_1,c_2,c_3,c_4],D.sl 1 b).snd.fst (D.sl 1 h,D.agg [c,c_1,c_2,c_3,c_4],D.sl 1 b).snd.snd) fun b_1=>LP cx (K60 sp p q u) n 60 0 6 m [(0,V.d (D.sl 1 b_1)),(2,V.d (D.sl 1 b)),(4,V.ptr 4 0),(7,V.d (D.int .i64 (IntKind.i64.wrap (i+(1:Int)))))] [(4,Ob.val 5 (V.d (D.agg [D.int .i64 (10:Int),D.str nm,D.sl 5 (T.ds kids),D.sl 1 (List.map D.str nms),D.int .i64 pl])))] (AK cx (K60 sp p q u) n 60 0 6 (EK cx 60 0))) else zb (decide (0≤i)&&decide (i<(↑(T.ds kids).length:Int))) (za (T.ds kids) i.toNat fun y=>za y.cells 0 fun c=>za y.cells 1 fun c_1=>za y.cells 2 fun c_2=>za y.cells 3 fun c_3=>za y.cells 4 fun c_4=>zc (sp (D.sl 1 h,D.agg [c,c_1,c_2,c_3,c_4],D.sl 1 b).fst (D.sl 1 h,D.agg [c,c_1,c_2,c_3,c_4],D.sl 1 b).snd.fst (D.sl 1 h,D.agg [c,c_1,c_2,c_3,c_4],D.sl 1 b).snd.snd) fun b_1=>LP cx (K60 sp p q u) n 60 0 6 m [(0,V.d (D.sl 1 b_1)),(2,V.d (D.sl 1 b)),(4,V.ptr 4 0),(7,V.d (D.int .i64 (IntKind.i64.wrap (i+(1:Int)))))] [(4,Ob.val 5 (V.d (D.agg [D.int .i64 (10:Int),D.str nm,D.sl 5 (T.ds kids),D.sl 1 (List.map D.str nms),D.int .i64 pl])))] (AK cx (K60 sp p q u) n 60 0 6 (EK cx 60 0))) else some (Out.ret (V.d (D.sl 1 h)),[]):=by kernel_rfl
theorem zyn(sp:D→D→D→Option (List D))(p:D→List UInt8→Option Bool)(q:List UInt8→Int)(u:D→List UInt8→Option (List D))(n m:Nat)(h b:List D)(nm:List UInt8)(kids:List T)(nms:List (List UInt8))(pl i:Int):LP cx (K60 sp p q u) n 60 0 6 (m+1) [(0,V.d (D.sl 1 h)),(2,V.d (D.sl 1 b)),(4,V.ptr 4 0),(7,V.d (D.int .i64 i))] [(4,Ob.val 5 (V.d (D.agg [D.int .i64 11,D.str nm,D.sl 5 (T.ds kids),D.sl 1 (List.map D.str nms),D.int .i64 pl])))] (AK cx (K60 sp p q u) n 60 0 6 (EK cx 60 0))=bif decide (i<(↑(T.ds kids).length:Int)) then bif decide (i=(1:Int)) then bif !decide (i=(0:Int)) then zb (decide (0≤i)&&decide (i<(↑(T.ds kids).length:Int))) (za (T.ds kids) i.toNat fun y=>za y.cells 0 fun c=>za y.cells 1 fun c_1=>za y.cells 2 fun c_2=>za y.cells 3 fun c_3=>za y.cells 4 fun c_4=>zc (sp (D.sl 1 h,D.agg [c,c_1,c_2,c_3,c_4],D.sl 1 b).fst (D.sl 1 h,D.agg [c,c_1,c_2,c_3,c_4],D.sl 1 b).snd.fst (D.sl 1 h,D.agg [c,c_1,c_2,c_3,c_4],D.sl 1 b).snd.snd) fun b_1=>LP cx (K60 sp p q u) n 60 0 6 m [(0,V.d (D.sl 1 b_1)),(2,V.d (D.sl 1 b)),(4,V.ptr 4 0),(7,V.d (D.int .i64 (IntKind.i64.wrap (i+(1:Int)))))] [(4,Ob.val 5 (V.d (D.agg [D.int .i64 (11:Int),D.str nm,D.sl 5 (T.ds kids),D.sl 1 (List.map D.str nms),D.int .i64 pl])))] (AK cx (K60 sp p q u) n 60 0 6 (EK cx 60 0))) else LP cx (K60 sp p q u) n 60 0 6 m [(0,V.d (D.sl 1 h)),(2,V.d (D.sl 1 b)),(4,V.ptr 4 0),(7,V.d (D.int .i64 (IntKind.i64.wrap (i+(1:Int)))))] [(4,Ob.val 5 (V.d (D.agg [D.int .i64 (11:Int),D.str nm,D.sl 5 (T.ds kids),D.sl 1 (List.map D.str nms),D.int .i64 pl])))] (AK cx (K60 sp p q u) n 60 0 6 (EK cx 60 0)) else bif !decide (i=(0:Int)) then zb (decide (0≤i)&&decide (i<(↑(T.ds kids).length:Int))) (za (T.ds kids) i.toNat fun y=>za y.cells 0 fun c=>za y.cells 1 fun c_1=>za y.cells 2 fun c_2=>za y.cells 3 fun c_3=>za y.cells 4 fun c_4=>zc (sp (D.sl 1 h,D.agg [c,c_1,c_2,c_3,c_4],D.sl 1 b).fst (D.sl 1 h,D.agg [c,c_1,c_2,c_3,c_4],D.sl 1 b).snd.fst (D.sl 1 h,D.agg [c,c_1,c_2,c_3,c_4],D.sl 1 b).snd.snd) fun b_1=>LP cx (K60 sp p q u) n 60 0 6 m [(0,V.d (D.sl 1 b_1)),(2,V.d (D.sl 1 b)),(4,V.ptr 4 0),(7,V.d (D.int .i64 (IntKind.i64.wrap (i+(1:Int)))))] [(4,Ob.val 5 (V.d (D.agg [D.int .i64 (11:Int),D.str nm,D.sl 5 (T.ds kids),D.sl 1 (List.map D.str nms),D.int .i64 pl])))] (AK cx (K60 sp p q u) n 60 0 6 (EK cx 60 0))) else LP cx (K60 sp p q u) n 60 0 6 m [(0,V.d (D.sl 1 h)),(2,V.d (D.sl 1 b)),(4,V.ptr 4 0),(7,V.d (D.int .i64 (IntKind.i64.wrap (i+(1:Int)))))] [(4,Ob.val 5 (V.d (D.agg [D.int .i64 (11:Int),D.str nm,D.sl 5 (T.ds kids),D.sl 1 (List.map D.str nms),D.int .i64 pl])))] (AK cx (K60 sp p q u) n 60 0 6 (EK cx 60 0)) else some (Out.ret (V.d (D.sl 1 h)),[]):=by kernel_rfl
def p93(x:D)(s:List UInt8):Option Bool:=zc (zbb x) fun l=>some (Sp.mem s l)
def u98(x:D)(s:List UInt8):Option (List D):=zc (zbb x) fun l=>zb (decide (l.length+1<4294967296)) (some ((Sp.put l s).map .str))
def q60:List UInt8→Int:=ziq zkk zmw
theorem z1n(s:List UInt8):decide (0≤q60 s)=Sp.word s:=zm2 zkk zmw s rfl
theorem zky{f:List V}{q:D×List UInt8}{b:Bool}(h:zfm f=some q)(hb:p93 q.1 q.2=some b):zh cx 93 f []=some (.ret (mkB b),[]):=by
 obtain rfl:=zgg h
 obtain ⟨l,hl,hb⟩:=zd hb
 cases hb
 obtain ⟨h1,h2⟩:=zau hl
 rw [h1]
 exact m93 l q.2 h2
theorem yc3(l:List (List UInt8))(s:List UInt8)(hl:l.length+1<4294967296):zh cx 98 [.d (.sl 1 (l.map .str)),.d (.str s)] []=some (.ret (.d (.sl 1 ((Sp.put l s).map .str))),[]):=by
 have hk:knows cx (zt 93 zfm (fun q=>p93 q.1 q.2) mkB (CK.plain zm)).S (zh cx):=zj zo fun a q b hd h hb=>zky h hb
 refine zl hk (N:=0) ?_
 rw [yb0]
 show zc (p93 (.sl 1 (l.map .str)) s) _=_
 unfold p93
 rw [zcn (decide_eq_true (by omega))]
 unfold Sp.put
 show (bif Sp.mem s l then _ else _)=_
 cases Sp.mem s l
 ·simp only [cond_false,List.nil_append,List.length_nil,Nat.zero_add,List.length_map,List.length_cons]
  rw [decide_eq_true (p:=l.length≤4294967296) (by omega),decide_eq_true (p:=l.length+1≤4294967296) (by omega)]
  simp only [zb,cond_true,decide_true,Bool.and_self,Bool.true_and,List.map_append,List.map_cons,List.map_nil]
 ·rfl
def zaq(m:Nat)(h x y:D):Option (List D):=zc (zbb h) fun l=>zc (zg m x) fun t=>zc (zbb y) fun b=>zb (okG t b l) (some ((y5 t b l).map .str))
theorem zwy{a:List V}{q}(h:zri a=some q):a=[.d q.1,.d q.2.1,.d q.2.2]:=by
 unfold zri at h; split at h <;> cases h; rfl
def zsl(m:Nat):Prop:=∀ (t:T) (b l:List (List UInt8)),t.depth≤m→t.ok=true→okG t b l=true→zh cx 60 [.d (.sl 1 (l.map .str)),.d t.d,.d (.sl 1 (b.map .str))] []=some (.ret (.d (.sl 1 ((y5 t b l).map .str))),[])
theorem zkq{m:Nat}(hm:zsl m){S:CK R1}(hS:knows cx S.S (zh cx)):knows cx (zt 60 zri (fun x=>zaq m x.1 x.2.1 x.2.2) (fun x=>.d (.sl 1 x)) S).S (zh cx):=zj hS fun a q b hd h hb=>by
 obtain rfl:=zwy h
 obtain ⟨l,hl,hb⟩:=zd hb
 obtain ⟨t,ht,hb⟩:=zd hb
 obtain ⟨y,hy,hb⟩:=zd hb
 obtain ⟨ho,hb⟩:=ze hb
 cases hb
 obtain ⟨h1,h2,h3⟩:=yx ht
 rw [h1,(zau hl).1,(zau hy).1]
 exact hm t y l h2 h3 ho
theorem z0r{m:Nat}(hm:zsl m):knows cx (K60 (zaq m) p93 q60 u98).S (zh cx):=
 zkq hm (zj (zj (zj zo fun a q b hd h hb=>by
   obtain rfl:=zgg h
   obtain ⟨x,hx,hb⟩:=zd hb
   obtain ⟨h1,hb⟩:=ze hb
   cases hb
   rw [(zau hx).1]
   exact yc3 x q.2 (of_decide_eq_true h1)) fun a q b hd h hb=>by
   cases hb
   obtain rfl:=vf h
   exact m13 q) fun a q b hd h hb=>zky h hb)
theorem zmq{m:Nat}{t:T}{b l:List (List UInt8)}(hd:t.depth≤m)(ho:t.ok=true)(h:okG t b l=true):zaq m (.sl 1 (l.map .str)) t.d (.sl 1 (b.map .str))=some ((y5 t b l).map .str):=by
 obtain ⟨_,hb,hl⟩:=za2.1 h
 unfold zaq
 rw [zde hd ho,zcn (decide_eq_true (by omega)),zcn (decide_eq_true (by omega))]
 show zb (okG t b l) _=_
 rw [h]
 rfl
theorem z9j{R α S:Type}(L:Nat→Int→S→Option R)(xs:List α)(step:Nat→S→α→S)(G:List α→Nat→S→S)(hG0:∀ i s,G [] i s=s)(hG:∀ x r i s,G (x::r) i s=G r (i+1) (step i s x))
  (I:Nat→S→Prop) (E:S→Option R) (hs:xs.length<4294967296)
  (H:∀ (k j:Nat) x s,j<xs.length→xs[j]?=some x→I j s→L (k+1) j s=L k (IntKind.i64.wrap ((j:Int)+1)) (step j s x)∧I (j+1) (step j s x)) (HE:∀ k s,L (k+1) xs.length s=E s) {s:S} (h0:I 0 s) {k:Nat} (hk:xs.length<k) :
  L k 0 s=E (G xs 0 s):=by
 have key:∀ (d j:Nat) (k:Nat) (s:S),j+d=xs.length→d<k→I j s→L k j s=E (G (xs.drop j) j s):=by
  intro d
  induction d with
  | zero=>
   intro j k s hj hk hi
   obtain ⟨k,rfl⟩:∃ k',k=k'+1:=⟨k - 1,by omega⟩
   obtain rfl:j=xs.length:=by omega
   rw [HE,List.drop_length,hG0]
  | succ d ih=>
   intro j k s hj hk hi
   obtain ⟨k,rfl⟩:∃ k',k=k'+1:=⟨k - 1,by omega⟩
   have hlt:j<xs.length:=by omega
   obtain ⟨h1,h2⟩:=H k j xs[j] s hlt (List.getElem?_eq_getElem hlt) hi
   rw [h1,IntWalk.i64_in _ (by omega)]
   have e:((j:Int)+1)=((j+1:Nat):Int):=by omega
   rw [e,ih (j+1) k _ (by omega) (by omega) h2,List.drop_eq_getElem_cons hlt,hG]
 have:=key xs.length 0 k s (by omega) hk h0
 rw [List.drop_zero] at this
 exact this
theorem zbu{R:Type}{kids:List T}{j:Nat}{x:T}(hj:j<kids.length)(hx:kids[j]?=some x)(F:D→Option R):zb (decide (0≤(j:Int))&&decide ((j:Int)<(kids.length:Int))) (za (T.ds kids) (j:Int).toNat fun y=>za y.cells 0 fun c=>za y.cells 1 fun c1=>za y.cells 2 fun c2=>za y.cells 3 fun c3=>za y.cells 4 fun c4=>F (D.agg [c,c1,c2,c3,c4]))=F x.d:=by
 rw [ye hj,xd,z6,Int.toNat_natCast,hx]
 show za x.d.cells 0 _=_
 rw [yc]
 simp only [x5,w7,w0,wz,wy,wd]
noncomputable def LQ(m n:Nat)(kk:Int)(nm:List UInt8)(kids:List T)(nms:List (List UInt8))(pl:Int)(b:List (List UInt8))(k:Nat)(i:Int)(h:List D):Option R1:=
 LP cx (K60 (zaq m) p93 q60 u98) n 60 0 6 k [(0,V.d (D.sl 1 h)),(2,V.d (D.sl 1 (b.map .str))),(4,V.ptr 4 0),(7,V.d (D.int .i64 i))] [(4,Ob.val 5 (V.d (D.agg [D.int .i64 kk,D.str nm,D.sl 5 (T.ds kids),D.sl 1 (List.map D.str nms),D.int .i64 pl])))] (AK cx (K60 (zaq m) p93 q60 u98) n 60 0 6 (EK cx 60 0))
noncomputable def FQ(m n:Nat)(kk:Int)(nm:List UInt8)(kids:List T)(nms:List (List UInt8))(pl:Int)(b bb:List (List UInt8))(k:Nat)(i:Int)(h:List D)(y:D):Option R1:=
 zc (zaq m (.sl 1 h) y (.sl 1 (bb.map .str))) fun b_1=>LQ m n kk nm kids nms pl b k (IntKind.i64.wrap (i+1)) b_1
def H60(kk:Int):Prop:=∀ (m n:Nat) (nm:List UInt8) (kids:List T) (nms:List (List UInt8)) (pl:Int) (b:List (List UInt8)) (k j:Nat) (h:List D) (x:T),b.length+nms.length<4294967296→j<kids.length→kids[j]?=some x →
 LQ m n kk nm kids nms pl b (k+1) j h=bif (decide (kk=7)&&decide (j=1))||(decide (kk=11)&&decide (j=0)) then LQ m n kk nm kids nms pl b k (IntKind.i64.wrap ((j:Int)+1)) h
  else FQ m n kk nm kids nms pl b (bif decide (kk=2)||(decide (j=1)&&(decide (kk=4)||decide (kk=5))) then b++nms else b) k j h x.d
theorem dI(j i:Nat):decide ((j:Int)=(i:Int))=decide (j=i):=by
 by_cases h:j=i
 ·rw [decide_eq_true h,decide_eq_true (by omega)]
 ·rw [decide_eq_false h,decide_eq_false (by omega)]
theorem yct:H60 2:=fun m n nm kids nms pl b k j h x hb hj hx=>by
 refine (z3t (zaq m) p93 q60 u98 n k h (b.map .str) nm kids nms pl j).trans ?_
 have e1:decide ((j:Int)=1)=decide (j=1):=dI j 1
 have e0:decide ((j:Int)=0)=decide (j=0):=dI j 0
 have e2:decide (([]:List D).length+(b.map D.str).length≤4294967296)=true:=decide_eq_true (by simp only [List.length_nil,List.length_map]; omega)
 have e3:decide (([]:List D).length+(b.map D.str).length=(b.map D.str).length)=true:=decide_eq_true (by simp only [List.length_nil,List.length_map]; omega)
 have e4:decide ((b.map D.str).length+(List.map D.str nms).length≤4294967296)=true:=decide_eq_true (by simp only [List.length_map]; omega)
 have g1:=zbu hj hx (FQ m n 2 nm kids nms pl b b k j h)
 have g2:=zbu hj hx (FQ m n 2 nm kids nms pl b (b++nms) k j h)
 rw [zq,ye hj] at *
 rw [e2,e3,e4,←List.map_append]
 exact g2
theorem ycs:H60 3:=fun m n nm kids nms pl b k j h x hb hj hx=>by
 refine (z3s (zaq m) p93 q60 u98 n k h (b.map .str) nm kids nms pl j).trans ?_
 have e1:decide ((j:Int)=1)=decide (j=1):=dI j 1
 have e0:decide ((j:Int)=0)=decide (j=0):=dI j 0
 have e2:decide (([]:List D).length+(b.map D.str).length≤4294967296)=true:=decide_eq_true (by simp only [List.length_nil,List.length_map]; omega)
 have e3:decide (([]:List D).length+(b.map D.str).length=(b.map D.str).length)=true:=decide_eq_true (by simp only [List.length_nil,List.length_map]; omega)
 have e4:decide ((b.map D.str).length+(List.map D.str nms).length≤4294967296)=true:=decide_eq_true (by simp only [List.length_map]; omega)
 have g1:=zbu hj hx (FQ m n 3 nm kids nms pl b b k j h)
 have g2:=zbu hj hx (FQ m n 3 nm kids nms pl b (b++nms) k j h)
 rw [zq,ye hj] at *
 rw [e1]
 cases decide (j=1)
 ·exact g1
 ·exact g1
theorem ycr:H60 4:=fun m n nm kids nms pl b k j h x hb hj hx=>by
 refine (z3r (zaq m) p93 q60 u98 n k h (b.map .str) nm kids nms pl j).trans ?_
 have e1:decide ((j:Int)=1)=decide (j=1):=dI j 1
 have e0:decide ((j:Int)=0)=decide (j=0):=dI j 0
 have e2:decide (([]:List D).length+(b.map D.str).length≤4294967296)=true:=decide_eq_true (by simp only [List.length_nil,List.length_map]; omega)
 have e3:decide (([]:List D).length+(b.map D.str).length=(b.map D.str).length)=true:=decide_eq_true (by simp only [List.length_nil,List.length_map]; omega)
 have e4:decide ((b.map D.str).length+(List.map D.str nms).length≤4294967296)=true:=decide_eq_true (by simp only [List.length_map]; omega)
 have g1:=zbu hj hx (FQ m n 4 nm kids nms pl b b k j h)
 have g2:=zbu hj hx (FQ m n 4 nm kids nms pl b (b++nms) k j h)
 rw [zq,ye hj] at *
 rw [e1,e2,e3,e4,←List.map_append]
 cases decide (j=1)
 ·exact g1
 ·exact g2
theorem ycq:H60 5:=fun m n nm kids nms pl b k j h x hb hj hx=>by
 refine (z3q (zaq m) p93 q60 u98 n k h (b.map .str) nm kids nms pl j).trans ?_
 have e1:decide ((j:Int)=1)=decide (j=1):=dI j 1
 have e0:decide ((j:Int)=0)=decide (j=0):=dI j 0
 have e2:decide (([]:List D).length+(b.map D.str).length≤4294967296)=true:=decide_eq_true (by simp only [List.length_nil,List.length_map]; omega)
 have e3:decide (([]:List D).length+(b.map D.str).length=(b.map D.str).length)=true:=decide_eq_true (by simp only [List.length_nil,List.length_map]; omega)
 have e4:decide ((b.map D.str).length+(List.map D.str nms).length≤4294967296)=true:=decide_eq_true (by simp only [List.length_map]; omega)
 have g1:=zbu hj hx (FQ m n 5 nm kids nms pl b b k j h)
 have g2:=zbu hj hx (FQ m n 5 nm kids nms pl b (b++nms) k j h)
 rw [zq,ye hj] at *
 rw [e1,e2,e3,e4,←List.map_append]
 cases decide (j=1)
 ·exact g1
 ·exact g2
theorem ycp:H60 6:=fun m n nm kids nms pl b k j h x hb hj hx=>by
 refine (z3p (zaq m) p93 q60 u98 n k h (b.map .str) nm kids nms pl j).trans ?_
 have e1:decide ((j:Int)=1)=decide (j=1):=dI j 1
 have e0:decide ((j:Int)=0)=decide (j=0):=dI j 0
 have e2:decide (([]:List D).length+(b.map D.str).length≤4294967296)=true:=decide_eq_true (by simp only [List.length_nil,List.length_map]; omega)
 have e3:decide (([]:List D).length+(b.map D.str).length=(b.map D.str).length)=true:=decide_eq_true (by simp only [List.length_nil,List.length_map]; omega)
 have e4:decide ((b.map D.str).length+(List.map D.str nms).length≤4294967296)=true:=decide_eq_true (by simp only [List.length_map]; omega)
 have g1:=zbu hj hx (FQ m n 6 nm kids nms pl b b k j h)
 have g2:=zbu hj hx (FQ m n 6 nm kids nms pl b (b++nms) k j h)
 rw [zq,ye hj] at *
 rw [e1]
 cases decide (j=1)
 ·exact g1
 ·exact g1
theorem yco:H60 7:=fun m n nm kids nms pl b k j h x hb hj hx=>by
 refine (z3o (zaq m) p93 q60 u98 n k h (b.map .str) nm kids nms pl j).trans ?_
 have e1:decide ((j:Int)=1)=decide (j=1):=dI j 1
 have e0:decide ((j:Int)=0)=decide (j=0):=dI j 0
 have e2:decide (([]:List D).length+(b.map D.str).length≤4294967296)=true:=decide_eq_true (by simp only [List.length_nil,List.length_map]; omega)
 have e3:decide (([]:List D).length+(b.map D.str).length=(b.map D.str).length)=true:=decide_eq_true (by simp only [List.length_nil,List.length_map]; omega)
 have e4:decide ((b.map D.str).length+(List.map D.str nms).length≤4294967296)=true:=decide_eq_true (by simp only [List.length_map]; omega)
 have g1:=zbu hj hx (FQ m n 7 nm kids nms pl b b k j h)
 have g2:=zbu hj hx (FQ m n 7 nm kids nms pl b (b++nms) k j h)
 rw [zq,ye hj] at *
 rw [e1]
 cases decide (j=1)
 ·exact g1
 ·rfl
theorem ycn:H60 8:=fun m n nm kids nms pl b k j h x hb hj hx=>by
 refine (z3n (zaq m) p93 q60 u98 n k h (b.map .str) nm kids nms pl j).trans ?_
 have e1:decide ((j:Int)=1)=decide (j=1):=dI j 1
 have e0:decide ((j:Int)=0)=decide (j=0):=dI j 0
 have e2:decide (([]:List D).length+(b.map D.str).length≤4294967296)=true:=decide_eq_true (by simp only [List.length_nil,List.length_map]; omega)
 have e3:decide (([]:List D).length+(b.map D.str).length=(b.map D.str).length)=true:=decide_eq_true (by simp only [List.length_nil,List.length_map]; omega)
 have e4:decide ((b.map D.str).length+(List.map D.str nms).length≤4294967296)=true:=decide_eq_true (by simp only [List.length_map]; omega)
 have g1:=zbu hj hx (FQ m n 8 nm kids nms pl b b k j h)
 have g2:=zbu hj hx (FQ m n 8 nm kids nms pl b (b++nms) k j h)
 rw [zq,ye hj] at *
 rw [e1]
 cases decide (j=1)
 ·exact g1
 ·exact g1
theorem ycm:H60 9:=fun m n nm kids nms pl b k j h x hb hj hx=>by
 refine (z3m (zaq m) p93 q60 u98 n k h (b.map .str) nm kids nms pl j).trans ?_
 have e1:decide ((j:Int)=1)=decide (j=1):=dI j 1
 have e0:decide ((j:Int)=0)=decide (j=0):=dI j 0
 have e2:decide (([]:List D).length+(b.map D.str).length≤4294967296)=true:=decide_eq_true (by simp only [List.length_nil,List.length_map]; omega)
 have e3:decide (([]:List D).length+(b.map D.str).length=(b.map D.str).length)=true:=decide_eq_true (by simp only [List.length_nil,List.length_map]; omega)
 have e4:decide ((b.map D.str).length+(List.map D.str nms).length≤4294967296)=true:=decide_eq_true (by simp only [List.length_map]; omega)
 have g1:=zbu hj hx (FQ m n 9 nm kids nms pl b b k j h)
 have g2:=zbu hj hx (FQ m n 9 nm kids nms pl b (b++nms) k j h)
 rw [zq,ye hj] at *
 rw [e1]
 cases decide (j=1)
 ·exact g1
 ·exact g1
theorem z88:H60 10:=fun m n nm kids nms pl b k j h x hb hj hx=>by
 refine (zyo (zaq m) p93 q60 u98 n k h (b.map .str) nm kids nms pl j).trans ?_
 have e1:decide ((j:Int)=1)=decide (j=1):=dI j 1
 have e0:decide ((j:Int)=0)=decide (j=0):=dI j 0
 have e2:decide (([]:List D).length+(b.map D.str).length≤4294967296)=true:=decide_eq_true (by simp only [List.length_nil,List.length_map]; omega)
 have e3:decide (([]:List D).length+(b.map D.str).length=(b.map D.str).length)=true:=decide_eq_true (by simp only [List.length_nil,List.length_map]; omega)
 have e4:decide ((b.map D.str).length+(List.map D.str nms).length≤4294967296)=true:=decide_eq_true (by simp only [List.length_map]; omega)
 have g1:=zbu hj hx (FQ m n 10 nm kids nms pl b b k j h)
 have g2:=zbu hj hx (FQ m n 10 nm kids nms pl b (b++nms) k j h)
 rw [zq,ye hj] at *
 rw [e1]
 cases decide (j=1)
 ·exact g1
 ·exact g1
theorem z87:H60 11:=fun m n nm kids nms pl b k j h x hb hj hx=>by
 refine (zyn (zaq m) p93 q60 u98 n k h (b.map .str) nm kids nms pl j).trans ?_
 have e1:decide ((j:Int)=1)=decide (j=1):=dI j 1
 have e0:decide ((j:Int)=0)=decide (j=0):=dI j 0
 have e2:decide (([]:List D).length+(b.map D.str).length≤4294967296)=true:=decide_eq_true (by simp only [List.length_nil,List.length_map]; omega)
 have e3:decide (([]:List D).length+(b.map D.str).length=(b.map D.str).length)=true:=decide_eq_true (by simp only [List.length_nil,List.length_map]; omega)
 have e4:decide ((b.map D.str).length+(List.map D.str nms).length≤4294967296)=true:=decide_eq_true (by simp only [List.length_map]; omega)
 have g1:=zbu hj hx (FQ m n 11 nm kids nms pl b b k j h)
 have g2:=zbu hj hx (FQ m n 11 nm kids nms pl b (b++nms) k j h)
 rw [zq,ye hj] at *
 rw [e1,e0]
 cases decide (j=1) <;> cases decide (j=0) <;> first | exact g1 | rfl
end Go.Vai
end

section
namespace Go.Vai
open Go.Proofs
theorem z5o{k:Int}(h:k=2∨k=3∨k=4∨k=5∨k=6∨k=7∨k=8∨k=9∨k=10∨k=11):H60 k:=by
 rcases h with rfl | rfl | rfl | rfl | rfl | rfl | rfl | rfl | rfl | rfl
 ·exact yct
 ·exact ycs
 ·exact ycr
 ·exact ycq
 ·exact ycp
 ·exact yco
 ·exact ycn
 ·exact ycm
 ·exact z88
 ·exact z87
theorem z9d{k:Int}{kids:List T}(h:Shp k kids):k=1∨(k=2∨k=3∨k=4∨k=5∨k=6∨k=7∨k=8∨k=9∨k=10∨k=11):=by
 cases h <;> omega
theorem z4f{k:Int}{kids:List T}(h:Shp k kids){j:Nat}{x:T}(hx:kids[j]?=some x):((decide (k=7)&&decide (j=1))||(decide (k=11)&&decide (j=0)))=true∨(Sp.right x||Sp.elem x)=true:=by
 cases h with
 | nam h e=>subst e; simp at hx
 | lam h e ha=>
  subst e
  rcases j with _ | j
  ·simp at hx; subst hx; right; rw [ha]; rfl
  ·simp at hx
 | all h ha=>exact .inr (ha x (List.mem_of_getElem? hx))
 | pi h e ha hb=>
  subst e
  rcases j with _ | _ | j
  ·simp at hx; subst hx; right; rw [ha]; rfl
  ·simp at hx; subst hx; right; rw [hb]; rfl
  ·simp at hx
 | «at» h e ha=>
  subst e; subst h
  rcases j with _ | _ | j
  ·simp at hx; subst hx; right; rw [ha]; rfl
  ·left; rfl
  ·simp at hx
 | elem h e ha=>
  subst e; subst h
  rcases j with _ | j
  ·left; rfl
  ·right
   exact ha x (List.mem_of_getElem? (i:=j) (by simpa using hx))
theorem zsy{x:T}:∀ {l:List T},x∈l→Sp.cnt x≤xa l
 | y::r,h=>by
  simp only [xa]
  cases h with
  | head=>omega
  | tail _ h=>have:=zsy h; omega
theorem z3u(m n:Nat){kk:Int}(hk:kk=2∨kk=3∨kk=4∨kk=5∨kk=6∨kk=7∨kk=8∨kk=9∨kk=10∨kk=11)(nm:List UInt8)(kids:List T)(nms:List (List UInt8))(pl:Int)(b:List (List UInt8))(k:Nat)(h:List D):LQ m n kk nm kids nms pl b (k+1) kids.length h=some (.ret (.d (.sl 1 h)),[]):=by
 have lds:=zq kids
 rcases hk with rfl | rfl | rfl | rfl | rfl | rfl | rfl | rfl | rfl | rfl
 ·have g:=z3t (zaq m) p93 q60 u98 n k h (b.map .str) nm kids nms pl kids.length
  rw [lds,yy,cond_false] at g
  exact g
 ·have g:=z3s (zaq m) p93 q60 u98 n k h (b.map .str) nm kids nms pl kids.length
  rw [lds,yy,cond_false] at g
  exact g
 ·have g:=z3r (zaq m) p93 q60 u98 n k h (b.map .str) nm kids nms pl kids.length
  rw [lds,yy,cond_false] at g
  exact g
 ·have g:=z3q (zaq m) p93 q60 u98 n k h (b.map .str) nm kids nms pl kids.length
  rw [lds,yy,cond_false] at g
  exact g
 ·have g:=z3p (zaq m) p93 q60 u98 n k h (b.map .str) nm kids nms pl kids.length
  rw [lds,yy,cond_false] at g
  exact g
 ·have g:=z3o (zaq m) p93 q60 u98 n k h (b.map .str) nm kids nms pl kids.length
  rw [lds,yy,cond_false] at g
  exact g
 ·have g:=z3n (zaq m) p93 q60 u98 n k h (b.map .str) nm kids nms pl kids.length
  rw [lds,yy,cond_false] at g
  exact g
 ·have g:=z3m (zaq m) p93 q60 u98 n k h (b.map .str) nm kids nms pl kids.length
  rw [lds,yy,cond_false] at g
  exact g
 ·have g:=zyo (zaq m) p93 q60 u98 n k h (b.map .str) nm kids nms pl kids.length
  rw [lds,yy,cond_false] at g
  exact g
 ·have g:=zyn (zaq m) p93 q60 u98 n k h (b.map .str) nm kids nms pl kids.length
  rw [lds,yy,cond_false] at g
  exact g
theorem m60:∀ m,zsl m
 | 0=>fun t b l hd _ _=>by cases t; simp only [T.depth] at hd; omega
 | m+1=>fun t b l hd ho hg=>by
  obtain ⟨k,nm,kids,nms,pl⟩:=t
  obtain ⟨hr,hb,hl⟩:=za2.1 hg
  have hsh:=z1f hr
  have ho2:=ho
  simp only [T.ok,Bool.and_eq_true] at ho2
  obtain ⟨⟨⟨⟨o1,o2⟩,o3⟩,o4⟩,o5⟩:=ho2
  simp only [T.depth] at hd
  simp only [Sp.cnt] at hb hl
  have hbs:yi b=true:=decide_eq_true (by omega)
  refine zl (z0r (m60 m)) (N:=kids.length+1) ?_
  refine (ydw (zaq m) p93 q60 u98 _ _ _ _ _ _ _ _).trans ?_
  by_cases h1:k=1
  ·subst h1
   have e1:decide ((1:Int)=1)=true:=rfl
   have e2:p93 (.sl 1 (b.map .str)) nm=some (Sp.mem nm b):=by unfold p93; rw [zcn hbs]; rfl
   have e3:u98 (.sl 1 (l.map .str)) nm=some ((Sp.put l nm).map .str):=by
    unfold u98; rw [zcn (decide_eq_true (by omega))]
    show zb (decide (l.length+1<4294967296)) _=_
    rw [decide_eq_true (by omega)]; rfl
   show zc (p93 (.sl 1 (b.map .str)) nm) (fun x=>bif x then some (Out.ret (V.d (.sl 1 (l.map .str))),[]) else zb (decide (nm.length≤big)) (bif decide (0≤q60 nm) then some (Out.ret (V.d (.sl 1 (l.map .str))),[]) else zc (u98 (.sl 1 (l.map .str)) nm) fun c=>some (Out.ret (V.d (.sl 1 c)),[])))=some (Out.ret (V.d (.sl 1 ((bif Sp.mem nm b||Sp.word nm then l else Sp.put l nm).map .str))),[])
   rw [e2,qe o1,z1n,e3]
   cases Sp.mem nm b
   ·cases Sp.word nm <;> rfl
   ·rfl
  ·rw [decide_eq_false h1,cond_false]
   have hks:=(z9d hsh).resolve_left h1
   have H:=z5o hks
   have hx:=z9j (fun k' i (s:List (List UInt8))=>LQ m (kids.length+1) k nm kids nms pl b k' i (s.map .str)) kids
    (fun i acc t=>bif (decide (k=7)&&decide (i=1))||(decide (k=11)&&decide (i=0)) then acc
      else y5 t (bif decide (k=2)||(decide (i=1)&&(decide (k=4)||decide (k=5))) then b++nms else b) acc)
    (fun l i acc=>vc l k nms b i acc) (fun i s=>by simp only [vc]) (fun x r i s=>by simp only [vc])
    (fun j s=>s.length+xa (kids.drop j)<2147483648) (fun s=>some (.ret (.d (.sl 1 (s.map .str))),[])) (yj o2)
    (fun k' j x s hj hx hi=>by
     have hmem:=List.mem_of_getElem? hx
     have hdr:kids.drop j=x::kids.drop (j+1):=by
      have:=List.drop_eq_getElem_cons hj
      rw [List.getElem?_eq_getElem hj] at hx
      cases hx
      exact this
     have hc:=zsy hmem
     rw [hdr] at hi
     simp only [xa] at hi
     have hstep:=H m (kids.length+1) nm kids nms pl b k' j (s.map .str) x (by omega) hj hx
     have hv:=z4f hsh hx
     refine ⟨hstep.trans ?_,?_⟩
     ·cases hsk:(decide (k=7)&&decide (j=1))||(decide (k=11)&&decide (j=0))
      ·have hre:=hv.resolve_left (by rw [hsk]; simp)
       simp only [cond_false]
       generalize hbb:(bif decide (k=2)||(decide (j=1)&&(decide (k=4)||decide (k=5))) then b++nms else b)=bb
       have hbl:bb.length≤b.length+nms.length:=by
        rw [←hbb]
        cases decide (k=2)||(decide (j=1)&&(decide (k=4)||decide (k=5)))
        ·simp
        ·simp
       unfold FQ
       rw [zmq (by have:=zeb hmem; omega) (wn o5 hmem) (za2.2 ⟨hre,by omega,by omega⟩)]
       rfl
      ·rfl
     ·cases (decide (k=7)&&decide (j=1))||(decide (k=11)&&decide (j=0))
      ·simp only [cond_false]
       have:=zdp x (bif decide (k=2)||(decide (j=1)&&(decide (k=4)||decide (k=5))) then b++nms else b) s
       omega
      ·simp only [cond_true]; omega)
    (fun k' s=>z3u m _ hks nm kids nms pl b k' _) (s:=l) (by rw [List.drop_zero]; omega) (k:=kids.length+1) (Nat.lt_succ_self _)
   have eg:y5 (.mk k nm kids nms pl) b l=vc kids k nms b 0 l:=by
    unfold y5
    rw [decide_eq_false h1]; rfl
   rw [eg]
   exact hx
theorem m52(l:List T)(hs:yi l=true)(ho:T.oks l=true)(hr:∀ t∈l,(Sp.right t||Sp.elem t)=true)(hc:xa l<2147483648):zh cx 52 [.d (.sl 5 (T.ds l))] []=some (.ret (.d (.sl 1 ((xr [] [] l).map .str))),[]):=by
 have hk:knows cx (zpz (zan (T.depths l))).S (zh cx):=zm4 (m88 _) zo
 refine zl hk (N:=l.length+1) ?_
 rw [ydz,zq]
 have h:=zh3 (fun k i (s:List (List UInt8))=>LP cx (zpz (zan (T.depths l))) (l.length+1) 52 0 3 k [(3,V.ptr 3 0),(6,V.d (D.sl 5 (T.ds l))),(7,V.d (D.int .i64 (l.length:Int))),(8,V.d (D.int .i64 i))] [(3,Ob.val 1 (V.sl 1 (s.map .str) 20)),(20,Ob.tok (s.map D.str).length)] (AK cx (zpz (zan (T.depths l))) (l.length+1) 52 0 3 (EK cx 52 0)))
  l (fun a t=>y5 t [] a) (fun j s=>s.length+xa (l.drop j)<2147483648) (fun s=>some (.ret (.d (.sl 1 (s.map .str))),[])) (yj hs)
  (fun k j x s hj hx hi=>by
   have hmem:=List.mem_of_getElem? hx
   have hdr:l.drop j=x::l.drop (j+1):=by
    have:=List.drop_eq_getElem_cons hj
    rw [List.getElem?_eq_getElem hj] at hx
    cases hx
    exact this
   have hcm:=zsy hmem
   rw [hdr] at hi
   simp only [xa] at hi
   have hg:=zdp x [] s
   refine ⟨?_,by omega⟩
   refine (ybt (zan (T.depths l)) (l.length+1) k l (s.map .str) j).trans ?_
   rw [ye hj,zq,ye hj,xd,z6,Int.toNat_natCast,hx]
   show za x.d.cells 0 _=_
   rw [yc]
   simp only [x5,w7,w0,wz,wy,wd]
   have hsp:=zhv (m:=T.depths l) (b:=[]) (l:=s) (zeb hmem) (wn ho hmem) (za2.2 ⟨hr x hmem,by simp only [List.length_nil]; omega,by omega⟩)
   show zc (zan (T.depths l) x.d (.sl 1 (([]:List (List UInt8)).map .str)) (s.map .str)) _=_
   rw [hsp]
   show zb _ _=_
   rw [Nat.beq_refl]
   rfl)
  (fun k s=>by
   refine (ybt (zan (T.depths l)) (l.length+1) k l (s.map .str) l.length).trans ?_
   rw [yy,cond_false]) (s:=[]) (by rw [List.drop_zero]; simp only [List.length_nil]; omega) (k:=l.length+1) (Nat.lt_succ_self _)
 exact h
end Go.Vai
end

section
namespace Go.Vai
open Go.Proofs
def qn:List V→Option D | [.d x]=>some x | _=>none
noncomputable def zhr(f:D→Option (List UInt8×Int)):CK R1:=zt 87 qn f mkE (CK.plain zm)
noncomputable def zch(f:D→Option (List UInt8×Int)):CK R1:=zt 92 qn f mkE (CK.plain zm)
def z23(a:List V)(σ:St):Option (List D×Nat):=match a,σ with | [.slo 0 1 n],[(0,.row l)]=>some (l,n) | _,_=>none
def ycd(s:List D→Option (List D))(S:CK R1):CK R1:=more 49 z23 (fun K q=>zc (s q.1) fun l=>zb (Nat.beq q.2 q.1.length) (K (.ret (.tup [])) [(0,.row l)]))
  (fun K q=>by
   simp only
   rw [za1]
   congr 1
   funext s
   simp only [zb,vh]
   rfl) S
def mkM(q:List D×List D):V:=.tup [.d (.map q.1 q.2),.d (.int .i64 0)]
def z4k(e:Int):V:=.tup [.d .nilmap,.d (.int .i64 e)]
noncomputable def z5n(pl:D→Option Int):CK R1:=zt 51 qn pl z4k (CK.plain zm)
noncomputable def zai(pl:D→Option (List D×List D))(al:D→Option (List D))(s:List D→Option (List D)):CK R1:=
 zt 51 qn pl mkM (zt 52 qn al (fun x=>.d (.sl 1 x)) (ycd s (CK.plain zm)))
def zws:List V→Option (D×(Int×Int)) | [.d x,.d (.int .i64 i),.d (.int .i64 k)]=>some (x,(i,k)) | _=>none
noncomputable def ycc(sp:D→D→D→Option (List D))(p:D→List UInt8→Option Bool):CK R1:=zt 60 zri (fun x=>sp x.1 x.2.1 x.2.2) (fun x=>.d (.sl 1 x)) (zt 93 zfm (fun q=>p q.1 q.2) mkB (CK.plain zm))
noncomputable def zbg(w:D→Option Int)(u:D→Int→Int→Option Bool):CK R1:=zt 56 qn w mkI (zt 57 zws (fun q=>u q.1 q.2.1 q.2.2) mkB (CK.plain zm))
noncomputable def ycg(r:D→Option Int)(al:D→Option (List D)):CK R1:=zt 58 qn r mkI (zt 52 qn al (fun x=>.d (.sl 1 x)) (CK.plain zm))
noncomputable def ycf(r:D→Option Bool)(sp:D→D→D→Option (List D)):CK R1:=zt 59 qn r mkB (zt 60 zri (fun x=>sp x.1 x.2.1 x.2.2) (fun x=>.d (.sl 1 x)) (CK.plain zm))
end Go.Vai
end
